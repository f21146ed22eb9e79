/- Plain laws over whole numbers and lists: PureUsageMerges. -/
import Derived.Test.YtogdnolkheifcaaQUsageMergesx
import Derived.Test.YtogdnolkheifcaaGivAlive09
import Derived.KernelRfl
import Derived.Laws.BitsLemmas
import Derived.Laws.BitsAllLaws
namespace Go.Proofs.Ytogdnolkheifcaa.Pure
open Go.RowKit Go.Proofs.Ytogdnolkheifcaa.PUsageMerges Go.Proofs.Ytogdnolkheifcaa.Base Go.Proofs.Ytogdnolkheifcaa.Given Go.Proofs.YtogdnolkheifcaaW.PrintWords Go.Proofs.YtogdnolkheifcaaW.PrintLast Go.Proofs.YtogdnolkheifcaaW.PrintMore
set_option linter.unusedVariables false
set_option linter.unusedSimpArgs false
theorem rd_get {xs : List Int} {i : Nat} (h : i < xs.length) : rd xs (i : Int) = xs[i] := by simp [rd, h]
theorem rd_nat (xs : List Int) (i : Nat) : rd xs (i : Int) = xs.getD i 0 := by simp [rd]
theorem i64_bd {n : Int} (h : (Lit.int .i64 n).wf = true) : -9223372036854775808 ≤ n ∧ n ≤ 9223372036854775807 := by simpa [Lit.wf, IntKind.min, IntKind.max, IntKind.signed, IntKind.bits] using h
theorem countV_no {d r s : Int} {l : List Int} (h : ¬ (GR d r s ∧ okA (s * pl d r) l)) : countV d r s l = ([], false) := by unfold countV; rw [if_neg h]
theorem countV_yes {d r s : Int} {l : List Int} (h : GR d r s ∧ okA (s * pl d r) l) : countV d r s l = (cl (pl d r) s.toNat (dd l), true) := by unfold countV; rw [if_pos h]
theorem countV_len (d r s : Int) (l : List Int) : (countV d r s l).1.length ≤ 64 := by
  by_cases h : GR d r s ∧ okA (s * pl d r) l
  · rw [countV_yes h, cl_len]; have := h.1.1.s1; omega
  · rw [countV_no h]; simp
theorem count_eq {d r s : Int} {l : List Int} (h : ¬ 20000 < l.length) : usage_Count.f d r s l = some (countV d r s l) := by unfold usage_Count.f; rw [if_neg h]
/-- The sum of what the segments of a list hold. -/
def sumAt (cs : List Int) (l : List Int) : Int := (l.map fun s => cs.getD s.toNat 0).sum
theorem sumAt_cons (cs : List Int) (x : Int) (l : List Int) : sumAt cs (x :: l) = cs.getD x.toNat 0 + sumAt cs l := by simp [sumAt]
theorem sumAt_perm {cs l m : List Int} (h : l.Perm m) : sumAt cs l = sumAt cs m := by
  induction h with
  | nil => rfl
  | cons x h ih => rw [sumAt_cons, sumAt_cons, ih]
  | swap x y l => simp only [sumAt_cons]; omega
  | trans _ _ h1 h2 => exact h1.trans h2
theorem sumAt_ge {cs : List Int} {b : Int} : ∀ {l : List Int}, (∀ x ∈ l, b ≤ 2 * cs.getD x.toNat 0) → (l.length : Int) * b ≤ 2 * sumAt cs l
  | [], _ => by simp [sumAt]
  | x :: l, h => by
    have ih := sumAt_ge (l := l) fun y hy => h y (by simp [hy])
    have h1 := h x (by simp)
    rw [sumAt_cons, List.length_cons]
    have e : ((l.length + 1 : Nat) : Int) * b = (l.length : Int) * b + b := by
      rw [show ((l.length + 1 : Nat) : Int) = (l.length : Int) + 1 by omega, Int.add_mul, Int.one_mul]
    omega
/-- Where the two that hold least hold more than D together, all hold more than half of D each. -/
theorem many {cs : List Int} {D : Int} {M : List Int} (hM : M.Pairwise (segLt cs)) (hn : ∀ x ∈ M, 0 ≤ cs.getD x.toNat 0) (h2 : 2 ≤ M.length) (hc : (cutP cs D M).length < 2) : (M.length : Int) * (D + 1) ≤ 2 * sumAt cs M := by
  match M, hM, hn, h2, hc with
  | [], _, _, h2, _ => simp at h2
  | [_], _, _, h2, _ => simp at h2
  | x :: y :: l, hM, hn, _, hc =>
    have n1 := hn x (by simp)
    have n2 := hn y (by simp)
    rw [List.pairwise_cons, List.pairwise_cons] at hM
    obtain ⟨hx, hy, _⟩ := hM
    have hxy := hx y (by simp)
    unfold segLt at hxy
    have hs : D + 1 ≤ cs.getD x.toNat 0 + cs.getD y.toNat 0 := by
      refine Int.not_lt.1 fun h => ?_
      simp only [cutP] at hc
      rw [if_neg (by omega), if_neg (by omega)] at hc
      simp only [List.length_cons] at hc
      omega
    have hl : (l.length : Int) * (D + 1) ≤ 2 * sumAt cs l := sumAt_ge fun z hz => by
      have := hy z hz
      unfold segLt at this
      omega
    rw [sumAt_cons, sumAt_cons, List.length_cons, List.length_cons]
    have e : ((l.length + 1 + 1 : Nat) : Int) * (D + 1) = (l.length : Int) * (D + 1) + 2 * (D + 1) := by
      rw [show ((l.length + 1 + 1 : Nat) : Int) = (l.length : Int) + 2 by omega, Int.add_mul]
    omega
/-- All of the segments, none taken. -/
theorem segP_all (cs : List Int) (S : Nat) : segP cs [] S = (List.range S).map fun (s : Nat) => (s, cs.getD s 0) := by
  unfold segP
  rw [List.filter_eq_self.2 (fun s _ => by simp)]
theorem sumAt_app (cs : List Int) (l m : List Int) : sumAt cs (l ++ m) = sumAt cs l + sumAt cs m := by simp [sumAt]
theorem vs_upto (cs : List Int) (hc : ∀ c ∈ cs, 0 ≤ c) : ∀ k, k ≤ cs.length → (vs (segP cs [] k)).length = used (cs.take k) ∧ sumAt cs (vs (segP cs [] k)) = (cs.take k).sum := by
  intro k
  induction k with
  | zero => intro _; simp [segP, vs, used, sumAt]
  | succ k ih =>
    intro h
    obtain ⟨h1, h2⟩ := ih (by omega)
    have e : cs.take (k + 1) = cs.take k ++ [cs[k]'(by omega)] := List.take_succ_eq_append_getElem (by omega)
    have eg : cs.getD k 0 = cs[k]'(by omega) := by rw [List.getD_eq_getElem?_getD, List.getElem?_eq_getElem (by omega)]; rfl
    have hp := hc (cs[k]'(by omega)) (List.getElem_mem _)
    rw [segP_succ, if_neg (by simp), e, used_snoc, List.sum_append]
    by_cases hk : 0 < cs.getD k 0
    · rw [vs_hit _ (x := (k, cs.getD k 0)) hk, List.length_append, sumAt_app, h1, h2, if_pos (by omega)]
      refine ⟨rfl, ?_⟩
      simp only [sumAt, List.map_cons, List.map_nil, Int.toNat_natCast, eg]
    · rw [vs_miss _ (x := (k, cs.getD k 0)) hk, h1, h2, if_neg (by omega)]
      have h0 : cs[k]'(by omega) = 0 := by omega
      rw [h0]
      simp
theorem vs_all (cs : List Int) (hc : ∀ c ∈ cs, 0 ≤ c) : (vs (segP cs [] cs.length)).length = used cs ∧ sumAt cs (vs (segP cs [] cs.length)) = cs.sum := by
  have h := vs_upto cs hc cs.length (Nat.le_refl _)
  rwa [List.take_length] at h
theorem vs_nodup (cs tk : List Int) (S : Nat) : (vs (segP cs tk S)).Nodup := (vs_rises cs tk S).imp fun h => Int.ne_of_lt h
/-- Where the cleaner takes none, few segments are in use. -/
theorem used_few {cs : List Int} {D : Int} {k : Nat} (hD : 1 ≤ D) (hc : ∀ c ∈ cs, 0 ≤ c) (ha : cs.sum ≤ k * D) (hv : two (vicL cs [] D cs.length) = []) : used cs ≤ 2 * k + 1 := by
  obtain ⟨h1, h2⟩ := vs_all cs hc
  have hp := sortL_perm cs (vs (segP cs [] cs.length))
  refine Nat.le_of_not_lt fun hlt => ?_
  have hlt' : 2 * k + 1 < used cs := hlt
  have hc2 : (cutP cs D (sortL cs (vs (segP cs [] cs.length)))).length < 2 := by
    unfold two vicL at hv
    refine Nat.lt_of_not_le fun h => ?_
    rw [if_neg (by omega)] at hv
    rw [hv] at h
    simp at h
  have hm := many (sortL_sorted cs _ (vs_nodup cs [] cs.length)) (fun x hx => by
    obtain ⟨s, rfl, _, _, h3, _⟩ := mem_vs (hp.mem_iff.1 hx)
    rw [Int.toNat_natCast]; omega) (by rw [hp.length_eq, h1]; omega) hc2
  rw [hp.length_eq, h1, sumAt_perm hp, h2] at hm
  have k1 : ((2 * k + 2 : Nat) : Int) * (D + 1) ≤ (used cs : Int) * (D + 1) := Int.mul_le_mul_of_nonneg_right (by omega) (by omega)
  have k2 : ((2 * k + 2 : Nat) : Int) * (D + 1) = 2 * ((k : Int) * D) + 2 * (k : Int) + 2 * D + 2 := by
    rw [show ((2 * k + 2 : Nat) : Int) = 2 * (k : Int) + 2 by omega, Int.add_mul, Int.mul_add, Int.mul_assoc]
    omega
  omega
theorem cutP_take (cs : List Int) : ∀ (M : List Int) (room : Int), ∃ n, cutP cs room M = M.take n
  | [], _ => ⟨0, rfl⟩
  | x :: M, room => by
    obtain ⟨n, h⟩ := cutP_take cs M (room - cs.getD x.toNat 0)
    simp only [cutP]
    by_cases hx : room < cs.getD x.toNat 0
    · exact ⟨0, by rw [if_pos hx]; rfl⟩
    · exact ⟨n + 1, by rw [if_neg hx, h]; rfl⟩
theorem cutP_sum (cs : List Int) : ∀ (M : List Int) (room : Int), 0 ≤ room → sumAt cs (cutP cs room M) ≤ room
  | [], _, h => by simpa [cutP, sumAt] using h
  | x :: M, room, h => by
    simp only [cutP]
    by_cases hx : room < cs.getD x.toNat 0
    · rw [if_pos hx]; simpa [sumAt] using h
    · rw [if_neg hx, sumAt_cons]
      have := cutP_sum cs M (room - cs.getD x.toNat 0) (by omega)
      omega
/-- What the cleaner takes: in use, not taken, each once, no more than a segment's places together; never one alone. -/
structure Vic (cs tk : List Int) (D : Int) (v : List Int) : Prop where
  at_ : ∀ x ∈ v, ∃ s : Nat, x = s ∧ s < cs.length ∧ ¬ (s : Int) ∈ tk ∧ 0 < cs.getD s 0
  nd : v.Nodup
  sum : sumAt cs v ≤ D
  one : v.length ≠ 1
theorem vic_of (cs tk : List Int) {D : Int} (S : Nat) (hD : 0 ≤ D) : Vic cs tk D (two (vicL cs tk D S)) := by
  have hp := sortL_perm cs (vs (segP cs tk S))
  unfold two
  by_cases h2 : (vicL cs tk D S).length < 2
  · rw [if_pos h2]
    exact ⟨fun x hx => absurd hx (by simp), List.nodup_nil, by simpa [sumAt] using hD, by simp⟩
  · rw [if_neg h2]
    obtain ⟨n, hn⟩ := cutP_take cs (sortL cs (vs (segP cs tk S))) D
    have hv : vicL cs tk D S = (sortL cs (vs (segP cs tk S))).take n := hn
    refine ⟨fun x hx => ?_, ?_, cutP_sum cs _ _ hD, by omega⟩
    · rw [hv] at hx
      obtain ⟨s, e, _, h3, h4, h5⟩ := mem_vs (hp.mem_iff.1 (List.mem_of_mem_take hx))
      exact ⟨s, e, h5, h3, h4⟩
    · rw [hv]
      exact ((hp.nodup_iff).2 (vs_nodup cs tk S)).sublist (List.take_sublist _ _)
theorem sum_take_bd {cs : List Int} {B : Int} (h0 : ∀ c ∈ cs, 0 ≤ c ∧ c ≤ B) : ∀ k, k ≤ cs.length → 0 ≤ (cs.take k).sum ∧ (cs.take k).sum ≤ k * B := by
  intro k
  induction k with
  | zero => intro _; simp
  | succ k ih =>
    intro h
    have ih := ih (by omega)
    have e : cs.take (k + 1) = cs.take k ++ [cs[k]'(by omega)] := List.take_succ_eq_append_getElem (by omega)
    have hb := h0 (cs[k]'(by omega)) (List.getElem_mem _)
    rw [e, List.sum_append]
    have e2 : ((k + 1 : Nat) : Int) * B = (k : Int) * B + B := by rw [show ((k + 1 : Nat) : Int) = (k : Int) + 1 by omega, Int.add_mul, Int.one_mul]
    simp only [List.sum_cons, List.sum_nil]
    omega
theorem cl_mem_bd (D : Int) (S : Nat) (P : List Int) : ∀ c ∈ cl D S P, 0 ≤ c ∧ c ≤ P.length := by
  intro c hc
  simp only [cl, List.mem_map] at hc
  obtain ⟨k, _, rfl⟩ := hc
  have := List.length_filter_le (hit D k) P
  omega
theorem sumAt_bd {cs : List Int} (h0 : ∀ c ∈ cs, 0 ≤ c ∧ c ≤ 5000) : ∀ l : List Int, 0 ≤ sumAt cs l ∧ sumAt cs l ≤ l.length * 5000
  | [] => by simp [sumAt]
  | x :: l => by
    have ih := sumAt_bd h0 l
    have hx : 0 ≤ cs.getD x.toNat 0 ∧ cs.getD x.toNat 0 ≤ 5000 := by
      rcases Nat.lt_or_ge x.toNat cs.length with h | h
      · rw [List.getD_eq_getElem?_getD, List.getElem?_eq_getElem h]; exact h0 _ (List.getElem_mem _)
      · rw [List.getD_eq_getElem?_getD, List.getElem?_eq_none h]; simp
    rw [sumAt_cons, List.length_cons]
    omega
theorem merges_l3 {cs : List Int} {D : Int} {a0 a1 a2 : Int} (hg : GR a0 a1 a2) (hD : pl a0 a1 = D) (hS : a2.toNat = cs.length) (hl : cs.length ≤ 64) (h0 : ∀ c ∈ cs, 0 ≤ c ∧ c ≤ 5000) :
    ∀ (d k i : Nat), i + d = cs.length → d < k → morainelaw09_UsageMerges.l3 k cs (used (cs.take i) : Int) (cs.take i).sum (i : Int) a0 a1 a2 = some true := by
  have hp := pl_bd hg.1
  intro d
  induction d with
  | zero =>
    intro k i hi hk
    obtain ⟨k, rfl⟩ : ∃ m, k = m + 1 := ⟨k - 1, by omega⟩
    obtain rfl : i = cs.length := by omega
    have hs := sum_take_bd h0 cs.length (Nat.le_refl _)
    rw [List.take_length] at hs ⊢
    have hu := used_le cs
    simp only [morainelaw09_UsageMerges.l3]
    rw [if_neg (by omega), Places_pos hg, Option.bind_some]
    unfold usage_Victims.f
    rw [Option.bind_some, if_pos hg, hD, if_neg (by omega), w64 (n := cs.sum + D) (by omega) (by omega), w64 (n := cs.sum + D - 1) (by omega) (by omega), Int.tdiv_eq_ediv_of_nonneg (by omega)]
    have q1 : 0 ≤ (cs.sum + D - 1) / D := Int.ediv_nonneg (by omega) (by omega)
    have q2 : (cs.sum + D - 1) / D ≤ cs.sum + D - 1 := Int.ediv_le_self _ (by omega)
    rw [w64 (n := (cs.sum + D - 1) / D) (by omega) (by omega), w64 (n := 2 * ((cs.sum + D - 1) / D)) (by omega) (by omega), w64 (n := 2 * ((cs.sum + D - 1) / D) + 1) (by omega) (by omega)]
    by_cases hc : (used cs : Int) ≤ 2 * ((cs.sum + D - 1) / D) + 1
    · rw [if_pos hc]
    · rw [if_neg hc]
      have hv : ¬ two (vicL cs [] D cs.length) = [] := by
        intro hv
        have q3 : cs.sum ≤ ((((cs.sum + D - 1) / D).toNat : Nat) : Int) * D := by
          rw [Int.toNat_of_nonneg q1]
          have m1 := Int.emod_add_mul_ediv (cs.sum + D - 1) D
          have m2 := Int.emod_lt_of_pos (cs.sum + D - 1) (show 0 < D by omega)
          rw [Int.mul_comm] at m1
          omega
        have := used_few (k := ((cs.sum + D - 1) / D).toNat) (by omega) (fun c hc => (h0 c hc).1) q3 hv
        omega
      have h2 : 2 ≤ (two (vicL cs [] D cs.length)).length := by
        unfold two at hv ⊢
        by_cases h : (vicL cs [] D cs.length).length < 2
        · rw [if_pos h] at hv; exact absurd rfl hv
        · rw [if_neg h]; omega
      rw [hS, decide_eq_true (by omega)]
  | succ d ih =>
    intro k i hi hk
    obtain ⟨k, rfl⟩ : ∃ m, k = m + 1 := ⟨k - 1, by omega⟩
    have hs := sum_take_bd h0 i (by omega)
    have hu : used (cs.take i) ≤ i := Nat.le_trans (used_le _) (List.length_take_le _ _)
    have e : cs.take (i + 1) = cs.take i ++ [cs[i]'(by omega)] := List.take_succ_eq_append_getElem (by omega)
    have hg' := h0 (cs[i]'(by omega)) (List.getElem_mem _)
    have := ih k (i + 1) (by omega) (by omega)
    rw [e, List.sum_append, used_snoc] at this
    simp only [morainelaw09_UsageMerges.l3]
    rw [if_pos (by omega), if_pos (by omega), rd_get (show i < cs.length by omega), w64 (n := (cs.take i).sum + cs[i]) (by omega) (by omega), w64 (n := (i : Int) + 1) (by omega) (by omega), w64 (n := (used (cs.take i) : Int) + 1) (by omega) (by omega)]
    by_cases hc : cs[i]'(by omega) > 0
    · rw [if_pos hc]; rw [if_pos (by omega)] at this; simpa using this
    · rw [if_neg hc]; rw [if_neg (by omega)] at this; simpa using this
theorem merges_l2 {cs tk v : List Int} {a0 a1 a2 x y : Int} (hv : v.length ≤ 64) {i : Nat} (hi : i < v.length) (hnd : v.Nodup) {s : Nat} (hr : rd v (i : Int) = (s : Int)) (hs : s < cs.length) (hl : cs.length ≤ 64) (K : Nat) (hw : wrap64 (x + cs.getD s 0) = y)
    (H : ∀ k, K ≤ k → morainelaw09_UsageMerges.l0 k tk cs v y ((i + 1 : Nat) : Int) a0 a1 a2 = some true) :
    ∀ (d k j : Nat), j + d = i → K + d < k → morainelaw09_UsageMerges.l2 k tk cs v x (i : Int) (j : Int) a0 a1 a2 = some true := by
  intro d
  induction d with
  | zero =>
    intro k j hj hk
    obtain ⟨k, rfl⟩ : ∃ m, k = m + 1 := ⟨k - 1, by omega⟩
    simp only [morainelaw09_UsageMerges.l2]
    rw [if_neg (by omega), if_pos (by omega), if_pos (by omega), hr, if_pos (by omega), if_pos (by omega), rd_nat, hw, w64 (n := (i : Int) + 1) (by omega) (by omega)]
    exact H k (by omega)
  | succ d ih =>
    intro k j hj hk
    obtain ⟨k, rfl⟩ : ∃ m, k = m + 1 := ⟨k - 1, by omega⟩
    simp only [morainelaw09_UsageMerges.l2]
    have hne : ¬ rd v (j : Int) = rd v (i : Int) := by
      rw [rd_get (show j < v.length by omega), rd_get hi]
      intro he
      have := (List.getElem_inj hnd).1 he
      omega
    rw [if_pos (by omega), if_pos (by omega), if_pos (by omega), if_pos (by omega), if_pos (by omega), if_neg hne, w64 (n := (j : Int) + 1) (by omega) (by omega)]
    exact ih k (j + 1) (by omega) (by omega)
theorem merges_l1 {cs tk v : List Int} {a0 a1 a2 x : Int} (ht : tk.length ≤ 100) {i : Nat} (hi : i < v.length) {s : Nat} (hr : rd v (i : Int) = (s : Int)) (hst : ¬ (s : Int) ∈ tk) (K : Nat)
    (H : ∀ k, K ≤ k → morainelaw09_UsageMerges.l2 k tk cs v x (i : Int) 0 a0 a1 a2 = some true) :
    ∀ (d k j : Nat), j + d = tk.length → K + d < k → morainelaw09_UsageMerges.l1 k tk cs v x (i : Int) (j : Int) a0 a1 a2 = some true := by
  intro d
  induction d with
  | zero =>
    intro k j hj hk
    obtain ⟨k, rfl⟩ : ∃ m, k = m + 1 := ⟨k - 1, by omega⟩
    simp only [morainelaw09_UsageMerges.l1]
    rw [if_neg (by omega)]
    exact H k (by omega)
  | succ d ih =>
    intro k j hj hk
    obtain ⟨k, rfl⟩ : ∃ m, k = m + 1 := ⟨k - 1, by omega⟩
    simp only [morainelaw09_UsageMerges.l1]
    have hne : ¬ rd tk (j : Int) = rd v (i : Int) := by
      rw [rd_get (show j < tk.length by omega), hr]
      intro he
      exact hst (he ▸ List.getElem_mem _)
    rw [if_pos (by omega), if_pos (by omega), if_pos (by omega), if_pos (by omega), if_neg hne, w64 (n := (j : Int) + 1) (by omega) (by omega)]
    exact ih k (j + 1) (by omega) (by omega)
theorem merges_l0 {cs tk v : List Int} {D : Int} {a0 a1 a2 : Int} (hg : GR a0 a1 a2) (hD : pl a0 a1 = D) (hS : a2.toNat = cs.length) (hl : cs.length ≤ 64) (h0 : ∀ c ∈ cs, 0 ≤ c ∧ c ≤ 5000) (ht : tk.length ≤ 100) (hv : v.length ≤ 64) (V : Vic cs tk D v) :
    ∀ (d k i : Nat), i + d = v.length → 100 + 200 * d < k → morainelaw09_UsageMerges.l0 k tk cs v (sumAt cs (v.take i)) (i : Int) a0 a1 a2 = some true := by
  have hp := pl_bd hg.1
  intro d
  induction d with
  | zero =>
    intro k i hi hk
    obtain ⟨k, rfl⟩ : ∃ m, k = m + 2 := ⟨k - 2, by omega⟩
    obtain rfl : i = v.length := by omega
    have h1 := V.one
    have h2 := V.sum
    rw [List.take_length]
    simp only [morainelaw09_UsageMerges.l0]
    rw [if_neg (by omega), if_neg (by omega), Places_pos hg, Option.bind_some, hD, decide_eq_false (by omega)]
    simp only [morainelaw09_UsageMerges.j5]
    rw [if_neg (by simp)]
    have := merges_l3 hg hD hS hl h0 cs.length k 0 (by omega) (by omega)
    simpa [used] using this
  | succ d ih =>
    intro k i hi hk
    obtain ⟨k, rfl⟩ : ∃ m, k = m + 2 := ⟨k - 2, by omega⟩
    have hlt : i < v.length := by omega
    obtain ⟨s, hs, hsl, hst, hsp⟩ := V.at_ (v[i]'hlt) (List.getElem_mem _)
    have hr : rd v (i : Int) = (s : Int) := by rw [rd_get hlt, hs]
    have hb := sumAt_bd h0 (v.take i)
    have hb1 : (v.take i).length ≤ 64 := Nat.le_trans (List.length_take_le' _ _) hv
    have hcs : cs.getD s 0 ≤ 5000 := by
      rw [List.getD_eq_getElem?_getD, List.getElem?_eq_getElem hsl]; exact (h0 _ (List.getElem_mem _)).2
    have e : v.take (i + 1) = v.take i ++ [v[i]'hlt] := List.take_succ_eq_append_getElem hlt
    simp only [morainelaw09_UsageMerges.l0]
    rw [if_pos (by omega), if_pos (by omega), hr, if_neg (by omega), if_neg (by omega), if_pos (by omega), if_pos (by omega), rd_nat]
    rw [show (cs.getD s 0 == 0) = false from beq_eq_false_iff_ne.2 (by omega)]
    simp only [morainelaw09_UsageMerges.j2]
    rw [if_neg (by simp)]
    have hi' : i < 64 := by omega
    have := merges_l1 (cs := cs) (x := sumAt cs (v.take i)) (a0 := a0) (a1 := a1) (a2 := a2) ht hlt hr hst (100 + 200 * d + 1 + i + 1) (fun k hk => merges_l2 hv hlt V.nd hr hsl hl (100 + 200 * d + 1) (y := sumAt cs (v.take (i + 1))) (by
      rw [e, sumAt_app, hs, w64 (by omega) (by omega)]
      simp [sumAt]) (fun k hk => ih k (i + 1) (by omega) (by omega)) i k 0 (by omega) (by omega)) tk.length k 0 (by omega) (by omega)
    simpa using this
theorem two_len {cs tk : List Int} {D : Int} {S : Nat} (hS : S ≤ 64) : (two (vicL cs tk D S)).length ≤ 64 := by
  have hp := (sortL_perm cs (vs (segP cs tk S))).length_eq
  have h1 := vs_len (segP cs tk S)
  have h2 := segP_len cs tk S
  obtain ⟨n, hn⟩ := cutP_take cs (sortL cs (vs (segP cs tk S))) D
  unfold two
  by_cases h : (vicL cs tk D S).length < 2
  · rw [if_pos h]; simp
  · rw [if_neg h]
    unfold vicL
    rw [hn]
    exact Nat.le_trans (List.length_take_le' _ _) (by omega)
theorem UsageMerges (a0 a1 a2 : Int) (l1 l2 : List Int) (w0 : (Lit.int .i64 a0).wf = true) (w1 : (Lit.int .i64 a1).wf = true) (w2 : (Lit.int .i64 a2).wf = true) (hb1 : ∀ x ∈ l1, (Lit.int .i64 x).wf = true) (hs1 : l1.length * 8 ≤ 140737488351232) (hb2 : ∀ x ∈ l2, (Lit.int .i64 x).wf = true) (hs2 : l2.length * 8 ≤ 140737488351232) :
    ∃ k, morainelaw09_UsageMerges.f k a0 a1 a2 l1 l2 = some true := by
  refine ⟨20001, ?_⟩
  unfold morainelaw09_UsageMerges.f morainelaw09_alive.f
  rw [Option.bind_some, if_pos rfl]
  by_cases c : (l1.length : Int) > 5000
  · rw [if_pos c]; simp only [morainelaw09_UsageMerges.j0]; rw [if_pos trivial]
  rw [if_neg c]
  simp only [morainelaw09_UsageMerges.j0]
  by_cases c2 : (l2.length : Int) > 100
  · rw [if_pos (decide_eq_true c2)]
  rw [if_neg (by rw [decide_eq_false c2]; simp), count_eq (by omega), Option.bind_some]
  have hl := countV_len a0 a1 a2 l1
  by_cases h : GR a0 a1 a2 ∧ okA (a2 * pl a0 a1) l1
  · rw [countV_yes h] at hl ⊢
    have hp := pl_bd h.1.1
    have h64 := h.1.1.s1
    have h12 := h.1.1.s0
    rw [if_pos rfl]
    have hlen : (cl (pl a0 a1) a2.toNat (dd l1)).length = a2.toNat := cl_len _ _ _
    have hbd := cl_mem_bd (pl a0 a1) a2.toNat (dd l1)
    have hdl := dd_len l1
    simp only at hl ⊢
    generalize hcs : cl (pl a0 a1) a2.toNat (dd l1) = cs at *
    unfold usage_Victims.f
    rw [Option.bind_some, if_pos h.1]
    have := merges_l0 (tk := l2) h.1 rfl hlen.symm hl (fun c hc => by have := hbd c hc; omega) (by omega) (two_len (by omega)) (vic_of cs l2 a2.toNat (by omega)) (two (vicL cs l2 (pl a0 a1) a2.toNat)).length 20000 0 (by omega) (by have := two_len (cs := cs) (tk := l2) (D := pl a0 a1) (S := a2.toNat) (by omega); omega)
    simpa [sumAt] using this
  · rw [countV_no h, if_neg (by simp)]
end Go.Proofs.Ytogdnolkheifcaa.Pure
