/- Plain laws over whole numbers and lists: PureUsageTakes. -/
import Derived.Test.YtogdnolkheifcaaQUsageTakesx
import Derived.Test.YtogdnolkheifcaaPureGeoRef
import Derived.Test.YtogdnolkheifcaaGivAlive09
import Derived.KernelRfl
import Derived.Laws.BitsLemmas
import Derived.Laws.BitsAllLaws
namespace Go.Proofs.Ytogdnolkheifcaa.Pure
open Go.RowKit Go.Proofs.Ytogdnolkheifcaa.PUsageTakes Go.Proofs.Ytogdnolkheifcaa.Base Go.Proofs.Ytogdnolkheifcaa.Base2x Go.Proofs.Ytogdnolkheifcaa.Given Go.Proofs.YtogdnolkheifcaaW.PrintWords Go.Proofs.YtogdnolkheifcaaW.PrintLast Go.Proofs.YtogdnolkheifcaaW.PrintMore
set_option linter.unusedVariables false
set_option linter.unusedSimpArgs false
theorem rd_get {xs : List Int} {i : Nat} (h : i < xs.length) : rd xs (i : Int) = xs[i] := by simp [rd, h]
theorem rd_nat (xs : List Int) (i : Nat) : rd xs (i : Int) = xs.getD i 0 := by simp [rd]
theorem i64_bd {n : Int} (h : (Lit.int .i64 n).wf = true) : -9223372036854775808 ≤ n ∧ n ≤ 9223372036854775807 := by simpa [Lit.wf, IntKind.min, IntKind.max, IntKind.signed, IntKind.bits] using h
theorem countV_no {d r s : Int} {l : List Int} (h : ¬ (GR d r s ∧ okA (s * pl d r) l)) : countV d r s l = ([], false) := by unfold countV; rw [if_neg h]
theorem countV_yes {d r s : Int} {l : List Int} (h : GR d r s ∧ okA (s * pl d r) l) : countV d r s l = (cl (pl d r) s.toNat (dd l), true) := by unfold countV; rw [if_pos h]
theorem countV_len (d r s : Int) (l : List Int) : (countV d r s l).1.length ≤ 64 := by
  by_cases h : GR d r s ∧ okA (s * pl d r) l
  · rw [countV_yes h, cl_len]; have := h.1.1.s1; omega
  · rw [countV_no h]; simp
theorem count_eq {d r s : Int} {l : List Int} (h : ¬ 20000 < l.length) : usage_Count.f d r s l = some (countV d r s l) := by unfold usage_Count.f; rw [if_neg h]
theorem sameI_loop (x y : List Int) (hl : x.length = y.length) (hn : x.length ≤ 140737488355328) (d : Nat) : ∀ (k i : Nat), i + d = x.length → d < k →
    moraineref00_SameInts.l0 k x y (i : Int) = some (decide (x.drop i = y.drop i)) := by
  induction d with
  | zero =>
    intro k i hi hk
    obtain ⟨k, rfl⟩ : ∃ m, k = m + 1 := ⟨k - 1, by omega⟩
    simp only [moraineref00_SameInts.l0]
    rw [if_neg (by omega), List.drop_of_length_le (by omega), List.drop_of_length_le (by omega)]; simp
  | succ d ih =>
    intro k i hi hk
    obtain ⟨k, rfl⟩ : ∃ m, k = m + 1 := ⟨k - 1, by omega⟩
    simp only [moraineref00_SameInts.l0]
    rw [if_pos (by omega), if_pos (by omega), if_pos (by omega), rd_get (show i < x.length by omega), rd_get (show i < y.length by omega)]
    have ex : x.drop i = x[i] :: x.drop (i + 1) := List.drop_eq_getElem_cons (by omega)
    have ey : y.drop i = y[i] :: y.drop (i + 1) := List.drop_eq_getElem_cons (by omega)
    by_cases h : x[i] = y[i]
    · rw [if_pos h, w64 (by omega) (by omega)]
      have := ih k (i + 1) (by omega) (by omega)
      rw [show ((i : Int) + 1) = ((i + 1 : Nat) : Int) by omega, this]
      exact congrArg some (decide_eq_decide.2 ⟨fun e => by rw [ex, ey, h, e], fun e => by rw [ex, ey] at e; exact (List.cons.inj e).2⟩)
    · rw [if_neg h, decide_eq_false (fun e => by rw [ex, ey] at e; exact h (List.cons.inj e).1)]
theorem sameI_eq (x y : List Int) (hn : x.length ≤ 140737488355328) (k : Nat) (hk : x.length < k) : moraineref00_SameInts.f k x y = some (decide (x = y)) := by
  unfold moraineref00_SameInts.f
  by_cases hl : x.length = y.length
  · rw [if_pos (by omega)]
    have := sameI_loop x y hl hn x.length k 0 (by omega) hk
    simpa using this
  · rw [if_neg (by omega)]
    have : x ≠ y := fun e => hl (by rw [e])
    simp [this]
/-- The sum of what the segments of a list hold. -/
def sumAt (cs : List Int) (l : List Int) : Int := (l.map fun s => cs.getD s.toNat 0).sum
theorem sumAt_cons (cs : List Int) (x : Int) (l : List Int) : sumAt cs (x :: l) = cs.getD x.toNat 0 + sumAt cs l := by simp [sumAt]
theorem sumAt_perm {cs l m : List Int} (h : l.Perm m) : sumAt cs l = sumAt cs m := by
  induction h with
  | nil => rfl
  | cons x h ih => rw [sumAt_cons, sumAt_cons, ih]
  | swap x y l => simp only [sumAt_cons]; omega
  | trans _ _ h1 h2 => exact h1.trans h2
theorem sumAt_ge {cs : List Int} {b : Int} : ∀ {l : List Int}, (∀ x ∈ l, b ≤ 2 * cs.getD x.toNat 0) → (l.length : Int) * b ≤ 2 * sumAt cs l
  | [], _ => by simp [sumAt]
  | x :: l, h => by
    have ih := sumAt_ge (l := l) fun y hy => h y (by simp [hy])
    have h1 := h x (by simp)
    rw [sumAt_cons, List.length_cons]
    have e : ((l.length + 1 : Nat) : Int) * b = (l.length : Int) * b + b := by
      rw [show ((l.length + 1 : Nat) : Int) = (l.length : Int) + 1 by omega, Int.add_mul, Int.one_mul]
    omega
/-- Where the two that hold least hold more than D together, all hold more than half of D each. -/
theorem many {cs : List Int} {D : Int} {M : List Int} (hM : M.Pairwise (segLt cs)) (hn : ∀ x ∈ M, 0 ≤ cs.getD x.toNat 0) (h2 : 2 ≤ M.length) (hc : (cutP cs D M).length < 2) : (M.length : Int) * (D + 1) ≤ 2 * sumAt cs M := by
  match M, hM, hn, h2, hc with
  | [], _, _, h2, _ => simp at h2
  | [_], _, _, h2, _ => simp at h2
  | x :: y :: l, hM, hn, _, hc =>
    have n1 := hn x (by simp)
    have n2 := hn y (by simp)
    rw [List.pairwise_cons, List.pairwise_cons] at hM
    obtain ⟨hx, hy, _⟩ := hM
    have hxy := hx y (by simp)
    unfold segLt at hxy
    have hs : D + 1 ≤ cs.getD x.toNat 0 + cs.getD y.toNat 0 := by
      refine Int.not_lt.1 fun h => ?_
      simp only [cutP] at hc
      rw [if_neg (by omega), if_neg (by omega)] at hc
      simp only [List.length_cons] at hc
      omega
    have hl : (l.length : Int) * (D + 1) ≤ 2 * sumAt cs l := sumAt_ge fun z hz => by
      have := hy z hz
      unfold segLt at this
      omega
    rw [sumAt_cons, sumAt_cons, List.length_cons, List.length_cons]
    have e : ((l.length + 1 + 1 : Nat) : Int) * (D + 1) = (l.length : Int) * (D + 1) + 2 * (D + 1) := by
      rw [show ((l.length + 1 + 1 : Nat) : Int) = (l.length : Int) + 2 by omega, Int.add_mul]
    omega
/-- All of the segments, none taken. -/
theorem segP_all (cs : List Int) (S : Nat) : segP cs [] S = (List.range S).map fun (s : Nat) => (s, cs.getD s 0) := by
  unfold segP
  rw [List.filter_eq_self.2 (fun s _ => by simp)]
theorem sumAt_app (cs : List Int) (l m : List Int) : sumAt cs (l ++ m) = sumAt cs l + sumAt cs m := by simp [sumAt]
theorem vs_upto (cs : List Int) (hc : ∀ c ∈ cs, 0 ≤ c) : ∀ k, k ≤ cs.length → (vs (segP cs [] k)).length = used (cs.take k) ∧ sumAt cs (vs (segP cs [] k)) = (cs.take k).sum := by
  intro k
  induction k with
  | zero => intro _; simp [segP, vs, used, sumAt]
  | succ k ih =>
    intro h
    obtain ⟨h1, h2⟩ := ih (by omega)
    have e : cs.take (k + 1) = cs.take k ++ [cs[k]'(by omega)] := List.take_succ_eq_append_getElem (by omega)
    have eg : cs.getD k 0 = cs[k]'(by omega) := by rw [List.getD_eq_getElem?_getD, List.getElem?_eq_getElem (by omega)]; rfl
    have hp := hc (cs[k]'(by omega)) (List.getElem_mem _)
    rw [segP_succ, if_neg (by simp), e, used_snoc, List.sum_append]
    by_cases hk : 0 < cs.getD k 0
    · rw [vs_hit _ (x := (k, cs.getD k 0)) hk, List.length_append, sumAt_app, h1, h2, if_pos (by omega)]
      refine ⟨rfl, ?_⟩
      simp only [sumAt, List.map_cons, List.map_nil, Int.toNat_natCast, eg]
    · rw [vs_miss _ (x := (k, cs.getD k 0)) hk, h1, h2, if_neg (by omega)]
      have h0 : cs[k]'(by omega) = 0 := by omega
      rw [h0]
      simp
theorem vs_all (cs : List Int) (hc : ∀ c ∈ cs, 0 ≤ c) : (vs (segP cs [] cs.length)).length = used cs ∧ sumAt cs (vs (segP cs [] cs.length)) = cs.sum := by
  have h := vs_upto cs hc cs.length (Nat.le_refl _)
  rwa [List.take_length] at h
theorem vs_nodup (cs tk : List Int) (S : Nat) : (vs (segP cs tk S)).Nodup := (vs_rises cs tk S).imp fun h => Int.ne_of_lt h
/-- Where the cleaner takes none, few segments are in use. -/
theorem used_few {cs : List Int} {D : Int} {k : Nat} (hD : 1 ≤ D) (hc : ∀ c ∈ cs, 0 ≤ c) (ha : cs.sum ≤ k * D) (hv : two (vicL cs [] D cs.length) = []) : used cs ≤ 2 * k + 1 := by
  obtain ⟨h1, h2⟩ := vs_all cs hc
  have hp := sortL_perm cs (vs (segP cs [] cs.length))
  refine Nat.le_of_not_lt fun hlt => ?_
  have hlt' : 2 * k + 1 < used cs := hlt
  have hc2 : (cutP cs D (sortL cs (vs (segP cs [] cs.length)))).length < 2 := by
    unfold two vicL at hv
    refine Nat.lt_of_not_le fun h => ?_
    rw [if_neg (by omega)] at hv
    rw [hv] at h
    simp at h
  have hm := many (sortL_sorted cs _ (vs_nodup cs [] cs.length)) (fun x hx => by
    obtain ⟨s, rfl, _, _, h3, _⟩ := mem_vs (hp.mem_iff.1 hx)
    rw [Int.toNat_natCast]; omega) (by rw [hp.length_eq, h1]; omega) hc2
  rw [hp.length_eq, h1, sumAt_perm hp, h2] at hm
  have k1 : ((2 * k + 2 : Nat) : Int) * (D + 1) ≤ (used cs : Int) * (D + 1) := Int.mul_le_mul_of_nonneg_right (by omega) (by omega)
  have k2 : ((2 * k + 2 : Nat) : Int) * (D + 1) = 2 * ((k : Int) * D) + 2 * (k : Int) + 2 * D + 2 := by
    rw [show ((2 * k + 2 : Nat) : Int) = 2 * (k : Int) + 2 by omega, Int.add_mul, Int.mul_add, Int.mul_assoc]
    omega
  omega
theorem cutP_take (cs : List Int) : ∀ (M : List Int) (room : Int), ∃ n, cutP cs room M = M.take n
  | [], _ => ⟨0, rfl⟩
  | x :: M, room => by
    obtain ⟨n, h⟩ := cutP_take cs M (room - cs.getD x.toNat 0)
    simp only [cutP]
    by_cases hx : room < cs.getD x.toNat 0
    · exact ⟨0, by rw [if_pos hx]; rfl⟩
    · exact ⟨n + 1, by rw [if_neg hx, h]; rfl⟩
theorem cutP_sum (cs : List Int) : ∀ (M : List Int) (room : Int), 0 ≤ room → sumAt cs (cutP cs room M) ≤ room
  | [], _, h => by simpa [cutP, sumAt] using h
  | x :: M, room, h => by
    simp only [cutP]
    by_cases hx : room < cs.getD x.toNat 0
    · rw [if_pos hx]; simpa [sumAt] using h
    · rw [if_neg hx, sumAt_cons]
      have := cutP_sum cs M (room - cs.getD x.toNat 0) (by omega)
      omega
/-- What the cleaner takes: in use, not taken, each once, no more than a segment's places together; never one alone. -/
structure Vic (cs tk : List Int) (D : Int) (v : List Int) : Prop where
  at_ : ∀ x ∈ v, ∃ s : Nat, x = s ∧ s < cs.length ∧ ¬ (s : Int) ∈ tk ∧ 0 < cs.getD s 0
  nd : v.Nodup
  sum : sumAt cs v ≤ D
  one : v.length ≠ 1
theorem vic_of (cs tk : List Int) {D : Int} (S : Nat) (hD : 0 ≤ D) : Vic cs tk D (two (vicL cs tk D S)) := by
  have hp := sortL_perm cs (vs (segP cs tk S))
  unfold two
  by_cases h2 : (vicL cs tk D S).length < 2
  · rw [if_pos h2]
    exact ⟨fun x hx => absurd hx (by simp), List.nodup_nil, by simpa [sumAt] using hD, by simp⟩
  · rw [if_neg h2]
    obtain ⟨n, hn⟩ := cutP_take cs (sortL cs (vs (segP cs tk S))) D
    have hv : vicL cs tk D S = (sortL cs (vs (segP cs tk S))).take n := hn
    refine ⟨fun x hx => ?_, ?_, cutP_sum cs _ _ hD, by omega⟩
    · rw [hv] at hx
      obtain ⟨s, e, _, h3, h4, h5⟩ := mem_vs (hp.mem_iff.1 (List.mem_of_mem_take hx))
      exact ⟨s, e, h5, h3, h4⟩
    · rw [hv]
      exact ((hp.nodup_iff).2 (vs_nodup cs tk S)).sublist (List.take_sublist _ _)
theorem copy_eq (l : List Int) (h : l.length < 17592186044416) : moraineref00_CopyInts.f l = some l := by
  unfold moraineref00_CopyInts.f
  rw [Option.bind_some, if_pos (by simpa using h)]
  rfl
theorem fr_app (p q : List (Nat × Int)) : fr (p ++ q) = fr p ++ fr q := by simp [fr]
/-- What a segment brings to the free ones. -/
theorem fr_step (cs tk : List Int) (s : Nat) : fr (segP cs tk (s + 1)) = fr (segP cs tk s) ++ if (cs.getD s 0 = 0) ∧ ¬ (s : Int) ∈ tk then [(s : Int)] else [] := by
  rw [segP_succ, fr_app]
  congr 1
  by_cases h : (s : Int) ∈ tk
  · rw [if_pos h, if_neg (fun k => k.2 h)]; rfl
  · rw [if_neg h]
    by_cases h2 : cs.getD s 0 = 0
    · rw [if_pos ⟨h2, h⟩]; simp only [fr, List.filter_cons]; rw [if_pos (by simpa using h2)]; rfl
    · rw [if_neg (fun k => h2 k.1)]; simp only [fr, List.filter_cons]; rw [if_neg (by simpa using h2)]; rfl
theorem fr_seg_len (cs tk : List Int) (s : Nat) : (fr (segP cs tk s)).length ≤ s := Nat.le_trans (fr_len _) (segP_len cs tk s)
theorem among_loop (tk : List Int) (x : Int) (hn : tk.length ≤ 1000) (d : Nat) : ∀ (k i : Nat), i + d = tk.length → d < k → moraineref09_among.l0 k tk x (i : Int) = some (decide (x ∈ tk.drop i)) := by
  induction d with
  | zero =>
    intro k i hi hk
    obtain ⟨k, rfl⟩ : ∃ m, k = m + 1 := ⟨k - 1, by omega⟩
    simp only [moraineref09_among.l0]
    rw [if_neg (by omega), List.drop_of_length_le (by omega)]; simp
  | succ d ih =>
    intro k i hi hk
    obtain ⟨k, rfl⟩ : ∃ m, k = m + 1 := ⟨k - 1, by omega⟩
    simp only [moraineref09_among.l0]
    have ex : tk.drop i = tk[i] :: tk.drop (i + 1) := List.drop_eq_getElem_cons (by omega)
    rw [if_pos (by omega), if_pos (by omega), rd_get (show i < tk.length by omega)]
    by_cases h : tk[i] = x
    · rw [if_pos h, ex]; simp [h]
    · rw [if_neg h, w64 (by omega) (by omega), show ((i : Int) + 1) = ((i + 1 : Nat) : Int) by omega, ih k (i + 1) (by omega) (by omega), ex]
      refine congrArg some (decide_eq_decide.2 ?_)
      rw [List.mem_cons]
      exact ⟨Or.inr, fun e => e.elim (fun e => absurd e.symm h) id⟩
theorem among_eq {tk : List Int} {x : Int} {k : Nat} (hn : tk.length ≤ 1000) (hk : 1000 < k) : moraineref09_among.f k tk x = some (decide (x ∈ tk)) := by
  have := among_loop tk x hn tk.length k 0 (by omega) (by omega)
  simpa [moraineref09_among.f] using this
/-! The reference's Free. -/
theorem rfree_loop {cs tk : List Int} {d r : Int} {S : Nat} (hg : GR d r (S : Int)) (ht : tk.length ≤ 1000) (hc : cs.length ≤ 1000) : ∀ (n k s : Nat), s + n = S → 1100 + 2 * n < k → moraineref09_Free.l0 k cs tk (fr (segP cs tk s)) (s : Int) d r (S : Int) = some (fr (segP cs tk S)) := by
  have h64 := hg.1.s1
  intro n
  induction n with
  | zero =>
    intro k s hs hk
    obtain ⟨k, rfl⟩ : ∃ m, k = m + 2 := ⟨k - 2, by omega⟩
    obtain rfl : s = S := by omega
    simp only [moraineref09_Free.l0]
    rw [if_neg (by omega)]
    simp only [moraineref09_Free.j1]
    rw [if_neg (by simp)]
  | succ n ih =>
    intro k s hs hk
    obtain ⟨k, rfl⟩ : ∃ m, k = m + 2 := ⟨k - 2, by omega⟩
    have hl := fr_seg_len cs tk s
    have hnx := ih k (s + 1) (by omega) (by omega)
    rw [fr_step] at hnx
    simp only [moraineref09_Free.l0]
    rw [if_pos (by omega), refRight_eq, Right_pos hg, Option.bind_some]
    simp only [moraineref09_Free.j1]
    rw [if_pos trivial, among_eq ht (by omega), Option.bind_some, w64 (n := (s : Int) + 1) (by omega) (by omega), rd_nat]
    rw [show ((s + 1 : Nat) : Int) = (s : Int) + 1 by omega] at hnx
    by_cases hm : (s : Int) ∈ tk
    · rw [decide_eq_true hm]
      rw [if_neg (fun h => h.2 hm), List.append_nil] at hnx
      simp only [if_true, hnx]
      by_cases h1 : (s : Int) ≥ (cs.length : Int)
      · rw [if_pos h1]
      · rw [if_neg h1, if_pos (by omega), if_pos (by omega)]
        by_cases h2 : cs.getD s 0 = 0
        · rw [if_pos h2]
        · rw [if_neg h2]
    · rw [decide_eq_false hm]
      by_cases h2 : cs.getD s 0 = 0
      · rw [if_pos ⟨h2, hm⟩] at hnx
        rw [if_neg (show ¬ (false = true) by simp), if_pos (show (fr (segP cs tk s)).length < 17592186044416 by omega), hnx]
        by_cases h1 : (s : Int) ≥ (cs.length : Int)
        · rw [if_pos h1]
        · rw [if_neg h1, if_pos (by omega), if_pos (by omega), if_pos h2]
      · rw [if_neg (fun h => h2 h.1), List.append_nil] at hnx
        have h1 : ¬ (s : Int) ≥ (cs.length : Int) := by
          intro h1
          refine h2 ?_
          rw [List.getD_eq_getElem?_getD, List.getElem?_eq_none (by omega)]; rfl
        rw [if_neg h1, if_pos (by omega), if_pos (by omega), if_neg h2, hnx]
theorem rfree_eq {cs tk : List Int} {d r s : Int} {k : Nat} (ht : tk.length ≤ 1000) (hc : cs.length ≤ 1000) (hk : 2000 < k) : moraineref09_Free.f k d r s cs tk = some (freeV d r s cs tk) := by
  unfold moraineref09_Free.f freeV
  by_cases hg : GR d r s
  · have h12 := hg.1.s0
    have h64 := hg.1.s1
    obtain ⟨S, rfl⟩ : ∃ S : Nat, s = S := ⟨s.toNat, by omega⟩
    rw [if_pos hg]
    have := rfree_loop hg ht hc S k 0 (by omega) (by omega)
    simpa [segP, fr] using this
  · rw [if_neg hg]
    obtain ⟨k, rfl⟩ : ∃ m, k = m + 2 := ⟨k - 2, by omega⟩
    simp only [moraineref09_Free.l0]
    rw [refRight_eq, Right_neg hg, Option.bind_some]
    simp only [moraineref09_Free.j1]
    by_cases h : (0 : Int) < s
    · rw [if_pos h, if_neg (by simp)]
    · rw [if_neg h, if_neg (by simp)]
/-! The reference's Fits. -/
theorem rfits_loop {cs : List Int} {S D old data more : Int} {d r : Int} (hD : 1 ≤ D ∧ D ≤ 59) (hS : S ≤ 64) (h0 : 0 ≤ old ∧ 0 ≤ data ∧ 0 ≤ more) (h1 : old ≤ S ∧ data ≤ 100000 ∧ more ≤ 100000) (hc : cs.length ≤ 1000) :
    ∀ (n k i : Nat), i + n = cs.length → n < k → moraineref09_Fits.l0 k cs old data more D (used (cs.take i) : Int) (i : Int) d r S = some (decide (∀ c ∈ cs.drop i, 0 ≤ c) && decide ((used cs : Int) + need D data + max (old + need D more) (2 * need D more + 1) ≤ S)) := by
  intro n
  induction n with
  | zero =>
    intro k i hi hk
    obtain ⟨k, rfl⟩ : ∃ m, k = m + 1 := ⟨k - 1, by omega⟩
    obtain rfl : i = cs.length := by omega
    simp only [moraineref09_Fits.l0]
    have hu := used_le cs
    have n1 := need_bd hD.1 hD.2 h0.2.1 h1.2.1
    have n2 := need_bd hD.1 hD.2 h0.2.2 h1.2.2
    rw [if_neg (by omega), if_neg (by omega), List.take_length, List.drop_length]
    rw [w64 (n := data + D) (by omega) (by omega), w64 (n := data + D - 1) (by omega) (by omega), w64 (n := more + D) (by omega) (by omega), w64 (n := more + D - 1) (by omega) (by omega), Int.tdiv_eq_ediv_of_nonneg (by omega), Int.tdiv_eq_ediv_of_nonneg (by omega)]
    change some (decide (wrap64 (wrap64 (↑(used cs) + wrap64 (need D data)) + mx (wrap64 (old + wrap64 (need D more))) (wrap64 (wrap64 (2 * wrap64 (need D more)) + 1))) ≤ S)) = _
    rw [w64 (n := need D data) (by omega) (by omega), w64 (n := need D more) (by omega) (by omega), w64 (n := (used cs : Int) + need D data) (by omega) (by omega), w64 (n := old + need D more) (by omega) (by omega), w64 (n := 2 * need D more) (by omega) (by omega), w64 (n := 2 * need D more + 1) (by omega) (by omega)]
    have hmx : mx (old + need D more) (2 * need D more + 1) = max (old + need D more) (2 * need D more + 1) := by unfold mx; split <;> omega
    rw [hmx, w64 (by omega) (by omega)]
    simp
  | succ n ih =>
    intro k i hi hk
    obtain ⟨k, rfl⟩ : ∃ m, k = m + 1 := ⟨k - 1, by omega⟩
    have e : cs.take (i + 1) = cs.take i ++ [cs[i]'(by omega)] := List.take_succ_eq_append_getElem (by omega)
    have ex : cs.drop i = cs[i]'(by omega) :: cs.drop (i + 1) := List.drop_eq_getElem_cons (by omega)
    have hu : used (cs.take i) ≤ i := Nat.le_trans (used_le _) (List.length_take_le _ _)
    have hnx := ih k (i + 1) (by omega) (by omega)
    rw [e, used_snoc] at hnx
    simp only [moraineref09_Fits.l0]
    rw [if_pos (by omega), if_pos (by omega), rd_get (show i < cs.length by omega), w64 (n := (i : Int) + 1) (by omega) (by omega), w64 (n := (used (cs.take i) : Int) + 1) (by omega) (by omega)]
    generalize cs[i]'(by omega) = v at *
    by_cases c1 : v < 0
    · rw [if_pos c1, ex, decide_eq_false (fun h => by have := h _ (List.mem_cons_self); omega)]; simp
    · rw [if_neg c1, ex]
      simp only [List.forall_mem_cons, show 0 ≤ v by omega, true_and]
      by_cases c2 : v > 0
      · rw [if_pos c2]; rw [if_pos (by omega)] at hnx; simpa using hnx
      · rw [if_neg c2]; rw [if_neg (by omega)] at hnx; simpa using hnx
theorem rfits_eq {cs : List Int} {d r S old data more : Int} {k : Nat} (hc : cs.length ≤ 1000) (hk : 2000 < k) : moraineref09_Fits.f k d r S cs old data more = some (open Classical in if GR d r S then fitsV (pl d r) S cs old data more else false) := by
  obtain ⟨k, rfl⟩ : ∃ m, k = m + 1 := ⟨k - 1, by omega⟩
  unfold moraineref09_Fits.f
  rw [refRight_eq]
  by_cases hg : GR d r S
  · rw [Right_pos hg, Option.bind_some, if_pos rfl, if_pos hg]
    have hp := pl_bd hg.1
    have h64 := hg.1.s1
    simp only [moraineref09_Fits.j0]
    rw [refPlaces_eq, Places_pos hg, Option.bind_some]
    have no : ∀ P : Prop, ¬ (0 ≤ old ∧ 0 ≤ data ∧ 0 ≤ more ∧ old ≤ 100000 ∧ data ≤ 100000 ∧ more ≤ 100000) → some false = some (fitsV (pl d r) S cs old data more) := fun _ h => by
      unfold fitsV; rw [decide_eq_false h]; simp
    by_cases c1 : old < 0
    · rw [if_pos c1, if_pos trivial]; exact no True (by omega)
    rw [if_neg c1]
    by_cases c2 : data < 0
    · rw [if_pos c2, if_pos trivial]; exact no True (by omega)
    rw [if_neg c2]
    by_cases c3 : more < 0
    · rw [if_pos c3, if_pos trivial]; exact no True (by omega)
    rw [if_neg c3]
    by_cases c4 : old > S
    · rw [if_pos c4, if_pos trivial]
      unfold fitsV
      by_cases b : data ≤ 100000 ∧ more ≤ 100000
      · have n1 := need_bd hp.1 hp.2 (b := data) (by omega) b.1
        have n2 := need_bd hp.1 hp.2 (b := more) (by omega) b.2
        rw [decide_eq_false (p := (used cs : Int) + need (pl d r) data + max (old + need (pl d r) more) (2 * need (pl d r) more + 1) ≤ S) (by omega)]; simp
      · rw [decide_eq_false (by omega)]; simp
    rw [if_neg c4]
    by_cases c5 : data > 100000
    · rw [if_pos c5, if_pos trivial]; exact no True (by omega)
    rw [if_neg c5]
    by_cases c6 : more > 100000
    · rw [if_pos (decide_eq_true c6)]; exact no True (by omega)
    rw [if_neg (by rw [decide_eq_false c6]; simp)]
    have := rfits_loop (d := d) (r := r) hp h64 (old := old) (data := data) (more := more) (by omega) (by omega) hc cs.length k 0 (by omega) (by omega)
    unfold fitsV
    rw [decide_eq_true (p := 0 ≤ old ∧ 0 ≤ data ∧ 0 ≤ more ∧ old ≤ 100000 ∧ data ≤ 100000 ∧ more ≤ 100000) (by omega)]
    simpa [used] using this
  · rw [Right_neg hg, Option.bind_some, if_neg (by simp), if_neg hg]
    simp only [moraineref09_Fits.j0]
    rw [if_pos trivial]
/-! The reference's Victims. -/
/-- Ahead of the pair n, s. -/
def ahead (cs : List Int) (n : Int) (s : Nat) (x : Int) : Bool := decide (cs.getD x.toNat 0 < n ∨ (cs.getD x.toNat 0 = n ∧ x < s))
theorem ahead_none {cs : List Int} {n : Int} {s : Nat} {x : Int} : ∀ {M : List Int}, (∀ y ∈ M, segLt cs x y) → ahead cs n s x = false → M.filter (ahead cs n s) = []
  | M, h, hx => by
    rw [List.filter_eq_nil_iff]
    intro y hy hb
    have := h y hy
    unfold segLt at this
    simp only [ahead, decide_eq_true_eq, decide_eq_false_iff_not] at hb hx
    omega
theorem ahead_step {cs : List Int} {n : Int} {s : Nat} : ∀ {M : List Int}, M.Pairwise (segLt cs) → M.filter (ahead cs n (s + 1)) = M.filter (ahead cs n s) ++ if (s : Int) ∈ M ∧ cs.getD s 0 = n then [(s : Int)] else []
  | [], _ => by simp
  | x :: M, hM => by
    rw [List.pairwise_cons] at hM
    obtain ⟨hx, hM⟩ := hM
    have ih := ahead_step (n := n) (s := s) hM
    by_cases hb : ahead cs n s x = true
    · have hb2 : ahead cs n (s + 1) x = true := by simp only [ahead, decide_eq_true_eq] at hb ⊢; omega
      have hc : ((s : Int) ∈ x :: M ∧ cs.getD s 0 = n) ↔ ((s : Int) ∈ M ∧ cs.getD s 0 = n) := by
        rw [List.mem_cons]
        refine ⟨fun h => ⟨h.1.resolve_left (fun e => ?_), h.2⟩, fun h => ⟨Or.inr h.1, h.2⟩⟩
        rw [← e] at hb
        simp only [ahead, decide_eq_true_eq, Int.toNat_natCast] at hb
        omega
      rw [List.filter_cons_of_pos hb, List.filter_cons_of_pos hb2, ih]
      simp only [hc, List.cons_append]
    · have hb' : ahead cs n s x = false := by simpa using hb
      rw [List.filter_cons_of_neg hb, ahead_none hx hb', List.nil_append]
      by_cases he : x = (s : Int) ∧ cs.getD s 0 = n
      · obtain ⟨e, hn⟩ := he
        rw [if_pos ⟨by rw [e]; exact List.mem_cons_self, hn⟩]
        have hb2 : ahead cs n (s + 1) x = true := by rw [e]; simp only [ahead, decide_eq_true_eq, Int.toNat_natCast]; omega
        rw [List.filter_cons_of_pos hb2, e]
        congr 1
        rw [List.filter_eq_nil_iff]
        intro y hy hb
        have h1 := hx y hy
        rw [e] at h1
        unfold segLt at h1
        simp only [ahead, decide_eq_true_eq, Int.toNat_natCast] at hb h1
        omega
      · have hb2 : ahead cs n (s + 1) x = false := by
          simp only [ahead, decide_eq_false_iff_not] at hb' ⊢
          intro h
          refine he ?_
          have hxs : x = (s : Int) := by omega
          refine ⟨hxs, ?_⟩
          rw [hxs, Int.toNat_natCast] at h hb'
          omega
        rw [List.filter_cons_of_neg (by rw [hb2]; simp), ahead_none hx hb2, if_neg]
        rintro ⟨hm, hn⟩
        rcases List.mem_cons.1 hm with e | hm
        · exact he ⟨e.symm, hn⟩
        · have h1 := hx _ hm
          unfold segLt at h1
          simp only [ahead, decide_eq_false_iff_not, Int.toNat_natCast] at hb2 h1
          omega
theorem cutP_cons (cs : List Int) (room y : Int) (A : List Int) : cutP cs room (y :: A) = if room < cs.getD y.toNat 0 then [] else y :: cutP cs (room - cs.getD y.toNat 0) A := rfl
theorem cut_snoc {cs : List Int} {x : Int} : ∀ (A : List Int) (room : Int), (∀ y ∈ A, cs.getD y.toNat 0 ≤ cs.getD x.toNat 0) → cutP cs room (A ++ [x]) = if sumAt cs (cutP cs room A) + cs.getD x.toNat 0 ≤ room then cutP cs room A ++ [x] else cutP cs room A
  | [], room, _ => by
    simp only [List.nil_append, cutP, sumAt, List.map_nil, List.sum_nil, Int.zero_add]
    by_cases h : room < cs.getD x.toNat 0
    · rw [if_pos h, if_neg (by omega)]
    · rw [if_neg h, if_pos (by omega)]
  | y :: A, room, h => by
    have hy := h y List.mem_cons_self
    have ih := cut_snoc A (room - cs.getD y.toNat 0) (fun z hz => h z (List.mem_cons_of_mem _ hz))
    rw [List.cons_append, cutP_cons]
    by_cases c : room < cs.getD y.toNat 0
    · have e0 : cutP cs room (y :: A) = [] := if_pos c
      rw [if_pos c, e0, if_neg (by simp only [sumAt, List.map_nil, List.sum_nil]; omega)]
    · have e0 : cutP cs room (y :: A) = y :: cutP cs (room - cs.getD y.toNat 0) A := if_neg c
      rw [if_neg c, e0, ih, sumAt_cons]
      by_cases c2 : sumAt cs (cutP cs (room - cs.getD y.toNat 0) A) + cs.getD x.toNat 0 ≤ room - cs.getD y.toNat 0
      · rw [if_pos c2, if_pos (by omega)]; rfl
      · rw [if_neg c2, if_neg (by omega)]
theorem cut_small {cs : List Int} {D : Int} : ∀ {M : List Int} (room : Int), room ≤ D → M.Pairwise (segLt cs) → (∀ x ∈ M, 0 ≤ x ∧ 0 < cs.getD x.toNat 0) → cutP cs room (M.filter (ahead cs (D + 1) 0)) = cutP cs room M
  | [], _, _, _, _ => rfl
  | x :: M, room, hr, hM, h0 => by
    rw [List.pairwise_cons] at hM
    obtain ⟨hx, hM⟩ := hM
    have hx0 := h0 x List.mem_cons_self
    by_cases hb : ahead cs (D + 1) 0 x = true
    · rw [List.filter_cons_of_pos hb]
      simp only [cutP]
      rw [cut_small (room - cs.getD x.toNat 0) (by omega) hM (fun y hy => h0 y (List.mem_cons_of_mem _ hy))]
    · have hb' : ahead cs (D + 1) 0 x = false := by simpa using hb
      rw [List.filter_cons_of_neg hb, ahead_none hx hb']
      simp only [ahead, decide_eq_false_iff_not] at hb'
      simp only [cutP]
      rw [if_pos (by omega)]
theorem vs_mem {cs tk : List Int} {S s : Nat} (h1 : s < S) (h2 : ¬ (s : Int) ∈ tk) (h3 : 0 < cs.getD s 0) : (s : Int) ∈ vs (segP cs tk S) := by
  simp only [vs, segP, List.mem_map, List.mem_filter, List.mem_range, decide_eq_true_eq]
  exact ⟨(s, cs.getD s 0), ⟨⟨s, ⟨h1, h2⟩, rfl⟩, h3⟩, rfl⟩
theorem take_len {cs : List Int} {D : Int} {M : List Int} : (cutP cs D M).length ≤ M.length := by
  obtain ⟨n, hn⟩ := cutP_take cs M D
  rw [hn]; exact List.length_take_le' _ _
/-- What has been taken ahead of the pair n, s. -/
def vicAt (cs M : List Int) (D n : Int) (s : Nat) : List Int := cutP cs D (M.filter (ahead cs n s))
theorem rvic_in {cs tk M : List Int} {D : Int} {d r : Int} {S : Nat} (hS : S ≤ 64) (hD : 1 ≤ D ∧ D ≤ 59) (ht : tk.length ≤ 1000) (hM : M.Pairwise (segLt cs)) (hl : M.length ≤ 64) (hm : ∀ s : Nat, (s : Int) ∈ M ↔ s < S ∧ ¬ (s : Int) ∈ tk ∧ 0 < cs.getD s 0) (hm2 : ∀ x ∈ M, 0 ≤ x) (n : Int) (hn : 1 ≤ n ∧ n ≤ 60) (K : Nat) (R : Option (List Int))
    (H : ∀ k, K ≤ k → moraineref09_Victims.l0 k cs tk D (vicAt cs M D (n + 1) 0) (sumAt cs (vicAt cs M D (n + 1) 0)) (n + 1) d r (S : Int) = R) :
    ∀ (e k s : Nat), s + e = min S cs.length → K + 1010 + 2 * e < k → moraineref09_Victims.l1 k cs tk D (vicAt cs M D n s) (sumAt cs (vicAt cs M D n s)) n (s : Int) d r (S : Int) = R := by
  intro e
  induction e with
  | zero =>
    intro k s hs hk
    obtain ⟨k, rfl⟩ : ∃ m, k = m + 2 := ⟨k - 2, by omega⟩
    have hv : vicAt cs M D n s = vicAt cs M D (n + 1) 0 := by
      unfold vicAt
      refine congrArg _ (List.filter_congr fun x hx => ?_)
      obtain ⟨t, rfl⟩ : ∃ t : Nat, x = t := ⟨x.toNat, by have := hm2 x hx; omega⟩
      obtain ⟨h1, h2, h3⟩ := (hm t).1 hx
      have h4 : t < cs.length := by
        refine Nat.lt_of_not_le fun h => ?_
        rw [List.getD_eq_getElem?_getD, List.getElem?_eq_none h] at h3
        exact absurd h3 (by simp)
      unfold ahead
      refine decide_eq_decide.2 ?_
      rw [Int.toNat_natCast]
      omega
    have hx : (if (s : Int) < (S : Int) then decide ((s : Int) < (cs.length : Int)) else false) = false := by
      by_cases h : (s : Int) < (S : Int)
      · rw [if_pos h, decide_eq_false (by omega)]
      · rw [if_neg h]
    have H := H k (by omega)
    rw [hv]
    simp only [moraineref09_Victims.l1]
    by_cases h : (s : Int) < (S : Int)
    · rw [if_pos h, decide_eq_false (by omega)]
      simp only [moraineref09_Victims.j2]
      rw [if_neg (by simp), w64 (n := n + 1) (by omega) (by omega)]; exact H
    · rw [if_neg h]
      simp only [moraineref09_Victims.j2]
      rw [if_neg (by simp), w64 (n := n + 1) (by omega) (by omega)]; exact H
  | succ e ih =>
    intro k s hs hk
    obtain ⟨k, rfl⟩ : ∃ m, k = m + 2 := ⟨k - 2, by omega⟩
    have hnx := ih k (s + 1) (by omega) (by omega)
    rw [show ((s + 1 : Nat) : Int) = (s : Int) + 1 by omega] at hnx
    have hst : vicAt cs M D n (s + 1) = cutP cs D (M.filter (ahead cs n s) ++ if (s : Int) ∈ M ∧ cs.getD s 0 = n then [(s : Int)] else []) := by unfold vicAt; rw [ahead_step hM]
    have hsum := cutP_sum cs (M.filter (ahead cs n s)) D (by omega)
    have hlen : (vicAt cs M D n s).length ≤ 64 := Nat.le_trans take_len (Nat.le_trans (List.length_filter_le _ _) hl)
    have hs0 : 0 ≤ sumAt cs (vicAt cs M D n s) := by
      have : ∀ l : List Int, (∀ x ∈ l, 0 ≤ cs.getD x.toNat 0) → 0 ≤ sumAt cs l := by
        intro l
        induction l with
        | nil => intro _; simp [sumAt]
        | cons x l ih => intro h; rw [sumAt_cons]; have := h x List.mem_cons_self; have := ih (fun y hy => h y (List.mem_cons_of_mem _ hy)); omega
      refine this _ fun x hx => ?_
      unfold vicAt at hx
      obtain ⟨n, hn⟩ := cutP_take cs (M.filter (ahead cs n s)) D
      rw [hn] at hx
      have hx := (List.mem_filter.1 (List.mem_of_mem_take hx)).1
      obtain ⟨t, rfl⟩ : ∃ t : Nat, x = t := ⟨x.toNat, by have := hm2 x hx; omega⟩
      have := ((hm t).1 hx).2.2
      rw [Int.toNat_natCast]; omega
    change sumAt cs (vicAt cs M D n s) ≤ D at hsum
    simp only [moraineref09_Victims.l1]
    rw [if_pos (by omega), decide_eq_true (by omega)]
    simp only [moraineref09_Victims.j2]
    rw [if_pos trivial, if_pos (by omega), if_pos (by omega), rd_nat, among_eq ht (by omega), Option.bind_some, w64 (n := (s : Int) + 1) (by omega) (by omega), w64 (n := sumAt cs (vicAt cs M D n s) + n) (by omega) (by omega)]
    by_cases c1 : cs.getD s 0 = n
    · rw [if_pos c1]
      by_cases c2 : (s : Int) ∈ tk
      · rw [decide_eq_true c2, if_pos rfl]
        have e : vicAt cs M D n (s + 1) = vicAt cs M D n s := by
          rw [hst, if_neg (fun h => ((hm s).1 h.1).2.1 c2), List.append_nil]; rfl
        rw [e] at hnx; exact hnx
      · rw [decide_eq_false c2, if_neg (by simp)]
        have hin : (s : Int) ∈ M := (hm s).2 ⟨by omega, c2, by omega⟩
        rw [if_pos ⟨hin, c1⟩, cut_snoc _ _ (fun y hy => by
          have hy := (List.mem_filter.1 hy).2
          simp only [ahead, decide_eq_true_eq] at hy
          rw [Int.toNat_natCast]; omega), Int.toNat_natCast, c1] at hst
        change vicAt cs M D n (s + 1) = if sumAt cs (vicAt cs M D n s) + n ≤ D then vicAt cs M D n s ++ [(s : Int)] else vicAt cs M D n s at hst
        by_cases c3 : sumAt cs (vicAt cs M D n s) + n ≤ D
        · rw [if_pos c3, if_pos (by omega)]
          rw [if_pos c3] at hst
          rw [hst, sumAt_app] at hnx
          have e1 : sumAt cs [(s : Int)] = n := by simp only [sumAt, List.map_cons, List.map_nil, List.sum_cons, List.sum_nil, Int.toNat_natCast, c1]; omega
          rw [e1] at hnx; exact hnx
        · rw [if_neg c3]
          rw [if_neg c3] at hst
          rw [hst] at hnx; exact hnx
    · rw [if_neg c1]
      have e : vicAt cs M D n (s + 1) = vicAt cs M D n s := by
        rw [hst, if_neg (fun h => c1 h.2), List.append_nil]; rfl
      rw [e] at hnx; exact hnx
theorem rvic_out {cs tk M : List Int} {D : Int} {d r : Int} {S : Nat} (hS : S ≤ 64) (hD : 1 ≤ D ∧ D ≤ 59) (ht : tk.length ≤ 1000) (hM : M.Pairwise (segLt cs)) (hl : M.length ≤ 64) (hm : ∀ s : Nat, (s : Int) ∈ M ↔ s < S ∧ ¬ (s : Int) ∈ tk ∧ 0 < cs.getD s 0) (hm2 : ∀ x ∈ M, 0 ≤ x) :
    ∀ (e k : Nat) (n : Int), 1 ≤ n → n + e = D + 1 → 2000 + 2000 * e < k → moraineref09_Victims.l0 k cs tk D (vicAt cs M D n 0) (sumAt cs (vicAt cs M D n 0)) n d r (S : Int) = some (two (cutP cs D M)) := by
  intro e
  induction e with
  | zero =>
    intro k n hn he hk
    obtain ⟨k, rfl⟩ : ∃ m, k = m + 1 := ⟨k - 1, by omega⟩
    obtain rfl : n = D + 1 := by omega
    have hv : vicAt cs M D (D + 1) 0 = cutP cs D M := cut_small D (Int.le_refl _) hM (fun x hx => by
      have h0 := hm2 x hx
      obtain ⟨t, rfl⟩ : ∃ t : Nat, x = t := ⟨x.toNat, by omega⟩
      have := ((hm t).1 hx).2.2
      rw [Int.toNat_natCast]; omega)
    simp only [moraineref09_Victims.l0]
    rw [if_neg (by omega), hv]
    unfold two
    by_cases h : (cutP cs D M).length < 2
    · rw [if_pos h, if_pos (by omega)]
    · rw [if_neg h, if_neg (by omega)]
  | succ e ih =>
    intro k n hn he hk
    obtain ⟨k, rfl⟩ : ∃ m, k = m + 1 := ⟨k - 1, by omega⟩
    simp only [moraineref09_Victims.l0]
    rw [if_pos (by omega)]
    exact rvic_in hS hD ht hM hl hm hm2 n (by omega) (2001 + 2000 * e) _ (fun k hk => ih k (n + 1) (by omega) (by omega) (by omega)) (min S cs.length) k 0 (by omega) (by omega)
theorem rvic_eq {cs tk : List Int} {d r s : Int} {k : Nat} (ht : tk.length ≤ 1000) (hk : 200000 < k) : moraineref09_Victims.f k d r s cs tk = some (open Classical in if GR d r s then two (vicL cs tk (pl d r) s.toNat) else []) := by
  unfold moraineref09_Victims.f
  rw [refRight_eq]
  by_cases hg : GR d r s
  · rw [Right_pos hg, Option.bind_some, if_pos rfl, if_pos hg, refPlaces_eq, Places_pos hg, Option.bind_some]
    have hp := pl_bd hg.1
    have h64 := hg.1.s1
    have h12 := hg.1.s0
    obtain ⟨S, rfl⟩ : ∃ S : Nat, s = S := ⟨s.toNat, by omega⟩
    rw [Int.toNat_natCast]
    have hpm := sortL_perm cs (vs (segP cs tk S))
    have h1 := vs_len (segP cs tk S)
    have h2 := segP_len cs tk S
    have := rvic_out (cs := cs) (tk := tk) (M := sortL cs (vs (segP cs tk S))) (D := pl d r) (d := d) (r := r) (S := S) (by omega) hp ht (sortL_sorted cs _ (vs_nodup cs tk S)) (by rw [hpm.length_eq]; omega)
      (fun t => ⟨fun h => by
        obtain ⟨u, hu, a1, a2, a3, _⟩ := mem_vs (hpm.mem_iff.1 h)
        obtain rfl : t = u := by omega
        exact ⟨a1, a2, a3⟩, fun h => hpm.mem_iff.2 (vs_mem h.1 h.2.1 h.2.2)⟩)
      (fun x hx => by obtain ⟨u, rfl, _⟩ := mem_vs (hpm.mem_iff.1 hx); omega) (pl d r).toNat k 1 (by omega) (by omega) (by omega)
    have hz : vicAt cs (sortL cs (vs (segP cs tk S))) (pl d r) 1 0 = [] := by
      unfold vicAt
      rw [List.filter_eq_nil_iff.2]
      · rfl
      · intro x hx hb
        obtain ⟨u, rfl, _, _, a3, _⟩ := mem_vs (hpm.mem_iff.1 hx)
        simp only [ahead, decide_eq_true_eq, Int.toNat_natCast] at hb
        omega
    rw [hz] at this
    simpa [sumAt, vicL] using this
  · rw [Right_neg hg, Option.bind_some, if_neg (by simp), if_neg hg]
theorem UsageTakes (a0 a1 a2 : Int) (l1 l2 : List Int) (x y z : Int) (w0 : (Lit.int .i64 a0).wf = true) (w1 : (Lit.int .i64 a1).wf = true) (w2 : (Lit.int .i64 a2).wf = true) (hb1 : ∀ x ∈ l1, (Lit.int .i64 x).wf = true) (hs1 : l1.length * 8 ≤ 140737488351232) (hb2 : ∀ x ∈ l2, (Lit.int .i64 x).wf = true) (hs2 : l2.length * 8 ≤ 140737488351232) (wx : (Lit.int .i64 x).wf = true) (wy : (Lit.int .i64 y).wf = true) (wz : (Lit.int .i64 z).wf = true) :
    ∃ k, morainelaw09_UsageTakes.f k a0 a1 a2 l1 l2 x y z = some true := by
  refine ⟨200002, ?_⟩
  unfold morainelaw09_UsageTakes.f morainelaw09_alive.f
  rw [Option.bind_some, if_pos rfl]
  by_cases c : (l1.length : Int) > 1000
  · rw [if_pos c]; simp only [morainelaw09_UsageTakes.j0]; rw [if_pos trivial]
  rw [if_neg c]
  simp only [morainelaw09_UsageTakes.j0]
  by_cases c2 : (l2.length : Int) > 1000
  · rw [if_pos (decide_eq_true c2)]
  rw [if_neg (by rw [decide_eq_false c2]; simp), copy_eq l1 (by omega), Option.bind_some, copy_eq l2 (by omega), Option.bind_some]
  have hf : (freeV a0 a1 a2 l1 l2).length ≤ 64 := by
    unfold freeV
    by_cases hg : GR a0 a1 a2
    · rw [if_pos hg]; have h1 := fr_seg_len l1 l2 a2.toNat; have := hg.1.s1; omega
    · rw [if_neg hg]; simp
  unfold usage_Free.f
  rw [Option.bind_some, rfree_eq (by omega) (by omega) (by omega), Option.bind_some, sameI_eq _ _ (by omega) _ (by omega), Option.bind_some, if_pos (by simp)]
  have hv : (open Classical in if GR a0 a1 a2 then two (vicL l1 l2 (pl a0 a1) a2.toNat) else []).length ≤ 64 := by
    by_cases hg : GR a0 a1 a2
    · rw [if_pos hg]
      have h64 := hg.1.s1
      have h12 := hg.1.s0
      have h1 := vs_len (segP l1 l2 a2.toNat)
      have h2 := segP_len l1 l2 a2.toNat
      unfold two
      by_cases h : (vicL l1 l2 (pl a0 a1) a2.toNat).length < 2
      · rw [if_pos h]; simp
      · rw [if_neg h]
        unfold vicL
        refine Nat.le_trans take_len ?_
        rw [(sortL_perm l1 _).length_eq]; omega
    · rw [if_neg hg]; simp
  unfold usage_Victims.f
  rw [Option.bind_some, rvic_eq (by omega) (by omega), Option.bind_some, sameI_eq _ _ (by omega) _ (by omega), Option.bind_some, if_pos (by simp)]
  unfold usage_Fits.f
  rw [if_neg (by omega), Option.bind_some, rfits_eq (by omega) (by omega), Option.bind_some, if_pos (by simp), sameI_eq _ _ (by omega) _ (by omega), Option.bind_some, if_pos (by simp), sameI_eq _ _ (by omega) _ (by omega), Option.bind_some]
  simp
end Go.Proofs.Ytogdnolkheifcaa.Pure
