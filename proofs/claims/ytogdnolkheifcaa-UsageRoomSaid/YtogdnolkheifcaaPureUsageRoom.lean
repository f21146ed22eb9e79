/- Plain laws over whole numbers and lists: PureUsageRoom. -/
import Derived.Test.YtogdnolkheifcaaQUsageRoomx
import Derived.Test.YtogdnolkheifcaaGivAlive09
import Derived.KernelRfl
import Derived.Laws.BitsLemmas
import Derived.Laws.BitsAllLaws
namespace Go.Proofs.Ytogdnolkheifcaa.Pure
open Go.RowKit Go.Proofs.Ytogdnolkheifcaa.PUsageRoom Go.Proofs.Ytogdnolkheifcaa.Base Go.Proofs.Ytogdnolkheifcaa.Given Go.Proofs.YtogdnolkheifcaaW.PrintWords Go.Proofs.YtogdnolkheifcaaW.PrintLast Go.Proofs.YtogdnolkheifcaaW.PrintMore
set_option linter.unusedVariables false
set_option linter.unusedSimpArgs false
theorem rd_get {xs : List Int} {i : Nat} (h : i < xs.length) : rd xs (i : Int) = xs[i] := by simp [rd, h]
theorem rd_nat (xs : List Int) (i : Nat) : rd xs (i : Int) = xs.getD i 0 := by simp [rd]
theorem i64_bd {n : Int} (h : (Lit.int .i64 n).wf = true) : -9223372036854775808 ≤ n ∧ n ≤ 9223372036854775807 := by simpa [Lit.wf, IntKind.min, IntKind.max, IntKind.signed, IntKind.bits] using h
theorem countV_no {d r s : Int} {l : List Int} (h : ¬ (GR d r s ∧ okA (s * pl d r) l)) : countV d r s l = ([], false) := by unfold countV; rw [if_neg h]
theorem countV_yes {d r s : Int} {l : List Int} (h : GR d r s ∧ okA (s * pl d r) l) : countV d r s l = (cl (pl d r) s.toNat (dd l), true) := by unfold countV; rw [if_pos h]
theorem countV_len (d r s : Int) (l : List Int) : (countV d r s l).1.length ≤ 64 := by
  by_cases h : GR d r s ∧ okA (s * pl d r) l
  · rw [countV_yes h, cl_len]; have := h.1.1.s1; omega
  · rw [countV_no h]; simp
theorem count_eq {d r s : Int} {l : List Int} (h : ¬ 20000 < l.length) : usage_Count.f d r s l = some (countV d r s l) := by unfold usage_Count.f; rw [if_neg h]
theorem fits_eq {d r s : Int} {l : List Int} {old data more : Int} (h : l.length ≤ 64) : usage_Fits.f d r s l old data more = some (open Classical in if GR d r s then fitsV (pl d r) s l old data more else false) := by
  unfold usage_Fits.f
  rw [if_neg (by omega)]
/-- The sum of what the segments of a list hold. -/
def sumAt (cs : List Int) (l : List Int) : Int := (l.map fun s => cs.getD s.toNat 0).sum
theorem sumAt_cons (cs : List Int) (x : Int) (l : List Int) : sumAt cs (x :: l) = cs.getD x.toNat 0 + sumAt cs l := by simp [sumAt]
theorem sumAt_perm {cs l m : List Int} (h : l.Perm m) : sumAt cs l = sumAt cs m := by
  induction h with
  | nil => rfl
  | cons x h ih => rw [sumAt_cons, sumAt_cons, ih]
  | swap x y l => simp only [sumAt_cons]; omega
  | trans _ _ h1 h2 => exact h1.trans h2
theorem sumAt_ge {cs : List Int} {b : Int} : ∀ {l : List Int}, (∀ x ∈ l, b ≤ 2 * cs.getD x.toNat 0) → (l.length : Int) * b ≤ 2 * sumAt cs l
  | [], _ => by simp [sumAt]
  | x :: l, h => by
    have ih := sumAt_ge (l := l) fun y hy => h y (by simp [hy])
    have h1 := h x (by simp)
    rw [sumAt_cons, List.length_cons]
    have e : ((l.length + 1 : Nat) : Int) * b = (l.length : Int) * b + b := by
      rw [show ((l.length + 1 : Nat) : Int) = (l.length : Int) + 1 by omega, Int.add_mul, Int.one_mul]
    omega
/-- Where the two that hold least hold more than D together, all hold more than half of D each. -/
theorem many {cs : List Int} {D : Int} {M : List Int} (hM : M.Pairwise (segLt cs)) (hn : ∀ x ∈ M, 0 ≤ cs.getD x.toNat 0) (h2 : 2 ≤ M.length) (hc : (cutP cs D M).length < 2) : (M.length : Int) * (D + 1) ≤ 2 * sumAt cs M := by
  match M, hM, hn, h2, hc with
  | [], _, _, h2, _ => simp at h2
  | [_], _, _, h2, _ => simp at h2
  | x :: y :: l, hM, hn, _, hc =>
    have n1 := hn x (by simp)
    have n2 := hn y (by simp)
    rw [List.pairwise_cons, List.pairwise_cons] at hM
    obtain ⟨hx, hy, _⟩ := hM
    have hxy := hx y (by simp)
    unfold segLt at hxy
    have hs : D + 1 ≤ cs.getD x.toNat 0 + cs.getD y.toNat 0 := by
      refine Int.not_lt.1 fun h => ?_
      simp only [cutP] at hc
      rw [if_neg (by omega), if_neg (by omega)] at hc
      simp only [List.length_cons] at hc
      omega
    have hl : (l.length : Int) * (D + 1) ≤ 2 * sumAt cs l := sumAt_ge fun z hz => by
      have := hy z hz
      unfold segLt at this
      omega
    rw [sumAt_cons, sumAt_cons, List.length_cons, List.length_cons]
    have e : ((l.length + 1 + 1 : Nat) : Int) * (D + 1) = (l.length : Int) * (D + 1) + 2 * (D + 1) := by
      rw [show ((l.length + 1 + 1 : Nat) : Int) = (l.length : Int) + 2 by omega, Int.add_mul]
    omega
/-- All of the segments, none taken. -/
theorem segP_all (cs : List Int) (S : Nat) : segP cs [] S = (List.range S).map fun (s : Nat) => (s, cs.getD s 0) := by
  unfold segP
  rw [List.filter_eq_self.2 (fun s _ => by simp)]
theorem sumAt_app (cs : List Int) (l m : List Int) : sumAt cs (l ++ m) = sumAt cs l + sumAt cs m := by simp [sumAt]
theorem vs_upto (cs : List Int) (hc : ∀ c ∈ cs, 0 ≤ c) : ∀ k, k ≤ cs.length → (vs (segP cs [] k)).length = used (cs.take k) ∧ sumAt cs (vs (segP cs [] k)) = (cs.take k).sum := by
  intro k
  induction k with
  | zero => intro _; simp [segP, vs, used, sumAt]
  | succ k ih =>
    intro h
    obtain ⟨h1, h2⟩ := ih (by omega)
    have e : cs.take (k + 1) = cs.take k ++ [cs[k]'(by omega)] := List.take_succ_eq_append_getElem (by omega)
    have eg : cs.getD k 0 = cs[k]'(by omega) := by rw [List.getD_eq_getElem?_getD, List.getElem?_eq_getElem (by omega)]; rfl
    have hp := hc (cs[k]'(by omega)) (List.getElem_mem _)
    rw [segP_succ, if_neg (by simp), e, used_snoc, List.sum_append]
    by_cases hk : 0 < cs.getD k 0
    · rw [vs_hit _ (x := (k, cs.getD k 0)) hk, List.length_append, sumAt_app, h1, h2, if_pos (by omega)]
      refine ⟨rfl, ?_⟩
      simp only [sumAt, List.map_cons, List.map_nil, Int.toNat_natCast, eg]
    · rw [vs_miss _ (x := (k, cs.getD k 0)) hk, h1, h2, if_neg (by omega)]
      have h0 : cs[k]'(by omega) = 0 := by omega
      rw [h0]
      simp
theorem vs_all (cs : List Int) (hc : ∀ c ∈ cs, 0 ≤ c) : (vs (segP cs [] cs.length)).length = used cs ∧ sumAt cs (vs (segP cs [] cs.length)) = cs.sum := by
  have h := vs_upto cs hc cs.length (Nat.le_refl _)
  rwa [List.take_length] at h
theorem vs_nodup (cs tk : List Int) (S : Nat) : (vs (segP cs tk S)).Nodup := (vs_rises cs tk S).imp fun h => Int.ne_of_lt h
/-- Where the cleaner takes none, few segments are in use. -/
theorem used_few {cs : List Int} {D : Int} {k : Nat} (hD : 1 ≤ D) (hc : ∀ c ∈ cs, 0 ≤ c) (ha : cs.sum ≤ k * D) (hv : two (vicL cs [] D cs.length) = []) : used cs ≤ 2 * k + 1 := by
  obtain ⟨h1, h2⟩ := vs_all cs hc
  have hp := sortL_perm cs (vs (segP cs [] cs.length))
  refine Nat.le_of_not_lt fun hlt => ?_
  have hlt' : 2 * k + 1 < used cs := hlt
  have hc2 : (cutP cs D (sortL cs (vs (segP cs [] cs.length)))).length < 2 := by
    unfold two vicL at hv
    refine Nat.lt_of_not_le fun h => ?_
    rw [if_neg (by omega)] at hv
    rw [hv] at h
    simp at h
  have hm := many (sortL_sorted cs _ (vs_nodup cs [] cs.length)) (fun x hx => by
    obtain ⟨s, rfl, _, _, h3, _⟩ := mem_vs (hp.mem_iff.1 hx)
    rw [Int.toNat_natCast]; omega) (by rw [hp.length_eq, h1]; omega) hc2
  rw [hp.length_eq, h1, sumAt_perm hp, h2] at hm
  have k1 : ((2 * k + 2 : Nat) : Int) * (D + 1) ≤ (used cs : Int) * (D + 1) := Int.mul_le_mul_of_nonneg_right (by omega) (by omega)
  have k2 : ((2 * k + 2 : Nat) : Int) * (D + 1) = 2 * ((k : Int) * D) + 2 * (k : Int) + 2 * D + 2 := by
    rw [show ((2 * k + 2 : Nat) : Int) = 2 * (k : Int) + 2 by omega, Int.add_mul, Int.mul_add, Int.mul_assoc]
    omega
  omega
theorem sum_take_bd {cs : List Int} {B : Int} (h0 : ∀ c ∈ cs, 0 ≤ c ∧ c ≤ B) : ∀ k, k ≤ cs.length → 0 ≤ (cs.take k).sum ∧ (cs.take k).sum ≤ k * B := by
  intro k
  induction k with
  | zero => intro _; simp
  | succ k ih =>
    intro h
    have ih := ih (by omega)
    have e : cs.take (k + 1) = cs.take k ++ [cs[k]'(by omega)] := List.take_succ_eq_append_getElem (by omega)
    have hb := h0 (cs[k]'(by omega)) (List.getElem_mem _)
    rw [e, List.sum_append]
    have e2 : ((k + 1 : Nat) : Int) * B = (k : Int) * B + B := by rw [show ((k + 1 : Nat) : Int) = (k : Int) + 1 by omega, Int.add_mul, Int.one_mul]
    simp only [List.sum_cons, List.sum_nil]
    omega
theorem cl_mem_bd (D : Int) (S : Nat) (P : List Int) : ∀ c ∈ cl D S P, 0 ≤ c ∧ c ≤ P.length := by
  intro c hc
  simp only [cl, List.mem_map] at hc
  obtain ⟨k, _, rfl⟩ := hc
  have := List.length_filter_le (hit D k) P
  omega
theorem room_loop {cs : List Int} {B : Int} (hB : B ≤ 5000) (hl : cs.length ≤ 64) (h0 : ∀ c ∈ cs, 0 ≤ c ∧ c ≤ B) (x2 x3 x4 p q D a0 a1 a2 : Int)
    (hfin : ∀ k, morainelaw09_UsageRoom.l0 (k + 1) x2 x3 x4 cs p q D cs.sum (cs.length : Int) a0 a1 a2 = some true) :
    ∀ (d k i : Nat), i + d = cs.length → d < k → morainelaw09_UsageRoom.l0 k x2 x3 x4 cs p q D (cs.take i).sum (i : Int) a0 a1 a2 = some true := by
  intro d
  induction d with
  | zero =>
    intro k i hi hk
    obtain ⟨k, rfl⟩ : ∃ m, k = m + 1 := ⟨k - 1, by omega⟩
    obtain rfl : i = cs.length := by omega
    rw [List.take_length]
    exact hfin k
  | succ d ih =>
    intro k i hi hk
    obtain ⟨k, rfl⟩ : ∃ m, k = m + 1 := ⟨k - 1, by omega⟩
    have hb := sum_take_bd h0 i (by omega)
    have hb2 : (i : Int) * B ≤ 64 * 5000 := by
      have k1 : (i : Int) * B ≤ (i : Int) * 5000 := Int.mul_le_mul_of_nonneg_left hB (by omega)
      omega
    have e : cs.take (i + 1) = cs.take i ++ [cs[i]'(by omega)] := List.take_succ_eq_append_getElem (by omega)
    have hg := h0 (cs[i]'(by omega)) (List.getElem_mem _)
    simp only [morainelaw09_UsageRoom.l0]
    rw [if_pos (by omega), if_pos (by omega), rd_get (show i < cs.length by omega), w64 (n := (cs.take i).sum + cs[i]) (by omega) (by omega), w64 (n := (i : Int) + 1) (by omega) (by omega)]
    have := ih k (i + 1) (by omega) (by omega)
    rw [e, List.sum_append] at this
    simpa using this
theorem need_le {D b : Int} {k : Int} (hD : 1 ≤ D) (h : b ≤ k * D) : need D b ≤ k := by
  unfold need
  have h1 : (b + D - 1) / D < k + 1 := Int.ediv_lt_of_lt_mul (by omega) (by rw [Int.add_mul, Int.one_mul]; omega)
  omega
theorem UsageRoom (a0 a1 a2 : Int) (l1 : List Int) (x y z : Int) (w0 : (Lit.int .i64 a0).wf = true) (w1 : (Lit.int .i64 a1).wf = true) (w2 : (Lit.int .i64 a2).wf = true) (hb1 : ∀ x ∈ l1, (Lit.int .i64 x).wf = true) (hs1 : l1.length * 8 ≤ 140737488351232) (wx : (Lit.int .i64 x).wf = true) (wy : (Lit.int .i64 y).wf = true) (wz : (Lit.int .i64 z).wf = true) :
    ∃ k, morainelaw09_UsageRoom.f k a0 a1 a2 l1 x y z = some true := by
  refine ⟨100, ?_⟩
  unfold morainelaw09_UsageRoom.f morainelaw09_alive.f
  rw [Option.bind_some, if_pos rfl]
  by_cases c : (l1.length : Int) > 5000
  · rw [if_pos c]
  rw [if_neg c, count_eq (by omega), Option.bind_some]
  have hl := countV_len a0 a1 a2 l1
  by_cases h : GR a0 a1 a2 ∧ okA (a2 * pl a0 a1) l1
  · rw [countV_yes h] at hl ⊢
    have hp := pl_bd h.1.1
    have hcp := cp_bd h.1.1
    have hot := ot_bd h.1.1
    have h64 := h.1.1.s1
    have h12 := h.1.1.s0
    rw [if_pos rfl, Caps_pos h.1, Option.bind_some, Places_pos h.1, Option.bind_some]
    have hlen : (cl (pl a0 a1) a2.toNat (dd l1)).length = a2.toNat := cl_len _ _ _
    have hbd := cl_mem_bd (pl a0 a1) a2.toNat (dd l1)
    have hdl := dd_len l1
    simp only at hl ⊢
    generalize hcs : cl (pl a0 a1) a2.toNat (dd l1) = cs at *
    generalize hD : pl a0 a1 = D at *
    refine room_loop (cs := cs) (B := ((dd l1).length : Int)) (by omega) hl hbd x y z _ _ _ a0 a1 a2 (fun k => ?_) cs.length 100 0 (by omega) (by omega)
    simp only [morainelaw09_UsageRoom.l0]
    have m1 : 0 ≤ cp a2 * D ∧ cp a2 * D ≤ 64 * 59 := mul_bd (by omega) (by omega) (by omega) (by omega)
    have m2 : 0 ≤ ot a2 * D ∧ ot a2 * D ≤ 9 * 59 := mul_bd (by omega) (by omega) (by omega) (by omega)
    rw [if_neg (by omega), w64 (n := cp a2 * D) (by omega) (by omega), w64 (n := ot a2 * D) (by omega) (by omega)]
    by_cases g1 : cs.sum > cp a2 * D
    · rw [if_pos g1]
    rw [if_neg g1]
    by_cases g2 : x < 0
    · rw [if_pos g2]
    rw [if_neg g2]
    by_cases g3 : x > ot a2
    · rw [if_pos g3]
    rw [if_neg g3]
    by_cases g4 : y < 0
    · rw [if_pos g4]
    rw [if_neg g4]
    by_cases g5 : y > cp a2 * D
    · rw [if_pos g5]
    rw [if_neg g5]
    by_cases g6 : z < 0
    · rw [if_pos g6]
    rw [if_neg g6]
    by_cases g7 : z > ot a2 * D
    · rw [if_pos g7]
    rw [if_neg g7]
    unfold usage_Victims.f
    rw [Option.bind_some, if_pos h.1, hD]
    by_cases g8 : ((two (vicL cs [] D a2.toNat)).length : Int) > 0
    · rw [if_pos g8]
    rw [if_neg g8, fits_eq hl, if_pos h.1, Option.bind_some, hD]
    have hv : two (vicL cs [] D cs.length) = [] := by
      rw [hlen]
      exact List.eq_nil_of_length_eq_zero (by omega)
    have hu := used_few (k := (cp a2).toNat) hp.1 (fun c hc => (hbd c hc).1) (by rw [Int.toNat_of_nonneg (by omega)]; omega) hv
    have n1 := need_le (k := cp a2) hp.1 (show y ≤ cp a2 * D by omega)
    have n2 := need_le (k := ot a2) hp.1 (show z ≤ ot a2 * D by omega)
    have hf : fitsV D a2 cs x y z = true := by
      unfold fitsV
      simp only [Bool.and_eq_true, decide_eq_true_eq]
      refine ⟨⟨⟨by omega, by omega, by omega, by omega, by omega, by omega⟩, fun c hc => (hbd c hc).1⟩, by omega⟩
    rw [hf]
  · rw [countV_no h, if_neg (by simp)]
end Go.Proofs.Ytogdnolkheifcaa.Pure
