/- Plain laws over whole numbers and lists: PureUsageSum. -/
import Derived.Test.YtogdnolkheifcaaLawSumWalk
import Derived.Test.YtogdnolkheifcaaGivAlive09
import Derived.KernelRfl
import Derived.Laws.BitsLemmas
import Derived.Laws.BitsAllLaws
namespace Go.Proofs.Ytogdnolkheifcaa.Pure
open Go.RowKit Go.Proofs.Ytogdnolkheifcaa.PUsageSum Go.Proofs.Ytogdnolkheifcaa.SumWalk Go.Proofs.Ytogdnolkheifcaa.Base Go.Proofs.Ytogdnolkheifcaa.Base2x Go.Proofs.Ytogdnolkheifcaa.Given Go.Proofs.YtogdnolkheifcaaW.PrintWords Go.Proofs.YtogdnolkheifcaaW.PrintLast Go.Proofs.YtogdnolkheifcaaW.PrintMore
set_option linter.unusedVariables false
set_option linter.unusedSimpArgs false
theorem rd_get {xs : List Int} {i : Nat} (h : i < xs.length) : rd xs (i : Int) = xs[i] := by simp [rd, h]
theorem rd_nat (xs : List Int) (i : Nat) : rd xs (i : Int) = xs.getD i 0 := by simp [rd]
theorem i64_bd {n : Int} (h : (Lit.int .i64 n).wf = true) : -9223372036854775808 ≤ n ∧ n ≤ 9223372036854775807 := by simpa [Lit.wf, IntKind.min, IntKind.max, IntKind.signed, IntKind.bits] using h
theorem countV_no {d r s : Int} {l : List Int} (h : ¬ (GR d r s ∧ okA (s * pl d r) l)) : countV d r s l = ([], false) := by unfold countV; rw [if_neg h]
theorem countV_yes {d r s : Int} {l : List Int} (h : GR d r s ∧ okA (s * pl d r) l) : countV d r s l = (cl (pl d r) s.toNat (dd l), true) := by unfold countV; rw [if_pos h]
theorem countV_len (d r s : Int) (l : List Int) : (countV d r s l).1.length ≤ 64 := by
  by_cases h : GR d r s ∧ okA (s * pl d r) l
  · rw [countV_yes h, cl_len]; have := h.1.1.s1; omega
  · rw [countV_no h]; simp
theorem count_eq {d r s : Int} {l : List Int} (h : ¬ 20000 < l.length) : usage_Count.f d r s l = some (countV d r s l) := by unfold usage_Count.f; rw [if_neg h]
theorem sameI_loop (x y : List Int) (hl : x.length = y.length) (hn : x.length ≤ 140737488355328) (d : Nat) : ∀ (k i : Nat), i + d = x.length → d < k →
    moraineref00_SameInts.l0 k x y (i : Int) = some (decide (x.drop i = y.drop i)) := by
  induction d with
  | zero =>
    intro k i hi hk
    obtain ⟨k, rfl⟩ : ∃ m, k = m + 1 := ⟨k - 1, by omega⟩
    simp only [moraineref00_SameInts.l0]
    rw [if_neg (by omega), List.drop_of_length_le (by omega), List.drop_of_length_le (by omega)]; simp
  | succ d ih =>
    intro k i hi hk
    obtain ⟨k, rfl⟩ : ∃ m, k = m + 1 := ⟨k - 1, by omega⟩
    simp only [moraineref00_SameInts.l0]
    rw [if_pos (by omega), if_pos (by omega), if_pos (by omega), rd_get (show i < x.length by omega), rd_get (show i < y.length by omega)]
    have ex : x.drop i = x[i] :: x.drop (i + 1) := List.drop_eq_getElem_cons (by omega)
    have ey : y.drop i = y[i] :: y.drop (i + 1) := List.drop_eq_getElem_cons (by omega)
    by_cases h : x[i] = y[i]
    · rw [if_pos h, w64 (by omega) (by omega)]
      have := ih k (i + 1) (by omega) (by omega)
      rw [show ((i : Int) + 1) = ((i + 1 : Nat) : Int) by omega, this]
      exact congrArg some (decide_eq_decide.2 ⟨fun e => by rw [ex, ey, h, e], fun e => by rw [ex, ey] at e; exact (List.cons.inj e).2⟩)
    · rw [if_neg h, decide_eq_false (fun e => by rw [ex, ey] at e; exact h (List.cons.inj e).1)]
theorem sameI_eq (x y : List Int) (hn : x.length ≤ 140737488355328) (k : Nat) (hk : x.length < k) : moraineref00_SameInts.f k x y = some (decide (x = y)) := by
  unfold moraineref00_SameInts.f
  by_cases hl : x.length = y.length
  · rw [if_pos (by omega)]
    have := sameI_loop x y hl hn x.length k 0 (by omega) hk
    simpa using this
  · rw [if_neg (by omega)]
    have : x ≠ y := fun e => hl (by rw [e])
    simp [this]
theorem rises_window {D : Nat} : ∀ {l : List Int} {a : Int}, l.Pairwise (· < ·) → (∀ x ∈ l, a ≤ x ∧ x < a + D) → l.length ≤ D := by
  induction D with
  | zero =>
    intro l a _ h
    match l with
    | [] => simp
    | x :: l => have := h x List.mem_cons_self; omega
  | succ D ih =>
    intro l a hp h
    match l with
    | [] => simp
    | x :: l =>
      rw [List.pairwise_cons] at hp
      have := ih (l := l) (a := a + 1) hp.2 (fun y hy => by
        have h1 := hp.1 y hy
        have h2 := h y (List.mem_cons_of_mem _ hy)
        have h3 := h x List.mem_cons_self
        omega)
      rw [List.length_cons]; omega
theorem filter_two {f g h : Int → Bool} (e : ∀ x, f x = (g x || h x)) (n : ∀ x, g x = true → h x = false) : ∀ P : List Int, (P.filter f).length = (P.filter g).length + (P.filter h).length
  | [] => rfl
  | x :: P => by
    have ih := filter_two e n P
    cases hg : g x with
    | true =>
      have hh := n x hg
      rw [List.filter_cons_of_pos (by rw [e, hg]; rfl), List.filter_cons_of_pos hg, List.filter_cons_of_neg (by rw [hh]; simp), List.length_cons, List.length_cons, ih]; omega
    | false =>
      cases hh : h x with
      | true => rw [List.filter_cons_of_pos (by rw [e, hg, hh]; rfl), List.filter_cons_of_neg (by rw [hg]; simp), List.filter_cons_of_pos hh, List.length_cons, List.length_cons, ih]; omega
      | false => rw [List.filter_cons_of_neg (by rw [e, hg, hh]; simp), List.filter_cons_of_neg (by rw [hg]; simp), List.filter_cons_of_neg (by rw [hh]; simp), ih]
theorem cl_sum (D : Int) (P : List Int) : ∀ S : Nat, (cl D S P).sum = ((P.filter fun a => decide (a ≠ 0 ∧ 0 ≤ (a - 1) / D ∧ (a - 1) / D < (S : Int))).length : Int)
  | 0 => by
    rw [List.filter_eq_nil_iff.2 (fun x _ => by simp only [decide_eq_true_eq]; omega)]
    simp [cl]
  | S + 1 => by
    have ih := cl_sum D P S
    have e := filter_two (f := fun a => decide (a ≠ 0 ∧ 0 ≤ (a - 1) / D ∧ (a - 1) / D < ((S + 1 : Nat) : Int))) (g := fun a => decide (a ≠ 0 ∧ 0 ≤ (a - 1) / D ∧ (a - 1) / D < (S : Int))) (h := hit D S)
      (fun x => by
        unfold hit
        rw [Bool.eq_iff_iff]
        simp only [Bool.or_eq_true, Bool.and_eq_true, decide_eq_true_eq]
        omega) (fun x hx => by
        unfold hit
        simp only [decide_eq_true_eq] at hx
        rw [decide_eq_false (p := (x - 1) / D = (S : Int)) (by omega)]; simp) P
    rw [e]
    have hs : cl D (S + 1) P = cl D S P ++ [((P.filter (hit D S)).length : Int)] := by simp [cl, List.range_succ]
    rw [hs, List.sum_append, ih]
    simp
def nzl : List Int → List Int
  | [] => []
  | x :: P => if x ≠ 0 ∧ ¬ x ∈ P then x :: nzl P else nzl P
theorem nzl_len : ∀ P, (nzl P).length = nzc P
  | [] => rfl
  | x :: P => by
    simp only [nzl, nzc]
    by_cases h : x ≠ 0 ∧ ¬ x ∈ P
    · rw [if_pos h, if_pos h, List.length_cons, nzl_len P]
    · rw [if_neg h, if_neg h, nzl_len P, Nat.add_zero]
theorem mem_nzl : ∀ P x, x ∈ nzl P ↔ x ≠ 0 ∧ x ∈ P
  | [], x => by simp [nzl]
  | y :: P, x => by
    have ih := mem_nzl P x
    simp only [nzl]
    by_cases h : y ≠ 0 ∧ ¬ y ∈ P
    · rw [if_pos h, List.mem_cons, List.mem_cons, ih]
      exact ⟨fun k => k.elim (fun e => ⟨e ▸ h.1, .inl e⟩) (fun k => ⟨k.1, .inr k.2⟩), fun k => k.2.elim .inl (fun j => .inr ⟨k.1, j⟩)⟩
    · rw [if_neg h, ih, List.mem_cons]
      refine ⟨fun k => ⟨k.1, .inr k.2⟩, fun k => ⟨k.1, k.2.elim (fun e => ?_) id⟩⟩
      subst e
      exact Classical.byContradiction fun hn => h ⟨k.1, hn⟩
theorem nzl_nodup : ∀ P, (nzl P).Nodup
  | [] => List.nodup_nil
  | x :: P => by
    simp only [nzl]
    by_cases h : x ≠ 0 ∧ ¬ x ∈ P
    · rw [if_pos h, List.nodup_cons]
      exact ⟨fun k => h.2 ((mem_nzl P x).1 k).2, nzl_nodup P⟩
    · rw [if_neg h]; exact nzl_nodup P
theorem dd_reverse (l : List Int) : dd l.reverse = dd l := by
  refine List.Perm.eq_of_pairwise (le := (· < ·)) (fun a b _ _ h1 h2 => by omega) (dd_rises _) (dd_rises _) ?_
  refine (List.perm_ext_iff_of_nodup (dd_nodup _) (dd_nodup _)).2 fun x => ?_
  rw [mem_dd, mem_dd, List.mem_reverse]
theorem ediv_hit {D x k : Int} (hD : 1 ≤ D) (h : (x - 1) / D = k) : k * D + 1 ≤ x ∧ x < k * D + 1 + D := by
  have m1 := Int.emod_add_mul_ediv (x - 1) D
  have m2 := Int.emod_lt_of_pos (x - 1) (show 0 < D by omega)
  have m3 := Int.emod_nonneg (x - 1) (show D ≠ 0 by omega)
  rw [h, Int.mul_comm] at m1
  omega
theorem UsageSum (a0 a1 a2 : Int) (l1 : List Int) (w0 : (Lit.int .i64 a0).wf = true) (w1 : (Lit.int .i64 a1).wf = true) (w2 : (Lit.int .i64 a2).wf = true) (hb1 : ∀ x ∈ l1, (Lit.int .i64 x).wf = true) (hs1 : l1.length * 8 ≤ 140737488351232) :
    morainelaw09_UsageSum.f a0 a1 a2 l1 = some true := by
  unfold morainelaw09_UsageSum.f
  refine if_pos ⟨hb1, hs1, ?_⟩
  by_cases c : 5000 < l1.length
  · exact .inl c
  refine .inr ?_
  by_cases h : GR a0 a1 a2 ∧ okA (a2 * pl a0 a1) l1
  · refine .inr ⟨by omega, 100, pl a0 a1, cl (pl a0 a1) a2.toNat (dd l1), ?_⟩
    have hp := pl_bd h.1.1
    have h64 := h.1.1.s1
    have h12 := h.1.1.s0
    refine ⟨?_, ?_, Places_pos h.1, ?_, by omega, by rw [cl_len]; omega, ?_, ?_⟩
    · rw [count_eq (by omega), countV_yes h]
    · rw [count_eq (by rw [List.length_reverse]; omega), countV_yes ⟨h.1, fun x hx => h.2 x (by simpa using hx)⟩, dd_reverse]
    · intro x hx
      simp only [cl, List.mem_map, List.mem_range] at hx
      obtain ⟨k, _, rfl⟩ := hx
      refine ⟨by omega, ?_⟩
      have := rises_window (D := (pl a0 a1).toNat) (l := (dd l1).filter (hit (pl a0 a1) k)) (a := (k : Int) * pl a0 a1 + 1) (List.Pairwise.filter _ (dd_rises l1)) (fun x hx => by
        have hx := (List.mem_filter.1 hx).2
        simp only [hit, Bool.and_eq_true, decide_eq_true_eq] at hx
        have := ediv_hit hp.1 hx.2
        omega)
      omega
    · rw [cl_sum, ← nzl_len]
      have hpm : ((dd l1).filter fun a => decide (a ≠ 0 ∧ 0 ≤ (a - 1) / pl a0 a1 ∧ (a - 1) / pl a0 a1 < (a2.toNat : Int))).Perm (nzl l1) := by
        refine (List.perm_ext_iff_of_nodup (List.Pairwise.filter _ (dd_nodup l1)) (nzl_nodup l1)).2 fun x => ?_
        rw [List.mem_filter, mem_dd, mem_nzl]
        simp only [decide_eq_true_eq]
        refine ⟨fun k => ⟨k.2.1, k.1⟩, fun k => ⟨k.2, k.1, ?_, ?_⟩⟩
        · have := h.2 x k.2
          exact Int.ediv_nonneg (by omega) (by omega)
        · have := h.2 x k.2
          rw [Int.toNat_of_nonneg (by omega)]
          exact Int.ediv_lt_of_lt_mul (by omega) (by omega)
      rw [hpm.length_eq]
    · rw [sameI_eq _ _ (by rw [cl_len]; omega) _ (by rw [cl_len]; omega)]; simp
  · refine .inl ⟨by omega, ?_⟩
    rw [count_eq (by omega), countV_no h]
end Go.Proofs.Ytogdnolkheifcaa.Pure
