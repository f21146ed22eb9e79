/- Plain laws over whole numbers and lists: PureUsageCounts. -/
import Derived.Test.YtogdnolkheifcaaQUsageCountsx
import Derived.Test.YtogdnolkheifcaaGivAlive09
import Derived.KernelRfl
import Derived.Laws.BitsLemmas
import Derived.Laws.BitsAllLaws
namespace Go.Proofs.Ytogdnolkheifcaa.Pure
open Go.RowKit Go.Proofs.Ytogdnolkheifcaa.PUsageCounts Go.Proofs.Ytogdnolkheifcaa.Base Go.Proofs.Ytogdnolkheifcaa.Given Go.Proofs.YtogdnolkheifcaaW.PrintWords Go.Proofs.YtogdnolkheifcaaW.PrintLast Go.Proofs.YtogdnolkheifcaaW.PrintMore
set_option linter.unusedVariables false
set_option linter.unusedSimpArgs false
theorem rd_get {xs : List Int} {i : Nat} (h : i < xs.length) : rd xs (i : Int) = xs[i] := by simp [rd, h]
theorem rd_nat (xs : List Int) (i : Nat) : rd xs (i : Int) = xs.getD i 0 := by simp [rd]
theorem i64_bd {n : Int} (h : (Lit.int .i64 n).wf = true) : -9223372036854775808 ≤ n ∧ n ≤ 9223372036854775807 := by simpa [Lit.wf, IntKind.min, IntKind.max, IntKind.signed, IntKind.bits] using h
theorem countV_no {d r s : Int} {l : List Int} (h : ¬ (GR d r s ∧ okA (s * pl d r) l)) : countV d r s l = ([], false) := by unfold countV; rw [if_neg h]
theorem countV_yes {d r s : Int} {l : List Int} (h : GR d r s ∧ okA (s * pl d r) l) : countV d r s l = (cl (pl d r) s.toNat (dd l), true) := by unfold countV; rw [if_pos h]
theorem countV_len (d r s : Int) (l : List Int) : (countV d r s l).1.length ≤ 64 := by
  by_cases h : GR d r s ∧ okA (s * pl d r) l
  · rw [countV_yes h, cl_len]; have := h.1.1.s1; omega
  · rw [countV_no h]; simp
theorem count_eq {d r s : Int} {l : List Int} (h : ¬ 20000 < l.length) : usage_Count.f d r s l = some (countV d r s l) := by unfold usage_Count.f; rw [if_neg h]
theorem sameI_loop (x y : List Int) (hl : x.length = y.length) (hn : x.length ≤ 140737488355328) (d : Nat) : ∀ (k i : Nat), i + d = x.length → d < k →
    moraineref00_SameInts.l0 k x y (i : Int) = some (decide (x.drop i = y.drop i)) := by
  induction d with
  | zero =>
    intro k i hi hk
    obtain ⟨k, rfl⟩ : ∃ m, k = m + 1 := ⟨k - 1, by omega⟩
    simp only [moraineref00_SameInts.l0]
    rw [if_neg (by omega), List.drop_of_length_le (by omega), List.drop_of_length_le (by omega)]; simp
  | succ d ih =>
    intro k i hi hk
    obtain ⟨k, rfl⟩ : ∃ m, k = m + 1 := ⟨k - 1, by omega⟩
    simp only [moraineref00_SameInts.l0]
    rw [if_pos (by omega), if_pos (by omega), if_pos (by omega), rd_get (show i < x.length by omega), rd_get (show i < y.length by omega)]
    have ex : x.drop i = x[i] :: x.drop (i + 1) := List.drop_eq_getElem_cons (by omega)
    have ey : y.drop i = y[i] :: y.drop (i + 1) := List.drop_eq_getElem_cons (by omega)
    by_cases h : x[i] = y[i]
    · rw [if_pos h, w64 (by omega) (by omega)]
      have := ih k (i + 1) (by omega) (by omega)
      rw [show ((i : Int) + 1) = ((i + 1 : Nat) : Int) by omega, this]
      exact congrArg some (decide_eq_decide.2 ⟨fun e => by rw [ex, ey, h, e], fun e => by rw [ex, ey] at e; exact (List.cons.inj e).2⟩)
    · rw [if_neg h, decide_eq_false (fun e => by rw [ex, ey] at e; exact h (List.cons.inj e).1)]
theorem sameI_eq (x y : List Int) (hn : x.length ≤ 140737488355328) (k : Nat) (hk : x.length < k) : moraineref00_SameInts.f k x y = some (decide (x = y)) := by
  unfold moraineref00_SameInts.f
  by_cases hl : x.length = y.length
  · rw [if_pos (by omega)]
    have := sameI_loop x y hl hn x.length k 0 (by omega) hk
    simpa using this
  · rw [if_neg (by omega)]
    have : x ≠ y := fun e => hl (by rw [e])
    simp [this]
theorem copy_eq (l : List Int) (h : l.length < 17592186044416) : moraineref00_CopyInts.f l = some l := by
  unfold moraineref00_CopyInts.f
  rw [Option.bind_some, if_pos (by simpa using h)]
  rfl
theorem UsageCounts (a0 a1 a2 : Int) (l1 : List Int) (w0 : (Lit.int .i64 a0).wf = true) (w1 : (Lit.int .i64 a1).wf = true) (w2 : (Lit.int .i64 a2).wf = true) (hb1 : ∀ x ∈ l1, (Lit.int .i64 x).wf = true) (hs1 : l1.length * 8 ≤ 140737488351232) :
    ∃ k, morainelaw09_UsageCounts.f k a0 a1 a2 l1 = some true := by
  refine ⟨30000, ?_⟩
  unfold morainelaw09_UsageCounts.f morainelaw09_alive.f
  rw [Option.bind_some, if_pos rfl]
  by_cases c : (l1.length : Int) > 20000
  · rw [if_pos c]
  rw [if_neg c, copy_eq l1 (by omega), Option.bind_some]
  unfold moraineref09_Count.f
  have hl := countV_len a0 a1 a2 l1
  rw [count_eq (by omega), Option.bind_some, Option.bind_some, sameI_eq _ _ (by omega) _ (by omega), Option.bind_some, sameI_eq _ _ (by omega) _ (by omega)]
  simp
end Go.Proofs.Ytogdnolkheifcaa.Pure
