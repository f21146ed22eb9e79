/- The pure statement of BitsPad, over whole numbers and lists alone. -/
import Derived.Test.YtpdfkhglgamhiaaDoorQBitsPadx
import Derived.KernelRfl
import Derived.Laws.BitsLemmas
import Derived.Laws.BitsAllLaws
namespace Go.Proofs.YtpdfkhglgamhiaaDoor.Pure
open Go.RowKit Go.Proofs.YtpdfkhglgamhiaaDoor.PBitsPad Go.Proofs.YtpdfkhglgamhiaaDoorW.PrintWords Go.Proofs.YtpdfkhglgamhiaaDoorW.PrintLast Go.Proofs.YtpdfkhglgamhiaaDoorW.PrintMore Go.Proofs.YtpdfkhglgamhiaaDoor.Given
set_option linter.unusedVariables false
set_option linter.unusedSimpArgs false
theorem w64 {n : Int} (h0 : -9223372036854775808 ≤ n) (h1 : n ≤ 9223372036854775807) : wrap64 n = n := by unfold wrap64; omega
theorem i64_bd {n : Int} (h : (Lit.int .i64 n).wf = true) : -9223372036854775808 ≤ n ∧ n ≤ 9223372036854775807 := by simpa [Lit.wf, IntKind.min, IntKind.max, IntKind.signed, IntKind.bits] using h
theorem u8_bd {n : Int} (h : (Lit.int .u8 n).wf = true) : 0 ≤ n ∧ n ≤ 255 := by simpa [Lit.wf, IntKind.min, IntKind.max, IntKind.signed, IntKind.bits] using h
theorem rd_get {xs : List Int} {i : Nat} (h : i < xs.length) : rd xs (i : Int) = xs[i] := by simp [rd, h]
theorem same_loop (x y : List Int) (hl : x.length = y.length) (hn : x.length ≤ 140737488355328) (d : Nat) : ∀ (k i : Nat), i + d = x.length → d < k →
    moraineref00_SameBytes.l0 k x y (i : Int) = some (decide (x.drop i = y.drop i)) := by
  induction d with
  | zero =>
    intro k i hi hk
    obtain ⟨k, rfl⟩ : ∃ m, k = m + 1 := ⟨k - 1, by omega⟩
    simp only [moraineref00_SameBytes.l0]
    rw [if_neg (by omega), List.drop_of_length_le (by omega), List.drop_of_length_le (by omega)]; simp
  | succ d ih =>
    intro k i hi hk
    obtain ⟨k, rfl⟩ : ∃ m, k = m + 1 := ⟨k - 1, by omega⟩
    simp only [moraineref00_SameBytes.l0]
    rw [if_pos (by omega), if_pos (by omega), if_pos (by omega), rd_get (show i < x.length by omega), rd_get (show i < y.length by omega)]
    have ex : x.drop i = x[i] :: x.drop (i + 1) := List.drop_eq_getElem_cons (by omega)
    have ey : y.drop i = y[i] :: y.drop (i + 1) := List.drop_eq_getElem_cons (by omega)
    by_cases h : x[i] = y[i]
    · rw [if_pos h, w64 (by omega) (by omega)]
      have := ih k (i + 1) (by omega) (by omega)
      rw [show ((i : Int) + 1) = ((i + 1 : Nat) : Int) by omega, this]
      exact congrArg some (decide_eq_decide.2 ⟨fun e => by rw [ex, ey, h, e], fun e => by rw [ex, ey] at e; exact (List.cons.inj e).2⟩)
    · rw [if_neg h, decide_eq_false (fun e => by rw [ex, ey] at e; exact h (List.cons.inj e).1)]
theorem same_eq (x y : List Int) (hn : x.length ≤ 140737488355328) (k : Nat) (hk : x.length < k) : moraineref00_SameBytes.f k x y = some (decide (x = y)) := by
  unfold moraineref00_SameBytes.f
  by_cases hl : x.length = y.length
  · rw [if_pos (by omega)]
    have := same_loop x y hl hn x.length k 0 (by omega) hk
    simpa using this
  · rw [if_neg (by omega)]
    have : x ≠ y := fun e => hl (by rw [e])
    simp [this]
theorem alive_eq : morainelaw01_alive.f 5 = some true := by kernel_rfl
theorem alive_at (k : Nat) : morainelaw01_alive.f (k + 5) = some true := by
  induction k with
  | zero => exact alive_eq
  | succ k ih => exact morainelaw01_alive.mono _ _ ih
theorem nought_all {l : List Int} (h : ∀ i, i < l.length → l.getD i 0 = 0) : bits_Nought.f l = some true := by
  unfold bits_Nought.f
  rw [decide_eq_true ((tl_zero l l.length).2 h)]
theorem BitsPad : morainelaw01_BitsPad.Pure := by
  intro l n m0 s0 w0 wn
  refine ⟨5010, ?_⟩
  unfold morainelaw01_BitsPad.f
  rw [alive_at 5005]; simp only [Option.bind_some]; rw [if_pos trivial]
  by_cases c1 : (l.length : Int) > 5000
  · rw [if_pos c1]
  rw [if_neg c1]
  unfold bits_Pad.f
  simp only [Option.bind_some]
  by_cases h : 65536 < n ∨ n < l.length
  · rw [if_pos h, if_neg (by simp), if_pos (by simp)]
    by_cases h1 : n < l.length
    · rw [if_pos h1]
    · rw [if_neg h1, decide_eq_true (by omega)]
  · rw [if_neg h, if_pos rfl]
    have hl := padL_length l n.toNat (by omega)
    rw [if_pos (by rw [hl]; omega), if_pos (by omega), if_pos (by rw [hl]; omega), Int.toNat_natCast]
    have et : (padL l n.toNat).take l.length = l := by simp [padL]
    have ed : (padL l n.toNat).drop l.length = List.replicate (n.toNat - l.length) 0 := by simp [padL]
    rw [et, same_eq _ _ (by omega) _ (by omega)]; simp only [Option.bind_some]
    rw [if_pos (by simp), ed, nought_all (fun i hi => by
      rw [List.length_replicate] at hi
      rw [List.getD_eq_getElem?_getD, List.getElem?_replicate, if_pos hi]; rfl)]
    simp
end Go.Proofs.YtpdfkhglgamhiaaDoor.Pure
