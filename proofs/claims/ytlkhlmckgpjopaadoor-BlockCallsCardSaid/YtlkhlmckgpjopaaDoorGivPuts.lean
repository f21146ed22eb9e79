/- What BlockPuts' walk wants: Put whatever the bytes; by hand. -/
import Derived.Test.YtlkhlmckgpjopaaDoorGivAlive15
import Derived.Test.YtlkhlmckgpjopaaDoorBlks1
namespace Go.Proofs.YtlkhlmckgpjopaaDoor.Given
open Go.RowKit Go.Maps Go.Sort Go.Shelf Go.Proofs.YtlkhlmckgpjopaaDoorW.PrintWords Go.Proofs.YtlkhlmckgpjopaaDoorW.PrintLast Go.Proofs.YtlkhlmckgpjopaaDoorW.PrintMore Go.Proofs.YtlkhlmckgpjopaaDoor.Base
set_option linter.unusedVariables false
set_option linter.unusedSimpArgs false
theorem BM.mono {w : World} {base p N M : Nat} {a : Int → Option Int} {f : Int → Option (List Int)} (h : BM w base p N a f) (hn : N ≤ M) : BM w base p M a f := by
  obtain ⟨bA, bF, DA, DF, mF, hB⟩ := h
  exact ⟨bA, bF, DA, DF, mF, hB.hp, hB.bp, hB.ba, hB.bf, hB.ne, own_more hB.oA hn, hB.hA, own_more hB.oF hn, hB.hF, hB.el⟩
/-- Is one of the first n bytes none nought? -/
def someB (b : List Int) (n : Nat) : Bool := !decide (tl b n = 0)
theorem someB_zero (b : List Int) : someB b 0 = false := rfl
theorem someB_succ (b : List Int) (n : Nat) : someB b (n + 1) = (someB b n || (b.getD n 0 != 0)) := by
  have h : tl b (n + 1) = if b.getD n 0 = 0 then tl b n else n + 1 := rfl
  unfold someB
  rw [h]
  by_cases e : b.getD n 0 = 0
  · rw [if_pos e, e]; simp
  · rw [if_neg e]
    have : (b.getD n 0 != 0) = true := by simpa using e
    rw [this]; simp
theorem put_all {w : World} {base p N : Nat} {a : Int → Option Int} {f : Int → Option (List Int)} (h : BM w base p N a f) (hN : N < 1000000) (k : Int) (h0 : 0 ≤ k) (h1 : k < 828) (A : Option Addr) (c : Nat) (b : List Int) (hb : b.length = 56) (hc : 56 ≤ c) (hC : Kd.C (Kd.int .u8) w A b.length b) :
    Calls Tryd.prog 10 #[.pointer (some ⟨p, 0, none⟩), .int .i64 k, .slice A 56 c] w fun e w' => e = .returned (.int .i64 0) ∧ BM w' base p (N + 1) (setF a k none) (setF f k (if someB b 56 then some b else none)) ∧ Below base w w' := by
  cases hz : someB b 56 with
  | false =>
    refine (put_zero h k h0 h1 A c b hb hc hC ?_).mono ?_
    · unfold bits_Nought.f; rw [hb]; unfold someB at hz; simpa using hz
    · rintro e w' ⟨rfl, hM, hB⟩
      exact ⟨rfl, hM.mono (by omega), hB⟩
  | true =>
    refine (put_some h hN k h0 h1 A c b hb hc hC ?_).mono ?_
    · unfold bits_Nought.f; rw [hb]; unfold someB at hz; simpa using hz
    · rintro e w' ⟨rfl, hM, hB⟩
      exact ⟨rfl, hM, hB⟩
end Go.Proofs.YtlkhlmckgpjopaaDoor.Given
namespace Go.Proofs.YtlkhlmckgpjopaaDoor.Given
open Go.RowKit Go.Proofs.YtlkhlmckgpjopaaDoorW.PrintWords Go.Proofs.YtlkhlmckgpjopaaDoorW.PrintLast Go.Proofs.YtlkhlmckgpjopaaDoorW.PrintMore Go.Proofs.YtlkhlmckgpjopaaDoor.Base
theorem w64 {n : Int} (h0 : -9223372036854775808 ≤ n) (h1 : n ≤ 9223372036854775807) : wrap64 n = n := by unfold wrap64; omega
theorem rd_get {xs : List Int} {i : Nat} (h : i < xs.length) : rd xs (i : Int) = xs[i] := by simp [rd, h]
theorem same_loop (x y : List Int) (hl : x.length = y.length) (hn : x.length ≤ 140737488355328) (d : Nat) : ∀ (k i : Nat), i + d = x.length → d < k →
    moraineref00_SameBytes.l0 k x y (i : Int) = some (decide (x.drop i = y.drop i)) := by
  induction d with
  | zero =>
    intro k i hi hk
    obtain ⟨k, rfl⟩ : ∃ m, k = m + 1 := ⟨k - 1, by omega⟩
    simp only [moraineref00_SameBytes.l0]
    rw [if_neg (by omega), List.drop_of_length_le (by omega), List.drop_of_length_le (by omega)]; simp
  | succ d ih =>
    intro k i hi hk
    obtain ⟨k, rfl⟩ : ∃ m, k = m + 1 := ⟨k - 1, by omega⟩
    simp only [moraineref00_SameBytes.l0]
    rw [if_pos (by omega), if_pos (by omega), if_pos (by omega), rd_get (show i < x.length by omega), rd_get (show i < y.length by omega)]
    have ex : x.drop i = x[i] :: x.drop (i + 1) := List.drop_eq_getElem_cons (by omega)
    have ey : y.drop i = y[i] :: y.drop (i + 1) := List.drop_eq_getElem_cons (by omega)
    by_cases h : x[i] = y[i]
    · rw [if_pos h, w64 (by omega) (by omega)]
      have := ih k (i + 1) (by omega) (by omega)
      rw [show ((i : Int) + 1) = ((i + 1 : Nat) : Int) by omega, this]
      exact congrArg some (decide_eq_decide.2 ⟨fun e => by rw [ex, ey, h, e], fun e => by rw [ex, ey] at e; exact (List.cons.inj e).2⟩)
    · rw [if_neg h, decide_eq_false (fun e => by rw [ex, ey] at e; exact h (List.cons.inj e).1)]
theorem same_eq (x y : List Int) (hn : x.length ≤ 140737488355328) (k : Nat) (hk : x.length < k) : moraineref00_SameBytes.f k x y = some (decide (x = y)) := by
  unfold moraineref00_SameBytes.f
  by_cases hl : x.length = y.length
  · rw [if_pos (by omega)]
    have := same_loop x y hl hn x.length k 0 (by omega) hk
    simpa using this
  · rw [if_neg (by omega)]
    have : x ≠ y := fun e => hl (by rw [e])
    simp [this]
end Go.Proofs.YtlkhlmckgpjopaaDoor.Given
