/- The tree of a root alone: what is asked of its one node; by hand. -/
import Derived.Test.YtfkkhobbmcepmaaDoorGivThere
import Derived.Lib.SliceRun
import Derived.Deep.QuietTactic
import Derived.BigQuiet
namespace Go.Proofs.YtfkkhobbmcepmaaDoor.Given
open Go.RowKit Go.Shelf Go.Proofs.YtfkkhobbmcepmaaDoorW.PrintWords Go.Proofs.YtfkkhobbmcepmaaDoorW.PrintLast Go.Proofs.YtfkkhobbmcepmaaDoorW.PrintMore Go.Proofs.YtfkkhobbmcepmaaDoor.Base
set_option linter.unusedVariables false
set_option linter.unusedSimpArgs false
abbrev nodeV : Value := .agg #[.int .i64 2, .int .i64 2, .slice none 0 0, .slice none 0 0]
abbrev treeV (p : Nat) : Value := .agg #[.slice (some ⟨p, 0, none⟩) 1 1]
def Root (p : Nat) (w : World) : Prop := w.heap[p]? = some (.cells #[.int .i64 2, .int .i64 2, .slice none 0 0, .slice none 0 0] 50 (0, 0))
theorem Root.below {p : Nat} {w w1 : World} (h : Root p w) (hb : Below w.heap.size w w1) : Root p w1 := blk_below h hb
theorem Root.at_ {p : Nat} {w : World} (h : Root p w) (i : Nat) {v : Value} (hv : (#[.int .i64 2, .int .i64 2, .slice none 0 0, .slice none 0 0] : Array Value)[i]? = some v) : w.cell? ⟨p, i, none⟩ = some v := (blk_cell h i).trans hv
set_option maxHeartbeats 1000000 in
theorem right0_calls (w : World) : Calls Tryd.prog 53 #[.slice none 0 0] w fun e w' => e = .returned (.bool true) ∧ w = w' := by
  go_enter Tryd.func53, Tryd.ntmps53
  go_wp2
  refine wp_loop_rounds 1 ?_
  rw [rounds_succ]
  go_wp2
  go_ret
  exact ⟨rfl, rfl⟩
set_option maxHeartbeats 1000000 in
theorem encode0_calls (w : World) : Calls Tryd.prog 46 #[.slice none 0 0] w fun e w' => e = .returned (.tuple #[.slice none 0 0, .bool true]) ∧ w = w' := by
  go_enter Tryd.func46, Tryd.ntmps46
  go_wp2_with fail
  refine (right0_calls _).mono ?_
  rintro e w1 ⟨rfl, rfl⟩
  go_wp2
  refine wp_loop_rounds 1 ?_
  rw [rounds_succ]
  go_wp2
  go_ret2
  exact ⟨rfl, rfl⟩
theorem cloneE0_calls (w : World) : Calls Tryd.prog 45 #[.slice none 0 0] w fun e w' => e = .returned (.slice none 0 0) ∧ w = w' := by
  have q30 : ∀ (w : World) (a : Option Addr) (n c n' c' : Nat), (binOp .eql 48 (.slice a n c) (.slice none n' c')).run Tryd.prog w = .ok (.bool a.isNone) w := fun w a n c n' c' => Lib.run_eql_slice_nil w _ _ a n c n' c' Tryd.underlying48
  go_enter Tryd.func45, Tryd.ntmps45
  go_wp2
  go_ret
  exact ⟨rfl, rfl⟩
set_option maxHeartbeats 1000000 in
theorem says0_calls (w : World) : Calls Tryd.prog 33 #[nodeV] w fun e w' => e = .returned (.slice none 0 0) ∧ Below w.heap.size w w' := by
  go_enter Tryd.func33, Tryd.ntmps33
  go_wp2_with fail
  refine (cloneE0_calls _).mono ?_
  rintro e w1 ⟨rfl, rfl⟩
  go_wp2
  refine wp_loop_rounds 1 ?_
  rw [rounds_succ]
  go_wp2_with fail
  refine (encode0_calls _).mono ?_
  rintro e w1 ⟨rfl, rfl⟩
  go_wp2
  go_ret
  exact ⟨rfl, (Below.refl _ w).alloc (Nat.le_refl _) _⟩
theorem data1_calls (A : Option Addr) (n c : Nat) (w : World) : Calls Tryd.prog 25 #[.slice A n c] w fun e w' => e = .returned (.int .i64 (n : Int)) ∧ w = w' := by
  go_enter Tryd.func25, Tryd.ntmps25
  go_wp2
  go_ret
  exact ⟨rfl, rfl⟩
set_option maxHeartbeats 1000000 in
theorem sane0_calls (w : World) : Calls Tryd.prog 30 #[nodeV, .int .i64 1] w fun e w' => e = .returned (.bool true) ∧ Below w.heap.size w w' := by
  go_enter Tryd.func30, Tryd.ntmps30
  go_wp2
  refine wp_loop_rounds 1 ?_
  rw [rounds_succ]
  go_wp2
  go_ret
  exact ⟨rfl, (Below.refl _ w).alloc (Nat.le_refl _) _⟩
set_option maxHeartbeats 1000000 in
theorem rightfn_calls (B : Nat) (w : World) (h : w.cell? ⟨B, 0, none⟩ = some (.int .i64 1)) : Calls Tryd.prog 29 #[nodeV, .pointer (some ⟨B, 0, none⟩)] w fun e w' => e = .returned (.bool false) ∧ Below w.heap.size w w' := by
  have hb : Below w.heap.size w (w.alloc (.cells #[.int .i64 2, .int .i64 2, .slice none 0 0, .slice none 0 0] 50)) := (Below.refl _ w).alloc (Nat.le_refl _) _
  have h1 : (w.alloc (.cells #[.int .i64 2, .int .i64 2, .slice none 0 0, .slice none 0 0] 50)).cell? ⟨B, 0, none⟩ = some (.int .i64 1) := pw_cell_below hb h
  go_enter Tryd.func29, Tryd.ntmps29
  go_wp2_with fail
  refine (sane0_calls _).mono ?_
  rintro e w1 ⟨rfl, hB⟩
  go_wp2
  go_ret
  exact ⟨rfl, hb.trans (hB.mono hb.size)⟩
end Go.Proofs.YtfkkhobbmcepmaaDoor.Given
