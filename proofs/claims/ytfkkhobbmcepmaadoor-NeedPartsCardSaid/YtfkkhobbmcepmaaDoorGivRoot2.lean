/- The tree of a root alone: by hand. -/
import Derived.Test.YtfkkhobbmcepmaaDoorGivRoot1
import Derived.Maps.OwnSet
namespace Go.Proofs.YtfkkhobbmcepmaaDoor.Given
open Go.RowKit Go.Shelf Go.Maps Go.Proofs.YtfkkhobbmcepmaaDoorW.PrintWords Go.Proofs.YtfkkhobbmcepmaaDoorW.PrintLast Go.Proofs.YtfkkhobbmcepmaaDoorW.PrintMore Go.Proofs.YtfkkhobbmcepmaaDoor.Base
set_option linter.unusedVariables false
set_option linter.unusedSimpArgs false
set_option maxHeartbeats 1000000 in
theorem new_calls (w : World) : Calls Tryd.prog 11 #[] w fun e w' => ∃ p, e = .returned (treeV p) ∧ Root p w' ∧ Below w.heap.size w w' := by
  go_enter Tryd.func11, Tryd.ntmps11
  go_wp2
  refine bodyPost_ret (results_cell_row rfl _ _ w.heap.size 34 #[.slice (some ⟨w.heap.size + 1, 0, none⟩) 1 1] (0, 0) _ rfl (blk_below (blk_new w _) ((Below.refl _ _).alloc (Nat.le_refl _) _)) Tryd.underlying34 rfl (by kernel_rfl)) rfl ?_
  refine ⟨w.heap.size + 1, rfl, ?_, ((Below.refl _ w).alloc (Nat.le_refl _) _).alloc (by simp) _⟩
  have := blk_new (w.alloc (.cells #[.slice (some ⟨w.heap.size + 1, 0, none⟩) 1 1] 34)) (.cells #[.int .i64 2, .int .i64 2, .slice none 0 0, .slice none 0 0] 50)
  rw [World.size_alloc] at this
  exact this
set_option maxHeartbeats 1000000 in
theorem index_calls (p B : Nat) (w : World) (hR : Root p w) (h : w.cell? ⟨B, 0, none⟩ = some (.int .i64 1)) : Calls Tryd.prog 41 #[.slice (some ⟨p, 0, none⟩) 1 1, .func (.func 29) #[] #[.pointer (some ⟨B, 0, none⟩)]] w fun e w' => e = .returned (.int .i64 (-1)) ∧ Below w.heap.size w w' := by
  have c0 : w.cell? ⟨p, 0, none⟩ = some (.int .i64 2) := hR.at_ 0 rfl
  have c1 : w.cell? ⟨p, 1, none⟩ = some (.int .i64 2) := hR.at_ 1 rfl
  have c2 : w.cell? ⟨p, 2, none⟩ = some (.slice none 0 0) := hR.at_ 2 rfl
  have c3 : w.cell? ⟨p, 3, none⟩ = some (.slice none 0 0) := hR.at_ 3 rfl
  go_enter Tryd.func41, Tryd.ntmps41
  go_wp2
  refine wp_loop_rounds 2 ?_
  rw [rounds_succ]
  go_wp2_with fail
  refine (rightfn_calls B _ h).mono ?_
  rintro e w1 ⟨rfl, hB⟩
  go_wp2
  rw [rounds_succ]
  go_wp2
  go_ret
  exact ⟨rfl, hB⟩
set_option maxHeartbeats 1000000 in
theorem contains_calls (p B : Nat) (w : World) (hR : Root p w) (h : w.cell? ⟨B, 0, none⟩ = some (.int .i64 1)) : Calls Tryd.prog 28 #[.slice (some ⟨p, 0, none⟩) 1 1, .func (.func 29) #[] #[.pointer (some ⟨B, 0, none⟩)]] w fun e w' => e = .returned (.bool false) ∧ Below w.heap.size w w' := by
  go_enter Tryd.func28, Tryd.ntmps28
  go_wp2_with fail
  refine (index_calls p B _ hR h).mono ?_
  rintro e w1 ⟨rfl, hB⟩
  go_wp2
  go_ret
  exact ⟨rfl, hB⟩
theorem mk1 (W : World) : (Instr.makeSlice 24 (.int .i64 1) (.int .i64 1)).run Tryd.prog W = .ok (.slice (some ⟨W.heap.size, 0, none⟩) 1 1) (W.alloc (.cells #[.int .i64 0] 3)) := by kernel_rfl
set_option maxHeartbeats 2000000 in
theorem links_calls (p : Nat) (w : World) (hR : Root p w) : Calls Tryd.prog 32 #[treeV p] w fun e w' => ∃ g1 g2, e = .returned (.tuple #[.slice (some ⟨g1, 0, none⟩) 1 1, .slice (some ⟨g2, 0, none⟩) 1 1]) ∧ w'.cell? ⟨g1, 0, none⟩ = some (.int .i64 2) ∧ w'.cell? ⟨g2, 0, none⟩ = some (.int .i64 0) ∧ Below w.heap.size w w' := by
  have hmk := mk1
  have hbT := ((Boxed.new w 34 (.slice (some ⟨p, 0, none⟩) 1 1)).alloc (.cells #[.int .i64 0] 3)).alloc (.cells #[.int .i64 0] 3)
  have hbA := (Boxed.new (w.alloc (.cells #[.slice (some ⟨p, 0, none⟩) 1 1] 34)) 3 (.int .i64 0)).alloc (.cells #[.int .i64 0] 3)
  have hbB := Boxed.new ((w.alloc (.cells #[.slice (some ⟨p, 0, none⟩) 1 1] 34)).alloc (.cells #[.int .i64 0] 3)) 3 (.int .i64 0)
  have hB0 : Below w.heap.size w (((w.alloc (.cells #[.slice (some ⟨p, 0, none⟩) 1 1] 34)).alloc (.cells #[.int .i64 0] 3)).alloc (.cells #[.int .i64 0] 3)).drew := below_drew ((((Below.refl _ w).alloc (Nat.le_refl _) _).alloc (by simp) _).alloc (by simp; omega) _)
  have hR1 := hR.below hB0
  simp only [World.size_alloc] at hbA hbB
  have hdr := below_drew (Below.refl (((w.alloc (.cells #[.slice (some ⟨p, 0, none⟩) 1 1] 34)).alloc (.cells #[.int .i64 0] 3)).alloc (.cells #[.int .i64 0] 3)).heap.size (((w.alloc (.cells #[.slice (some ⟨p, 0, none⟩) 1 1] 34)).alloc (.cells #[.int .i64 0] 3)).alloc (.cells #[.int .i64 0] 3)))
  replace hbT := blk_below hbT hdr
  replace hbA := blk_below hbA hdr
  replace hbB := blk_below hbB hdr
  obtain ⟨W, hW⟩ : ∃ W, (((w.alloc (.cells #[.slice (some ⟨p, 0, none⟩) 1 1] 34)).alloc (.cells #[.int .i64 0] 3)).alloc (.cells #[.int .i64 0] 3)).drew = W := ⟨_, rfl⟩
  rw [hW] at hbT hbA hbB hR1 hB0
  have kbT := Lib.hid hbT; have kbA := Lib.hid hbA; have kbB := Lib.hid hbB; have kR := Lib.hid hR1; have kB0 := Lib.hid hB0; have kW := Lib.hid hW
  clear hbT hbA hbB hR1 hB0 hdr hW hR
  go_enter Tryd.func32, Tryd.ntmps32
  go_wp2
  go_region
  all_goals
    rw [kW.out]
    have cT : W.cell? ⟨w.heap.size, 0, none⟩ = some (.slice (some ⟨p, 0, none⟩) 1 1) := (show Boxed W _ _ _ from kbT.out).cell
    have c0 : W.cell? ⟨p, 0, none⟩ = some (.int .i64 2) := kR.out.at_ 0 rfl
    have c1 : W.cell? ⟨p, 1, none⟩ = some (.int .i64 2) := kR.out.at_ 1 rfl
    have c2 : W.cell? ⟨p, 2, none⟩ = some (.slice none 0 0) := kR.out.at_ 2 rfl
    have c3 : W.cell? ⟨p, 3, none⟩ = some (.slice none 0 0) := kR.out.at_ 3 rfl
    have bA2 : Boxed (W.alloc (.cells #[.int .i64 2, .int .i64 2, .slice none 0 0, .slice none 0 0] 50)) (w.heap.size + 1) 3 (.int .i64 0) := Boxed.alloc kbA.out _
    have bB2 : Boxed (W.alloc (.cells #[.int .i64 2, .int .i64 2, .slice none 0 0, .slice none 0 0] 50)) (w.heap.size + 2) 3 (.int .i64 0) := Boxed.alloc kbB.out _
    have cA := bA2.cell
    have fA := bA2.frozen
    have cB := bB2.cell
    have fB := bB2.frozen
    go_wp2
    refine wp_loop_rounds 2 ?_
    rw [rounds_succ]
    go_wp2
    refine wp_loop_rounds 1 ?_
    rw [rounds_succ]
    go_wp2
    rw [rounds_succ]
    go_wp2
    go_ret2
    have hb3 : Below w.heap.size w (W.alloc (.cells #[.int .i64 2, .int .i64 2, .slice none 0 0, .slice none 0 0] 50)) := (show Below w.heap.size w W from kB0.out).alloc (show Below w.heap.size w W from kB0.out).size _
    first
      | exact ⟨w.heap.size + 1, w.heap.size + 2, rfl, (bA2.set _).cell, (bB2.kept (grownBy_setCell' _ _ _) (fun e => by have := Option.some.inj e; omega)).cell, hb3.setCell (p := ⟨w.heap.size + 1, 0, none⟩) (by simp) _⟩
      | exact ⟨w.heap.size + 2, w.heap.size + 1, rfl, (bB2.set _).cell, (bA2.kept (grownBy_setCell' _ _ _) (fun e => by have := Option.some.inj e; omega)).cell, hb3.setCell (p := ⟨w.heap.size + 2, 0, none⟩) (by simp) _⟩
end Go.Proofs.YtfkkhobbmcepmaaDoor.Given
