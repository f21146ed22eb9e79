/- tree.Right of a root alone: by hand. -/
import Derived.Test.YtfkkhobbmcepmaaDoorGivRoot3
namespace Go.Proofs.YtfkkhobbmcepmaaDoor.Given
open Go.RowKit Go.Shelf Go.Maps Go.Proofs.YtfkkhobbmcepmaaDoorW.PrintWords Go.Proofs.YtfkkhobbmcepmaaDoorW.PrintLast Go.Proofs.YtfkkhobbmcepmaaDoorW.PrintMore Go.Proofs.YtfkkhobbmcepmaaDoor.Base
set_option linter.unusedVariables false
set_option linter.unusedSimpArgs false
set_option maxRecDepth 100000 in
set_option maxHeartbeats 4000000 in
theorem treeRight_calls (p : Nat) (w : World) (hR : Root p w) : Calls Tryd.prog 20 #[treeV p] w fun e w' => e = .returned (.bool true) ∧ Below w.heap.size w w' := by
  have hT := (Boxed.new w 34 (.slice (some ⟨p, 0, none⟩) 1 1)).alloc (.cells #[.int .i64 1] 3)
  have hN := Boxed.new (w.alloc (.cells #[.slice (some ⟨p, 0, none⟩) 1 1] 34)) 3 (.int .i64 1)
  have hB0 : Below w.heap.size w ((w.alloc (.cells #[.slice (some ⟨p, 0, none⟩) 1 1] 34)).alloc (.cells #[.int .i64 1] 3)) := ((Below.refl _ w).alloc (Nat.le_refl _) _).alloc (by simp) _
  rw [World.size_alloc] at hN
  have hR0 := hR.below hB0
  obtain ⟨W0, hW0⟩ : ∃ W0, ((w.alloc (.cells #[.slice (some ⟨p, 0, none⟩) 1 1] 34)).alloc (.cells #[.int .i64 1] 3)) = W0 := ⟨_, rfl⟩
  rw [hW0] at hT hN hB0 hR0
  have c0 : W0.cell? ⟨p, 0, none⟩ = some (.int .i64 2) := hR0.at_ 0 rfl
  have ct := hT.cell
  have cn := hN.cell
  go_enter Tryd.func20, Tryd.ntmps20
  go_wp2_with fail
  refine (contains_calls p (w.heap.size + 1) W0 hR0 cn).mono ?_
  rintro e W1 ⟨rfl, hb⟩
  have hT1 : Boxed W1 _ _ _ := blk_below hT hb
  have hN1 : Boxed W1 _ _ _ := blk_below hN hb
  have hR1 := hR0.below hb
  have hB1 := hB0.trans (hb.mono hB0.size)
  clear c0 ct cn
  have ct := hT1.cell
  go_wp2_with fail
  refine (met_calls p W1 hR1).mono ?_
  rintro e W2 ⟨g0, cc, rfl, hg0, hb⟩
  have hT2 : Boxed W2 _ _ _ := blk_below hT1 hb
  have hN2 : Boxed W2 _ _ _ := blk_below hN1 hb
  have hR2 := hR1.below hb
  have hB2 := hB1.trans (hb.mono hB1.size)
  clear ct
  have ct := hT2.cell
  go_wp2_with fail
  refine (links_calls p W2 hR2).mono ?_
  rintro e W3 ⟨g1, g2, rfl, hg1, hg2, hb⟩
  have hT3 : Boxed W3 _ _ _ := blk_below hT2 hb
  have hN3 : Boxed W3 _ _ _ := blk_below hN2 hb
  have hR3 := hR2.below hb
  have hB3 := hB2.trans (hb.mono hB2.size)
  have hg0' := pw_cell_below hb hg0
  clear ct
  have ct := hT3.cell
  have c0 : W3.cell? ⟨p, 0, none⟩ = some (.int .i64 2) := hR3.at_ 0 rfl
  have c1 : W3.cell? ⟨p, 1, none⟩ = some (.int .i64 2) := hR3.at_ 1 rfl
  have c2 : W3.cell? ⟨p, 2, none⟩ = some (.slice none 0 0) := hR3.at_ 2 rfl
  have c3 : W3.cell? ⟨p, 3, none⟩ = some (.slice none 0 0) := hR3.at_ 3 rfl
  have hb4 : Below W3.heap.size W3 (W3.alloc (.cells #[.int .i64 2, .int .i64 2, .slice none 0 0, .slice none 0 0] 50)) := (Below.refl _ W3).alloc (Nat.le_refl _) _
  have d0 := pw_cell_below hb4 hg0'
  have d1 := pw_cell_below hb4 hg1
  have d2 := pw_cell_below hb4 hg2
  have d3 := pw_cell_below hb4 hN3.cell
  have hB4 := hB3.trans (hb4.mono hB3.size)
  go_wp2
  refine wp_loop_rounds 2 ?_
  rw [rounds_succ]
  go_wp2
  go_region
  all_goals
    go_wp2
    rw [rounds_succ]
    go_wp2
    go_ret
    first | exact ⟨rfl, hB4⟩ | exact ⟨rfl, below_drew hB4⟩
end Go.Proofs.YtfkkhobbmcepmaaDoor.Given
