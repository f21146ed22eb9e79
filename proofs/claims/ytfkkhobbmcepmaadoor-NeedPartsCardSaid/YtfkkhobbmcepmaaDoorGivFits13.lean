/- need.Fits of a root alone: by hand. -/
import Derived.Test.YtfkkhobbmcepmaaDoorGivRoot5
import Derived.Test.YtfkkhobbmcepmaaDoorPureGeo
namespace Go.Proofs.YtfkkhobbmcepmaaDoor.Given
open Go.RowKit Go.Shelf Go.Maps Go.Proofs.YtfkkhobbmcepmaaDoorW.PrintWords Go.Proofs.YtfkkhobbmcepmaaDoorW.PrintLast Go.Proofs.YtfkkhobbmcepmaaDoorW.PrintMore Go.Proofs.YtfkkhobbmcepmaaDoor.Base Go.Proofs.YtfkkhobbmcepmaaDoor.Pure
set_option linter.unusedVariables false
set_option linter.unusedSimpArgs false
theorem fits_boxes (d r s : Int) (p : Nat) {w : World} (hR : Root p w) : ∃ W0, ((w.alloc (.cells #[.int .i64 d, .int .i64 r, .int .i64 s] 30)).alloc (.cells #[.slice (some ⟨p, 0, none⟩) 1 1] 34)) = W0 ∧ Below w.heap.size w W0 ∧ Root p W0 ∧ W0.cell? ⟨w.heap.size, 0, none⟩ = some (.int .i64 d) ∧ W0.cell? ⟨w.heap.size, 1, none⟩ = some (.int .i64 r) ∧ W0.cell? ⟨w.heap.size, 2, none⟩ = some (.int .i64 s) ∧ W0.cell? ⟨w.heap.size + 1, 0, none⟩ = some (.slice (some ⟨p, 0, none⟩) 1 1) := by
  have hb : Below w.heap.size w ((w.alloc (.cells #[.int .i64 d, .int .i64 r, .int .i64 s] 30)).alloc (.cells #[.slice (some ⟨p, 0, none⟩) 1 1] 34)) := ((Below.refl _ w).alloc (Nat.le_refl _) _).alloc (by simp) _
  have h1 : ((w.alloc (.cells #[.int .i64 d, .int .i64 r, .int .i64 s] 30)).alloc (.cells #[.slice (some ⟨p, 0, none⟩) 1 1] 34)).heap[w.heap.size]? = _ := blk_below (blk_new w (.cells #[.int .i64 d, .int .i64 r, .int .i64 s] 30)) ((Below.refl _ _).alloc (Nat.le_refl _) (.cells #[.slice (some ⟨p, 0, none⟩) 1 1] 34))
  have h2 := Boxed.new (w.alloc (.cells #[.int .i64 d, .int .i64 r, .int .i64 s] 30)) 34 (.slice (some ⟨p, 0, none⟩) 1 1)
  rw [World.size_alloc] at h2
  exact ⟨_, rfl, hb, hR.below hb, (blk_cell h1 0).trans rfl, (blk_cell h1 1).trans rfl, (blk_cell h1 2).trans rfl, h2.cell⟩
set_option maxRecDepth 100000 in
set_option maxHeartbeats 4000000 in
theorem fits_yes (d r s : Int) (hg : GR d r s) (p : Nat) (w : World) (hR : Root p w) : Calls Tryd.prog 10 #[.agg #[.int .i64 d, .int .i64 r, .int .i64 s], treeV p] w fun e w' => e = .returned (.bool true) ∧ Below w.heap.size w w' := by
  obtain ⟨W0, hW0, hB, hR0, p0, p1, p2, q0⟩ := fits_boxes d r s p hR
  have hp := pl_bd hg.1
  have ho := ot_bd hg.1
  have hcp := cp_bd hg.1
  have h8 := hg.2
  have hm1 := mul_bd (a := cp s) (b := pl d r) (A := 64) (B := 59) (by omega) (by omega) (by omega) (by omega)
  have hm2 := mul_bd (a := ot s) (b := pl d r) (A := 9) (B := 59) (by omega) (by omega) (by omega) (by omega)
  have e1 : IntKind.i64.wrap (cp s * pl d r) = cp s * pl d r := IntWalk.i64_in _ (by omega)
  have e2 : IntKind.i64.wrap (ot s * pl d r) = ot s * pl d r := IntWalk.i64_in _ (by omega)
  have e3 : decide ((0 : Int) < pl d r) = true := decide_eq_true (by omega)
  have e4 : decide ((0 : Int) ≤ cp s * pl d r) = true := decide_eq_true (by omega)
  have e5 : decide ((4 : Int) ≤ ot s * pl d r) = true := decide_eq_true (by omega)
  have hca := Caps_pos hg
  have hpl := Places_pos hg
  obtain ⟨P, hP⟩ : ∃ P, pl d r = P := ⟨_, rfl⟩
  obtain ⟨C, hC⟩ : ∃ C, cp s = C := ⟨_, rfl⟩
  obtain ⟨O, hO⟩ : ∃ O, ot s = O := ⟨_, rfl⟩
  rw [hP] at e1 e2 e3 e4 e5 hpl
  rw [hC] at e1 e4 hca
  rw [hO] at e2 e5 hca
  clear hp ho hcp h8 hm1 hm2 hP hC hO
  go_enter Tryd.func10, Tryd.ntmps10
  go_wp2_with fail
  refine (geo_Caps.calls d r s C O _ hca).mono ?_
  rintro e W1 ⟨rfl, hb⟩
  have hB1 := hB.trans (hb.mono hB.size)
  have hR1 := hR0.below hb
  replace p0 := pw_cell_below hb p0; replace p1 := pw_cell_below hb p1; replace p2 := pw_cell_below hb p2; replace q0 := pw_cell_below hb q0
  clear hb
  go_wp2_with fail
  refine (geo_Places.calls d r s P _ hpl).mono ?_
  rintro e W2 ⟨rfl, hb⟩
  have hB2 := hB1.trans (hb.mono hB1.size)
  have hR2 := hR1.below hb
  replace p0 := pw_cell_below hb p0; replace p1 := pw_cell_below hb p1; replace p2 := pw_cell_below hb p2; replace q0 := pw_cell_below hb q0
  clear hb
  go_wp2_with fail
  refine (treeRight_calls p _ hR2).mono ?_
  rintro e W3 ⟨rfl, hb⟩
  have hB3 := hB2.trans (hb.mono hB2.size)
  have hR3 := hR2.below hb
  replace q0 := pw_cell_below hb q0
  clear hb
  go_wp2_with fail
  refine (data0_calls p _ hR3).mono ?_
  rintro e W4 ⟨rfl, hb⟩
  have hB4 := hB3.trans (hb.mono hB3.size)
  have hR4 := hR3.below hb
  replace q0 := pw_cell_below hb q0
  clear hb
  go_wp2_with fail
  refine (more0_calls p _ hR4).mono ?_
  rintro e W5 ⟨rfl, hb⟩
  have hB5 := hB4.trans (hb.mono hB4.size)
  clear hb
  go_wp2
  go_ret
  exact ⟨rfl, hB5⟩
set_option maxRecDepth 100000 in
set_option maxHeartbeats 4000000 in
theorem fits_no (d r s : Int) (hg : ¬ GR d r s) (p : Nat) (w : World) (hR : Root p w) : Calls Tryd.prog 10 #[.agg #[.int .i64 d, .int .i64 r, .int .i64 s], treeV p] w fun e w' => e = .returned (.bool false) ∧ Below w.heap.size w w' := by
  obtain ⟨W0, hW0, hB, hR0, p0, p1, p2, q0⟩ := fits_boxes d r s p hR
  have hca := Caps_neg hg
  have hpl := Places_neg hg
  go_enter Tryd.func10, Tryd.ntmps10
  go_wp2_with fail
  refine (geo_Caps.calls d r s 0 0 _ hca).mono ?_
  rintro e W1 ⟨rfl, hb⟩
  have hB1 := hB.trans (hb.mono hB.size)
  replace p0 := pw_cell_below hb p0; replace p1 := pw_cell_below hb p1; replace p2 := pw_cell_below hb p2; replace q0 := pw_cell_below hb q0
  clear hb
  go_wp2_with fail
  refine (geo_Places.calls d r s 0 _ hpl).mono ?_
  rintro e W2 ⟨rfl, hb⟩
  have hB2 := hB1.trans (hb.mono hB1.size)
  clear hb
  go_wp2
  go_ret
  exact ⟨rfl, hB2⟩
end Go.Proofs.YtfkkhobbmcepmaaDoor.Given
