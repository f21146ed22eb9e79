/- The walk of NeedRoot: by hand. -/
import Derived.Test.YtfkkhobbmcepmaaDoorGivAlive13
namespace Go.Proofs.YtfkkhobbmcepmaaDoor.RootWalk
open Go.RowKit Go.Shelf Go.Maps Go.Proofs.YtfkkhobbmcepmaaDoorW.PrintWords Go.Proofs.YtfkkhobbmcepmaaDoorW.PrintLast Go.Proofs.YtfkkhobbmcepmaaDoorW.PrintMore Go.Proofs.YtfkkhobbmcepmaaDoor.Base Go.Proofs.YtfkkhobbmcepmaaDoor.Pure Go.Proofs.YtfkkhobbmcepmaaDoor.Given
set_option linter.unusedVariables false
set_option linter.unusedSimpArgs false
set_option maxRecDepth 100000 in
set_option maxHeartbeats 4000000 in
theorem walk (d r s : Int) (v : Bool) (hR : geo_Right.f d r s = some v) (hF : ∀ p w, Root p w → Calls Tryd.prog 10 #[.agg #[.int .i64 d, .int .i64 r, .int .i64 s], treeV p] w fun e w' => e = .returned (.bool v) ∧ Below w.heap.size w w') (w : World) :
    Calls Tryd.prog 4 #[.agg #[.int .i64 d, .int .i64 r, .int .i64 s]] w fun e w' => e = .returned (.bool true) ∧ Below w.heap.size w w' := by
  have hb0 : Below w.heap.size w (w.alloc (.cells #[.int .i64 d, .int .i64 r, .int .i64 s] 30)) := (Below.refl _ w).alloc (Nat.le_refl _) _
  have hx := blk_new w (.cells #[.int .i64 d, .int .i64 r, .int .i64 s] 30)
  have p0 : (w.alloc (.cells #[.int .i64 d, .int .i64 r, .int .i64 s] 30)).cell? ⟨w.heap.size, 0, none⟩ = some (.int .i64 d) := (blk_cell hx 0).trans rfl
  have p1 : (w.alloc (.cells #[.int .i64 d, .int .i64 r, .int .i64 s] 30)).cell? ⟨w.heap.size, 1, none⟩ = some (.int .i64 r) := (blk_cell hx 1).trans rfl
  have p2 : (w.alloc (.cells #[.int .i64 d, .int .i64 r, .int .i64 s] 30)).cell? ⟨w.heap.size, 2, none⟩ = some (.int .i64 s) := (blk_cell hx 2).trans rfl
  have HF := Lib.hid hF
  have HR := Lib.hid hR
  have hvv : (v == v) = true := by simp
  clear hx hF hR
  go_enter Tryd.func4, Tryd.ntmps4
  go_wp2_with fail
  refine (alive_calls _).mono ?_
  rintro e w1 ⟨rfl, hb⟩
  have hB1 := hb0.trans (hb.mono hb0.size)
  replace p0 := pw_cell_below hb p0; replace p1 := pw_cell_below hb p1; replace p2 := pw_cell_below hb p2
  clear hb hb0
  go_wp2_with fail
  go_region_held3 (fun w' => Below w.heap.size w w' ∧ w'.cell? ⟨w.heap.size, 0, none⟩ = some (.int .i64 d) ∧ w'.cell? ⟨w.heap.size, 1, none⟩ = some (.int .i64 r) ∧ w'.cell? ⟨w.heap.size, 2, none⟩ = some (.int .i64 s)) ((repeat' apply And.intro) <;> first | assumption | exact below_drew hB1 | (simp only [World.cell?_drew]; assumption))
    (first | (go_at_call 11; obtain ⟨Z0, Z1, Z2, Z3⟩ := ‹Below w.heap.size w _ ∧ _›; refine (new_calls _).mono ?_; rintro e w' ⟨p, rfl, hRp, hb⟩; have Y0 := Z0.trans (hb.mono Z0.size); have Y1 := pw_cell_below hb Z1; have Y2 := pw_cell_below hb Z2; have Y3 := pw_cell_below hb Z3) | (go_at_call 12; obtain ⟨Z0, Z1, Z2, Z3⟩ := ‹Below w.heap.size w _ ∧ _›; refine (geo_Right.calls d r s v _ HR.out).mono ?_; rintro e w' ⟨rfl, hb⟩; have Y0 := Z0.trans (hb.mono Z0.size); have Y1 := pw_cell_below hb Z1; have Y2 := pw_cell_below hb Z2; have Y3 := pw_cell_below hb Z3; try (have hRp2 := Root.below (by assumption) hb)) | (go_at_call 10; obtain ⟨Z0, Z1, Z2, Z3⟩ := ‹Below w.heap.size w _ ∧ _›; refine (HF.out _ _ (by assumption)).mono ?_; rintro e w' ⟨rfl, hb⟩; have Y0 := Z0.trans (hb.mono Z0.size); have Y1 := pw_cell_below hb Z1; have Y2 := pw_cell_below hb Z2; have Y3 := pw_cell_below hb Z3))
  all_goals
    have HBF := (‹Below w.heap.size w _ ∧ _›).1
    go_wp2
    go_ret
    exact ⟨rfl, HBF⟩
end Go.Proofs.YtfkkhobbmcepmaaDoor.RootWalk
namespace Go.Proofs.YtfkkhobbmcepmaaDoor.PNeedRoot
open Go.RowKit Go.Proofs.YtfkkhobbmcepmaaDoor.Given
set_option linter.unusedVariables false
def morainelaw13_NeedRoot.f (d r s : Int) : Option Bool := some true
theorem morainelaw13_NeedRoot.calls (d r s : Int) (b : Bool) (w : World) (h : morainelaw13_NeedRoot.f d r s = some b) :
    Calls Tryd.prog 4 #[.agg #[.int .i64 d, .int .i64 r, .int .i64 s]] w fun e w' => e = .returned (.bool b) ∧ Below w.heap.size w w' := by
  cases h
  by_cases hg : Pure.GR d r s
  · exact RootWalk.walk d r s true (Pure.Right_pos hg) (fits_yes d r s hg) w
  · exact RootWalk.walk d r s false (Pure.Right_neg hg) (fits_no d r s hg) w
end Go.Proofs.YtfkkhobbmcepmaaDoor.PNeedRoot
namespace Go.Proofs.YtfkkhobbmcepmaaDoor.Pure
theorem NeedRoot (d r s : Int) (_ : (Lit.int .i64 d).wf = true) (_ : (Lit.int .i64 r).wf = true) (_ : (Lit.int .i64 s).wf = true) : PNeedRoot.morainelaw13_NeedRoot.f d r s = some true := rfl
end Go.Proofs.YtfkkhobbmcepmaaDoor.Pure
