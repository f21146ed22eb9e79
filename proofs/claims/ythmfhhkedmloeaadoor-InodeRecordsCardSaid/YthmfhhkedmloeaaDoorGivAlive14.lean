/- The contract of morainelaw14.alive: a closed call that answers true. -/
import Derived.Test.YthmfhhkedmloeaaDoorGivInodePut
namespace Go.Proofs.YthmfhhkedmloeaaDoor.Given
open Go.RowKit Go.Proofs.YthmfhhkedmloeaaDoorW.PrintWords Go.Proofs.YthmfhhkedmloeaaDoorW.PrintLast Go.Proofs.YthmfhhkedmloeaaDoorW.PrintMore
set_option linter.unusedVariables false
set_option linter.unusedSimpArgs false

theorem path72 (w : World) : Calls Tryd.prog 16 #[.int .i64 72] w fun e w' => e = .returned (.tuple #[.int .i64 2, .int .i64 1, .int .i64 0, .bool true]) ∧ Below w.heap.size w w' := by
  go_enter Tryd.func16, Tryd.ntmps16
  go_wp2
  repeat (go_quiet (fail); try go_wp2)
  refine bodyPost_ret (v := .tuple #[.int .i64 2, .int .i64 1, .int .i64 0, .bool true]) (by simp [results, Tryd.results16, go_sem]) rfl ⟨rfl, ?_⟩
  first | exact Below.refl _ _ | exact pw_below_drewN (Below.refl _ _) _
def aliveRec : List Int := [1, 1, 57, 258, 0, 0, 0, 0, 0, 0, 0, 0, 0, 0, 0, 0, 0, 0, 0, 0, 0]
theorem aliveRec_ok : okRec aliveRec = true := by decide
theorem alivePut : ∃ P, inode_Put.f aliveRec = (P, true) ∧ P.length = 56 ∧ P.getD 7 0 = 2 ∧ P.getD 8 0 = 1 := ⟨_, rfl, by decide, by decide, by decide⟩
theorem put_alive (P : List Int) (HP : inode_Put.f aliveRec = (P, true)) (w : World) : Calls Tryd.prog 8 #[.agg #[.int .i64 1, .int .i64 1, .int .i64 57, .int .i64 258, .int .i64 0, .int .i64 0, .int .i64 0, .int .i64 0, .int .i64 0, .int .i64 0, .int .i64 0, .int .i64 0, .int .i64 0, .int .i64 0, .int .i64 0, .int .i64 0, .int .i64 0, .int .i64 0, .int .i64 0, .int .i64 0, .int .i64 0]] w fun e w' => ∃ v0 : Value, e = .returned (.tuple #[v0, .bool true]) ∧ RU w' w.heap.size v0 P ∧ Below w.heap.size w w' := by
  have h := inode_Put.calls aliveRec rfl w
  rw [HP] at h
  exact h
def morainelaw14_alive.f : Option Bool := some true
set_option maxHeartbeats 1000000 in
theorem morainelaw14_alive.calls (r : Bool) (w : World) (h : morainelaw14_alive.f = some r) :
    Calls Tryd.prog 6 #[] w fun e w' => e = .returned (.bool r) ∧ Below w.heap.size w w' := by
  cases h
  obtain ⟨P, h0, h1, h2, h3⟩ := alivePut
  have HP := Lib.hid h0
  have HL := Lib.hid h1
  have H7 := Lib.hid h2
  have H8 := Lib.hid h3
  clear h0 h1 h2 h3
  have blk57 : blk 57 = 2 := by decide
  have HB57 := Lib.hid blk57
  clear blk57
  go_enter Tryd.func6, Tryd.ntmps6
  go_wp2_with fail
  refine (path72 _).mono ?_
  rintro e w1 ⟨rfl, hB⟩
  have HB := Lib.hid hB
  clear hB
  go_wp2_with fail
  refine (put_alive P HP.out _).mono ?_
  rintro e w2 ⟨v0, rfl, hR, hB⟩
  obtain ⟨g, c, rfl, _, _, hc⟩ := hR.at_ (by rw [HL.out]; decide)
  have hc7 := (hc 7 (by rw [HL.out]; decide)).1
  have hc8 := (hc 8 (by rw [HL.out]; decide)).1
  rw [H7.out] at hc7
  rw [H8.out] at hc8
  rw [HL.out]
  have HB2 := Lib.hid (below_then HB.out HB.out.size hB)
  clear hB hc hR HB
  go_wp2_with (go_at_call 17; refine (blocks_calls _ _ (by decide) (by decide)).mono ?_; rintro e w1 ⟨rfl, rfl⟩; rw [HB57.out])
  go_ret
  exact ⟨rfl, HB2.out⟩
end Go.Proofs.YthmfhhkedmloeaaDoor.Given
