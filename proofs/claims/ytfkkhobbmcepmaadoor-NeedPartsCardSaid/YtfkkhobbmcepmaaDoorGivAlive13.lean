/- morainelaw13.alive: by hand. -/
import Derived.Test.YtfkkhobbmcepmaaDoorGivFits13
namespace Go.Proofs.YtfkkhobbmcepmaaDoor.Given
open Go.RowKit Go.Shelf Go.Maps Go.Proofs.YtfkkhobbmcepmaaDoorW.PrintWords Go.Proofs.YtfkkhobbmcepmaaDoorW.PrintLast Go.Proofs.YtfkkhobbmcepmaaDoorW.PrintMore Go.Proofs.YtfkkhobbmcepmaaDoor.Base Go.Proofs.YtfkkhobbmcepmaaDoor.Pure
set_option linter.unusedVariables false
set_option linter.unusedSimpArgs false
theorem lit_CI (xs : List Int) (w : World) (cs : Array Value) (n : Nat) (hcs : (encs (Value.int .i64) xs).toArray = cs) (hl : xs.length = n) (hn : n ≤ 9223372036854775807) (N : Nat) (hN : w.heap.size = N) : Kd.C (Kd.int .i64) (w.alloc (.cells cs 3)) (some ⟨N, 0, none⟩) n xs := by
  subst hcs; subst hl; subst hN
  refine Kd.C_of_reads (d := (0 : Int)) (h1 := fun _ => rfl) ⟨rfl, hn, fun _ => ⟨_, rfl, fun j hj => ?_⟩⟩
  rw [addr_add, Nat.zero_add]
  refine (blk_cell (blk_new w _) j).trans ?_
  rw [List.getElem?_toArray]
  exact encs_get (d := (0 : Int)) xs j hj
theorem blk_CB {w : World} {g : Nat} {xs : List Int} {cs : Array Value} (h : w.heap[g]? = some (.cells cs 5 (0, 0))) (hcs : (encs (Value.int .u8) xs).toArray = cs) (hn : xs.length ≤ 9223372036854775807) : Kd.C (Kd.int .u8) w (some ⟨g, 0, none⟩) xs.length xs := by
  subst hcs
  refine Kd.C_of_reads (d := (0 : Int)) (h1 := fun _ => rfl) ⟨rfl, hn, fun _ => ⟨_, rfl, fun j hj => ?_⟩⟩
  rw [addr_add, Nat.zero_add]
  refine (blk_cell h j).trans ?_
  rw [List.getElem?_toArray]
  exact encs_get (d := (0 : Int)) xs j hj
theorem mk100 (W : World) : (Instr.makeSlice 22 (.int .i64 100) (.int .i64 100)).run Tryd.prog W = .ok (.slice (some ⟨W.heap.size, 0, none⟩) 100 100) (W.alloc (.cells (Array.replicate 100 (.int .u8 0)) 5)) := by kernel_rfl
def bl100 : List Int := List.replicate 99 0 ++ [1]
theorem enc100 : (encs (Value.int .u8) bl100).toArray = (Array.replicate 100 (.int .u8 0)).setIfInBounds 99 (.int .u8 1) := by kernel_rfl
theorem th100 : th bl100 (List.range (chN bl100.length)) = [1] := by kernel_rfl
theorem same1 : moraineref00_SameInts.f 2 [1] [1] = some true := by kernel_rfl
theorem pset5 : (pset [15, 16, 43, 44, 72]).length = 4 := by kernel_rfl
theorem gr3 : GR 3 3 12 := ⟨⟨by omega, by omega, by omega, by omega, by omega, by omega⟩, by decide⟩
set_option maxRecDepth 100000 in
set_option maxHeartbeats 4000000 in
theorem alive_calls (w : World) : Calls Tryd.prog 6 #[] w fun e w' => e = .returned (.bool true) ∧ Below w.heap.size w w' := by
  have hmk := mk100
  have h0 := blk_new w (.cells ((Array.replicate 100 (.int .u8 0)).setIfInBounds 99 (.int .u8 1)) 5)
  have hC0 := blk_CB h0 (xs := bl100) enc100 (by decide)
  have hB0 : Below w.heap.size w (w.alloc (.cells ((Array.replicate 100 (.int .u8 0)).setIfInBounds 99 (.int .u8 1)) 5)) := (Below.refl _ w).alloc (Nat.le_refl _) _
  have KC0 := Lib.hid hC0
  have KB0 := Lib.hid hB0
  clear h0 hC0 hB0
  go_enter Tryd.func6, Tryd.ntmps6
  go_wp2_with fail
  refine (new_calls _).mono ?_
  rintro e W1 ⟨p, rfl, hR, hb⟩
  have KC1 := Lib.hid (Kd.C_below KC0.out hb)
  have KB1 := Lib.hid (KB0.out.trans (hb.mono KB0.out.size))
  have hb2 : Below W1.heap.size W1 (W1.alloc (.cells #[.slice (some ⟨p, 0, none⟩) 1 1] 34)) := (Below.refl _ W1).alloc (Nat.le_refl _) _
  have KT2 := Lib.hid (Boxed.new W1 34 (.slice (some ⟨p, 0, none⟩) 1 1))
  have KC2 := Lib.hid (Kd.C_below KC1.out hb2)
  have KB2 := Lib.hid (KB1.out.trans (hb2.mono KB1.out.size))
  have KR2 := Lib.hid (hR.below hb2)
  clear hmk hb hb2 hR KC0 KB0 KC1 KB1
  go_wp2_with fail
  refine (there_calls (some ⟨w.heap.size, 0, none⟩) 100 bl100 _ (by decide) (by decide) KC2.out).mono ?_
  rintro e W3 ⟨v, rfl, hrow, hb⟩
  obtain ⟨A, c, rfl, hc, hC⟩ := int_slice hrow
  rw [th100] at hC hc ⊢
  have KT3 : Hid (Boxed W3 W1.heap.size 34 (.slice (some ⟨p, 0, none⟩) 1 1)) := blk_below KT2.out hb
  have KB3 := Lib.hid (KB2.out.trans (hb.mono KB2.out.size))
  have KR3 := Lib.hid (KR2.out.below hb)
  have KC3 := Lib.hid hC
  have KT3b := Lib.hid (KT3.out.alloc (.cells #[.int .i64 1] 3))
  clear hrow hb hC KC2 KT2 KB2 KR2
  go_wp2_with fail
  refine (moraineref00_SameInts.calls 2 A c [1] (some ⟨W3.heap.size, 0, none⟩) 1 [1] true _ (Kd.C_below KC3.out ((Below.refl _ W3).alloc (Nat.le_refl _) _)) hc (lit_CI [1] W3 _ 1 (by simp [encs]) rfl (by decide) _ rfl) (by decide) same1).mono ?_
  rintro e W4 ⟨rfl, ⟨nd, rfl⟩⟩
  have hb4 : Below W3.heap.size W3 ((W3.alloc (.cells #[.int .i64 1] 3)).drewN nd) := pw_below_drewN ((Below.refl _ W3).alloc (Nat.le_refl _) _) nd
  have KT4 : Hid (Boxed ((W3.alloc (.cells #[.int .i64 1] 3)).drewN nd) W1.heap.size 34 (.slice (some ⟨p, 0, none⟩) 1 1)) := blk_below KT3.out hb4
  have KB4 := Lib.hid (KB3.out.trans (hb4.mono KB3.out.size))
  have KR4 := Lib.hid (KR3.out.below hb4)
  obtain ⟨W4, hW4⟩ : ∃ W4, (W3.alloc (.cells #[.int .i64 1] 3)).drewN nd = W4 := ⟨_, rfl⟩
  rw [hW4] at KT4 KB4 KR4 ⊢
  have hb5 : Below W4.heap.size W4 (W4.alloc (.cells #[.int .i64 15, .int .i64 16, .int .i64 43, .int .i64 44, .int .i64 72] 3)) := (Below.refl _ W4).alloc (Nat.le_refl _) _
  have KT5 : Hid (Boxed (W4.alloc (.cells #[.int .i64 15, .int .i64 16, .int .i64 43, .int .i64 44, .int .i64 72] 3)) W1.heap.size 34 (.slice (some ⟨p, 0, none⟩) 1 1)) := blk_below KT4.out hb5
  have KB5 := Lib.hid (KB4.out.trans (hb5.mono KB4.out.size))
  have KR5 := Lib.hid (KR4.out.below hb5)
  clear hb4 hW4 KT3 KB3 KR3 KC3 KT4 KB4 KR4 hb5 hc KT3b
  go_wp2_with fail
  refine (pointing_calls (some ⟨W4.heap.size, 0, none⟩) 5 [15, 16, 43, 44, 72] _ (lit_CI [15, 16, 43, 44, 72] W4 _ 5 (by simp [encs]) rfl (by decide) _ rfl) (by decide)).mono ?_
  rintro e W6 ⟨rfl, hb⟩
  rw [pset5]
  have KT6 : Hid (Boxed W6 W1.heap.size 34 (.slice (some ⟨p, 0, none⟩) 1 1)) := blk_below KT5.out hb
  have KB6 := Lib.hid (KB5.out.trans (hb.mono KB5.out.size))
  have KR6 := Lib.hid (KR5.out.below hb)
  have ct := KT6.out.cell
  clear hb KT5 KB5 KR5
  go_wp2_with fail
  refine (data0_calls p _ KR6.out).mono ?_
  rintro e W7 ⟨rfl, hb⟩
  have KT7 : Hid (Boxed W7 W1.heap.size 34 (.slice (some ⟨p, 0, none⟩) 1 1)) := blk_below KT6.out hb
  have KB7 := Lib.hid (KB6.out.trans (hb.mono KB6.out.size))
  have KR7 := Lib.hid (KR6.out.below hb)
  clear ct hb KT6 KB6 KR6
  have ct := KT7.out.cell
  go_wp2_with fail
  refine (more0_calls p _ KR7.out).mono ?_
  rintro e W8 ⟨rfl, hb⟩
  have KT8 : Hid (Boxed W8 W1.heap.size 34 (.slice (some ⟨p, 0, none⟩) 1 1)) := blk_below KT7.out hb
  have KB8 := Lib.hid (KB7.out.trans (hb.mono KB7.out.size))
  have KR8 := Lib.hid (KR7.out.below hb)
  clear ct hb KT7 KB7 KR7
  have ct := KT8.out.cell
  go_wp2_with fail
  refine (fits_yes 3 3 12 gr3 p _ KR8.out).mono ?_
  rintro e W9 ⟨rfl, hb⟩
  have KB9 := Lib.hid (KB8.out.trans (hb.mono KB8.out.size))
  clear ct hb
  go_wp2
  go_ret
  exact ⟨rfl, KB9.out⟩
end Go.Proofs.YtfkkhobbmcepmaaDoor.Given
