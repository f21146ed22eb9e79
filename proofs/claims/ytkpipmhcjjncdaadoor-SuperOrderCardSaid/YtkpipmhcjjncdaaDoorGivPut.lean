/- The contracts of bits.Put and bits.Get, in the printed contracts' form: by hand. -/
import Derived.Test.YtkpipmhcjjncdaaDoorProg
import Derived.Test.YtkpipmhcjjncdaaDoorWWords
import Derived.Test.YtkpipmhcjjncdaaDoorWLast
import Derived.Test.YtkpipmhcjjncdaaDoorWMore
import Derived.WalkKit
import Derived.OwnWalk
import Derived.LoopTactic
import Derived.Outline
import Derived.KernelRfl
import Derived.Laws.BitsLemmas
namespace Go.Proofs.YtkpipmhcjjncdaaDoor.Given
open Go.RowKit Go.Proofs.YtkpipmhcjjncdaaDoorW.PrintWords Go.Proofs.YtkpipmhcjjncdaaDoorW.PrintLast Go.Proofs.YtkpipmhcjjncdaaDoorW.PrintMore
set_option linter.unusedVariables false
set_option linter.unusedSimpArgs false

theorem put_low (w n : Int) (wd : World) (h : w < 1 ∨ 4 < w ∨ n < 0) :
    Calls Tryd.prog 45 #[.int .i64 w, .int .i64 n] wd fun e w' => e = .returned (.slice none 0 0) ∧ wd = w' := by
  by_cases h1 : w < 1
  · clear h
    go_enter Tryd.func45, Tryd.ntmps45
    go_wp2
    go_ret
    exact ⟨rfl, rfl⟩
  · by_cases h2 : 4 < w
    · clear h
      go_enter Tryd.func45, Tryd.ntmps45
      go_wp2
      go_ret
      exact ⟨rfl, rfl⟩
    · have h3 : n < 0 := by omega
      clear h
      go_enter Tryd.func45, Tryd.ntmps45
      go_wp2
      go_ret
      exact ⟨rfl, rfl⟩

theorem put_high1 (n : Int) (wd : World) (h : 256 ≤ n) (hn : n ≤ 9223372036854775807) :
    Calls Tryd.prog 45 #[.int .i64 1, .int .i64 n] wd fun e w' => e = .returned (.slice none 0 0) ∧ wd = w' := by
  go_enter Tryd.func45, Tryd.ntmps45
  go_wp2
  go_ret
  exact ⟨rfl, rfl⟩
theorem put_high2 (n : Int) (wd : World) (h : 65536 ≤ n) (hn : n ≤ 9223372036854775807) :
    Calls Tryd.prog 45 #[.int .i64 2, .int .i64 n] wd fun e w' => e = .returned (.slice none 0 0) ∧ wd = w' := by
  go_enter Tryd.func45, Tryd.ntmps45
  go_wp2
  go_ret
  exact ⟨rfl, rfl⟩
theorem put_high3 (n : Int) (wd : World) (h : 16777216 ≤ n) (hn : n ≤ 9223372036854775807) :
    Calls Tryd.prog 45 #[.int .i64 3, .int .i64 n] wd fun e w' => e = .returned (.slice none 0 0) ∧ wd = w' := by
  go_enter Tryd.func45, Tryd.ntmps45
  go_wp2
  go_ret
  exact ⟨rfl, rfl⟩
theorem put_high4 (n : Int) (wd : World) (h : 4294967296 ≤ n) (hn : n ≤ 9223372036854775807) :
    Calls Tryd.prog 45 #[.int .i64 4, .int .i64 n] wd fun e w' => e = .returned (.slice none 0 0) ∧ wd = w' := by
  go_enter Tryd.func45, Tryd.ntmps45
  go_wp2
  go_ret
  exact ⟨rfl, rfl⟩

/-- The row behind k rounds. -/
def putAt (n : Int) (W k : Nat) : List Int := (List.range W).map fun i => if i < k then shr .i64 n ((8 * i : Nat) : Int) % 256 else 0
theorem putAt_length (n : Int) (W k : Nat) : (putAt n W k).length = W := by simp [putAt]
theorem putAt_zero (n : Int) (W : Nat) : putAt n W 0 = List.replicate W 0 := by
  unfold putAt
  apply List.ext_getElem
  · simp
  · intro i h1 h2; simp
theorem putAt_succ (n : Int) (W k : Nat) : (putAt n W k).set k (shr .i64 n ((8 * k : Nat) : Int) % 256) = putAt n W (k + 1) := by
  unfold putAt
  apply List.ext_getElem
  · simp
  · intro i h1 h2
    simp only [List.getElem_set, List.getElem_map, List.getElem_range]
    by_cases e : k = i
    · subst e; simp
    · rw [if_neg e]
      by_cases hk : i < k
      · rw [if_pos hk, if_pos (by omega)]
      · rw [if_neg hk, if_neg (by omega)]
theorem encs_rep (n : Nat) : encs (Value.int .u8) (List.replicate n 0) = (madeCells (Value.int .u8 0).cells (n * 1)).toList := by
  show _ = (madeCells #[Value.int .u8 0] (n * 1)).toList
  rw [toList_madeCells_one, Nat.mul_one]; simp [encs]
theorem set_row {W : World} {base g N cap k : Nat} {n : Int} (h : W.ownsRow base 5 1 (.slice (some ⟨g, 0, none⟩) N cap) N (encs (Value.int .u8) (putAt n N k))) (x : Int) (hx : x = shr .i64 n ((8 * k : Nat) : Int) % 256) :
    (W.setCell ⟨g, k, none⟩ (.int .u8 x)).ownsRow base 5 1 (.slice (some ⟨g, 0, none⟩) N cap) N (encs (Value.int .u8) (putAt n N (k + 1))) := by
  have hst := own_store_of h (k : Int) x
  rw [hx, show ((k : Int)).toNat = k from Int.toNat_natCast k, putAt_succ, ← hx] at hst
  exact hst.1
theorem sh0 (n : Int) : shr .i64 n ((8 * 0 : Nat) : Int) = n := by simp [shr]
theorem sh1 (n : Int) : shr .i64 n ((8 * 1 : Nat) : Int) = n / 256 := rfl
theorem sh2 (n : Int) : shr .i64 n ((8 * 2 : Nat) : Int) = n / 65536 := rfl
theorem sh3 (n : Int) : shr .i64 n ((8 * 3 : Nat) : Int) = n / 16777216 := rfl
theorem infoU8 : (Tryd.prog.info? 5).map (fun i => (i.zero, i.size, i.bytes)) = some (some (.int .u8 0), 1, 1) := by kernel_rfl

set_option maxHeartbeats 1000000 in
theorem put_pos1 (n : Int) (wd : World) (h0 : 0 ≤ n) (h1 : n < 256) :
    Calls Tryd.prog 45 #[.int .i64 1, .int .i64 n] wd fun e w' => ∃ v0_ : Value, e = .returned v0_ ∧ w'.ownsRow wd.heap.size 5 1 v0_ 1 (encs (Value.int .u8) (putAt n 1 1)) ∧ Below wd.heap.size wd w' := by
  obtain ⟨i0, hi, hz0, hz1, hz2⟩ := info_parts infoU8
  have HI : Hid (Tryd.prog.info? 5 = some i0) := hi
  have HZ0 : Hid (i0.zero = some (.int .u8 0)) := hz0
  have HZ1 : Hid (i0.size = 1) := hz1
  have HZ2 : Hid (i0.bytes = 1) := hz2
  clear hi hz0 hz1 hz2
  go_enter Tryd.func45, Tryd.ntmps45
  go_wp2_with (at_make; refine wpList_make_full _ rfl _ _ 27 rfl wd.heap.size 5 i0 (.int .u8 0) 1 Tryd.underlying27 HI.out HZ0.out HZ1.out .i64 .i64 1 1 1 rfl rfl rfl rfl (by rw [HZ2.out]; omega) (by decide) (Nat.le_refl _) ?_; intro w1 hown hgrow)
  have hrow : w1.ownsRow wd.heap.size 5 1 (.slice (some ⟨wd.heap.size, 0, none⟩) 1 1) 1 (encs (Value.int .u8) (putAt n 1 0)) := by
    rw [putAt_zero, encs_rep]; exact hown
  have hbel : Below wd.heap.size wd w1 := (Below.refl _ _).grown hgrow (Nat.le_refl _) (fun k hk => by cases hk)
  have HROW : Hid _ := hrow
  have HBEL : Hid _ := hbel
  clear hown hgrow hrow hbel
  go_loopw [28] (fun i wr => ∃ k : Nat, k ≤ 1 ∧ i = .int .i64 k ∧ Hid (wr.ownsRow wd.heap.size 5 1 (.slice (some ⟨wd.heap.size, 0, none⟩) 1 1) 1 (encs (Value.int .u8) (putAt n 1 k))) ∧ Hid (Below wd.heap.size wd wr)) (fun i _ => 1 - (intOf i).toNat)
  case atStart => exact ⟨0, Nat.zero_le _, rfl, HROW, HBEL⟩
  case round =>
    obtain ⟨k, hk, rfl, hrow, hbel⟩ := hrel
    clear HROW HBEL
    rcases (by omega : k = 0 ∨ k = 1) with rfl | rfl
    · have ho2 := own_at_of (d := (0 : Int)) hrow.out (0 : Int) (by omega) (by omega)
      obtain ⟨hcx, hfx⟩ := ho2
      have hcx' : wr.cell? ⟨wd.heap.size, 0, none⟩ = some (.int .u8 0) := hcx
      have hfx' : wr.frozen? ⟨wd.heap.size, 0, none⟩ = false := hfx
      clear hcx hfx
      go_wp2
      go_roundw
      case rel =>
        exact ⟨0 + 1, by omega, by go_num, set_row hrow.out _ (by have e := sh0 n; omega), hbel.out.setCell (p := ⟨wd.heap.size, 0, none⟩) (Nat.le_refl _) _⟩
      case measure => simp [intOf]
    · go_wp2
      go_ret
      exact ⟨_, rfl, hrow.out, hbel.out⟩

set_option maxHeartbeats 1000000 in
theorem put_pos2 (n : Int) (wd : World) (h0 : 0 ≤ n) (h1 : n < 65536) :
    Calls Tryd.prog 45 #[.int .i64 2, .int .i64 n] wd fun e w' => ∃ v0_ : Value, e = .returned v0_ ∧ w'.ownsRow wd.heap.size 5 1 v0_ 2 (encs (Value.int .u8) (putAt n 2 2)) ∧ Below wd.heap.size wd w' := by
  obtain ⟨i0, hi, hz0, hz1, hz2⟩ := info_parts infoU8
  have HI : Hid (Tryd.prog.info? 5 = some i0) := hi
  have HZ0 : Hid (i0.zero = some (.int .u8 0)) := hz0
  have HZ1 : Hid (i0.size = 1) := hz1
  have HZ2 : Hid (i0.bytes = 1) := hz2
  clear hi hz0 hz1 hz2
  go_enter Tryd.func45, Tryd.ntmps45
  go_wp2_with (at_make; refine wpList_make_full _ rfl _ _ 27 rfl wd.heap.size 5 i0 (.int .u8 0) 1 Tryd.underlying27 HI.out HZ0.out HZ1.out .i64 .i64 2 2 2 rfl rfl rfl rfl (by rw [HZ2.out]; omega) (by decide) (Nat.le_refl _) ?_; intro w1 hown hgrow)
  have hrow : w1.ownsRow wd.heap.size 5 1 (.slice (some ⟨wd.heap.size, 0, none⟩) 2 2) 2 (encs (Value.int .u8) (putAt n 2 0)) := by
    rw [putAt_zero, encs_rep]; exact hown
  have hbel : Below wd.heap.size wd w1 := (Below.refl _ _).grown hgrow (Nat.le_refl _) (fun k hk => by cases hk)
  have HROW : Hid _ := hrow
  have HBEL : Hid _ := hbel
  clear hown hgrow hrow hbel
  go_loopw [28] (fun i wr => ∃ k : Nat, k ≤ 2 ∧ i = .int .i64 k ∧ Hid (wr.ownsRow wd.heap.size 5 1 (.slice (some ⟨wd.heap.size, 0, none⟩) 2 2) 2 (encs (Value.int .u8) (putAt n 2 k))) ∧ Hid (Below wd.heap.size wd wr)) (fun i _ => 2 - (intOf i).toNat)
  case atStart => exact ⟨0, Nat.zero_le _, rfl, HROW, HBEL⟩
  case round =>
    obtain ⟨k, hk, rfl, hrow, hbel⟩ := hrel
    clear HROW HBEL
    rcases (by omega : k = 0 ∨ k = 1 ∨ k = 2) with rfl | rfl | rfl
    · have ho2 := own_at_of (d := (0 : Int)) hrow.out (0 : Int) (by omega) (by omega)
      obtain ⟨hcx, hfx⟩ := ho2
      have hcx' : wr.cell? ⟨wd.heap.size, 0, none⟩ = some (.int .u8 0) := hcx
      have hfx' : wr.frozen? ⟨wd.heap.size, 0, none⟩ = false := hfx
      clear hcx hfx
      go_wp2
      go_roundw
      case rel =>
        exact ⟨0 + 1, by omega, by go_num, set_row hrow.out _ (by have e := sh0 n; omega), hbel.out.setCell (p := ⟨wd.heap.size, 0, none⟩) (Nat.le_refl _) _⟩
      case measure => simp [intOf]
    · have ho2 := own_at_of (d := (0 : Int)) hrow.out (1 : Int) (by omega) (by omega)
      obtain ⟨hcx, hfx⟩ := ho2
      have hcx' : wr.cell? ⟨wd.heap.size, 1, none⟩ = some (.int .u8 0) := hcx
      have hfx' : wr.frozen? ⟨wd.heap.size, 1, none⟩ = false := hfx
      clear hcx hfx
      go_wp2
      go_roundw
      case rel =>
        exact ⟨1 + 1, by omega, by go_num, set_row hrow.out _ (by have e := sh1 n; omega), hbel.out.setCell (p := ⟨wd.heap.size, 1, none⟩) (Nat.le_refl _) _⟩
      case measure => simp [intOf]
    · go_wp2
      go_ret
      exact ⟨_, rfl, hrow.out, hbel.out⟩

set_option maxHeartbeats 1000000 in
theorem put_pos3 (n : Int) (wd : World) (h0 : 0 ≤ n) (h1 : n < 16777216) :
    Calls Tryd.prog 45 #[.int .i64 3, .int .i64 n] wd fun e w' => ∃ v0_ : Value, e = .returned v0_ ∧ w'.ownsRow wd.heap.size 5 1 v0_ 3 (encs (Value.int .u8) (putAt n 3 3)) ∧ Below wd.heap.size wd w' := by
  obtain ⟨i0, hi, hz0, hz1, hz2⟩ := info_parts infoU8
  have HI : Hid (Tryd.prog.info? 5 = some i0) := hi
  have HZ0 : Hid (i0.zero = some (.int .u8 0)) := hz0
  have HZ1 : Hid (i0.size = 1) := hz1
  have HZ2 : Hid (i0.bytes = 1) := hz2
  clear hi hz0 hz1 hz2
  go_enter Tryd.func45, Tryd.ntmps45
  go_wp2_with (at_make; refine wpList_make_full _ rfl _ _ 27 rfl wd.heap.size 5 i0 (.int .u8 0) 1 Tryd.underlying27 HI.out HZ0.out HZ1.out .i64 .i64 3 3 3 rfl rfl rfl rfl (by rw [HZ2.out]; omega) (by decide) (Nat.le_refl _) ?_; intro w1 hown hgrow)
  have hrow : w1.ownsRow wd.heap.size 5 1 (.slice (some ⟨wd.heap.size, 0, none⟩) 3 3) 3 (encs (Value.int .u8) (putAt n 3 0)) := by
    rw [putAt_zero, encs_rep]; exact hown
  have hbel : Below wd.heap.size wd w1 := (Below.refl _ _).grown hgrow (Nat.le_refl _) (fun k hk => by cases hk)
  have HROW : Hid _ := hrow
  have HBEL : Hid _ := hbel
  clear hown hgrow hrow hbel
  go_loopw [28] (fun i wr => ∃ k : Nat, k ≤ 3 ∧ i = .int .i64 k ∧ Hid (wr.ownsRow wd.heap.size 5 1 (.slice (some ⟨wd.heap.size, 0, none⟩) 3 3) 3 (encs (Value.int .u8) (putAt n 3 k))) ∧ Hid (Below wd.heap.size wd wr)) (fun i _ => 3 - (intOf i).toNat)
  case atStart => exact ⟨0, Nat.zero_le _, rfl, HROW, HBEL⟩
  case round =>
    obtain ⟨k, hk, rfl, hrow, hbel⟩ := hrel
    clear HROW HBEL
    rcases (by omega : k = 0 ∨ k = 1 ∨ k = 2 ∨ k = 3) with rfl | rfl | rfl | rfl
    · have ho2 := own_at_of (d := (0 : Int)) hrow.out (0 : Int) (by omega) (by omega)
      obtain ⟨hcx, hfx⟩ := ho2
      have hcx' : wr.cell? ⟨wd.heap.size, 0, none⟩ = some (.int .u8 0) := hcx
      have hfx' : wr.frozen? ⟨wd.heap.size, 0, none⟩ = false := hfx
      clear hcx hfx
      go_wp2
      go_roundw
      case rel =>
        exact ⟨0 + 1, by omega, by go_num, set_row hrow.out _ (by have e := sh0 n; omega), hbel.out.setCell (p := ⟨wd.heap.size, 0, none⟩) (Nat.le_refl _) _⟩
      case measure => simp [intOf]
    · have ho2 := own_at_of (d := (0 : Int)) hrow.out (1 : Int) (by omega) (by omega)
      obtain ⟨hcx, hfx⟩ := ho2
      have hcx' : wr.cell? ⟨wd.heap.size, 1, none⟩ = some (.int .u8 0) := hcx
      have hfx' : wr.frozen? ⟨wd.heap.size, 1, none⟩ = false := hfx
      clear hcx hfx
      go_wp2
      go_roundw
      case rel =>
        exact ⟨1 + 1, by omega, by go_num, set_row hrow.out _ (by have e := sh1 n; omega), hbel.out.setCell (p := ⟨wd.heap.size, 1, none⟩) (Nat.le_refl _) _⟩
      case measure => simp [intOf]
    · have ho2 := own_at_of (d := (0 : Int)) hrow.out (2 : Int) (by omega) (by omega)
      obtain ⟨hcx, hfx⟩ := ho2
      have hcx' : wr.cell? ⟨wd.heap.size, 2, none⟩ = some (.int .u8 0) := hcx
      have hfx' : wr.frozen? ⟨wd.heap.size, 2, none⟩ = false := hfx
      clear hcx hfx
      go_wp2
      go_roundw
      case rel =>
        exact ⟨2 + 1, by omega, by go_num, set_row hrow.out _ (by have e := sh2 n; omega), hbel.out.setCell (p := ⟨wd.heap.size, 2, none⟩) (Nat.le_refl _) _⟩
      case measure => simp [intOf]
    · go_wp2
      go_ret
      exact ⟨_, rfl, hrow.out, hbel.out⟩

set_option maxHeartbeats 1000000 in
theorem put_pos4 (n : Int) (wd : World) (h0 : 0 ≤ n) (h1 : n < 4294967296) :
    Calls Tryd.prog 45 #[.int .i64 4, .int .i64 n] wd fun e w' => ∃ v0_ : Value, e = .returned v0_ ∧ w'.ownsRow wd.heap.size 5 1 v0_ 4 (encs (Value.int .u8) (putAt n 4 4)) ∧ Below wd.heap.size wd w' := by
  obtain ⟨i0, hi, hz0, hz1, hz2⟩ := info_parts infoU8
  have HI : Hid (Tryd.prog.info? 5 = some i0) := hi
  have HZ0 : Hid (i0.zero = some (.int .u8 0)) := hz0
  have HZ1 : Hid (i0.size = 1) := hz1
  have HZ2 : Hid (i0.bytes = 1) := hz2
  clear hi hz0 hz1 hz2
  go_enter Tryd.func45, Tryd.ntmps45
  go_wp2_with (at_make; refine wpList_make_full _ rfl _ _ 27 rfl wd.heap.size 5 i0 (.int .u8 0) 1 Tryd.underlying27 HI.out HZ0.out HZ1.out .i64 .i64 4 4 4 rfl rfl rfl rfl (by rw [HZ2.out]; omega) (by decide) (Nat.le_refl _) ?_; intro w1 hown hgrow)
  have hrow : w1.ownsRow wd.heap.size 5 1 (.slice (some ⟨wd.heap.size, 0, none⟩) 4 4) 4 (encs (Value.int .u8) (putAt n 4 0)) := by
    rw [putAt_zero, encs_rep]; exact hown
  have hbel : Below wd.heap.size wd w1 := (Below.refl _ _).grown hgrow (Nat.le_refl _) (fun k hk => by cases hk)
  have HROW : Hid _ := hrow
  have HBEL : Hid _ := hbel
  clear hown hgrow hrow hbel
  go_loopw [28] (fun i wr => ∃ k : Nat, k ≤ 4 ∧ i = .int .i64 k ∧ Hid (wr.ownsRow wd.heap.size 5 1 (.slice (some ⟨wd.heap.size, 0, none⟩) 4 4) 4 (encs (Value.int .u8) (putAt n 4 k))) ∧ Hid (Below wd.heap.size wd wr)) (fun i _ => 4 - (intOf i).toNat)
  case atStart => exact ⟨0, Nat.zero_le _, rfl, HROW, HBEL⟩
  case round =>
    obtain ⟨k, hk, rfl, hrow, hbel⟩ := hrel
    clear HROW HBEL
    rcases (by omega : k = 0 ∨ k = 1 ∨ k = 2 ∨ k = 3 ∨ k = 4) with rfl | rfl | rfl | rfl | rfl
    · have ho2 := own_at_of (d := (0 : Int)) hrow.out (0 : Int) (by omega) (by omega)
      obtain ⟨hcx, hfx⟩ := ho2
      have hcx' : wr.cell? ⟨wd.heap.size, 0, none⟩ = some (.int .u8 0) := hcx
      have hfx' : wr.frozen? ⟨wd.heap.size, 0, none⟩ = false := hfx
      clear hcx hfx
      go_wp2
      go_roundw
      case rel =>
        exact ⟨0 + 1, by omega, by go_num, set_row hrow.out _ (by have e := sh0 n; omega), hbel.out.setCell (p := ⟨wd.heap.size, 0, none⟩) (Nat.le_refl _) _⟩
      case measure => simp [intOf]
    · have ho2 := own_at_of (d := (0 : Int)) hrow.out (1 : Int) (by omega) (by omega)
      obtain ⟨hcx, hfx⟩ := ho2
      have hcx' : wr.cell? ⟨wd.heap.size, 1, none⟩ = some (.int .u8 0) := hcx
      have hfx' : wr.frozen? ⟨wd.heap.size, 1, none⟩ = false := hfx
      clear hcx hfx
      go_wp2
      go_roundw
      case rel =>
        exact ⟨1 + 1, by omega, by go_num, set_row hrow.out _ (by have e := sh1 n; omega), hbel.out.setCell (p := ⟨wd.heap.size, 1, none⟩) (Nat.le_refl _) _⟩
      case measure => simp [intOf]
    · have ho2 := own_at_of (d := (0 : Int)) hrow.out (2 : Int) (by omega) (by omega)
      obtain ⟨hcx, hfx⟩ := ho2
      have hcx' : wr.cell? ⟨wd.heap.size, 2, none⟩ = some (.int .u8 0) := hcx
      have hfx' : wr.frozen? ⟨wd.heap.size, 2, none⟩ = false := hfx
      clear hcx hfx
      go_wp2
      go_roundw
      case rel =>
        exact ⟨2 + 1, by omega, by go_num, set_row hrow.out _ (by have e := sh2 n; omega), hbel.out.setCell (p := ⟨wd.heap.size, 2, none⟩) (Nat.le_refl _) _⟩
      case measure => simp [intOf]
    · have ho2 := own_at_of (d := (0 : Int)) hrow.out (3 : Int) (by omega) (by omega)
      obtain ⟨hcx, hfx⟩ := ho2
      have hcx' : wr.cell? ⟨wd.heap.size, 3, none⟩ = some (.int .u8 0) := hcx
      have hfx' : wr.frozen? ⟨wd.heap.size, 3, none⟩ = false := hfx
      clear hcx hfx
      go_wp2
      go_roundw
      case rel =>
        exact ⟨3 + 1, by omega, by go_num, set_row hrow.out _ (by have e := sh3 n; omega), hbel.out.setCell (p := ⟨wd.heap.size, 3, none⟩) (Nat.le_refl _) _⟩
      case measure => simp [intOf]
    · go_wp2
      go_ret
      exact ⟨_, rfl, hrow.out, hbel.out⟩

def okPut (w n : Int) : Prop := (w = 1 ∧ 0 ≤ n ∧ n < 256) ∨ (w = 2 ∧ 0 ≤ n ∧ n < 65536) ∨ (w = 3 ∧ 0 ≤ n ∧ n < 16777216) ∨ (w = 4 ∧ 0 ≤ n ∧ n < 4294967296)
instance (w n : Int) : Decidable (okPut w n) := by unfold okPut; infer_instance
def bits_Put.f (w n : Int) : Option (List Int) := if 9223372036854775807 < n then none else some (if okPut w n then putAt n w.toNat w.toNat else [])

theorem bits_Put.calls (a0 : Int) (a1 : Int) (r : List Int) (w : World) (h : bits_Put.f a0 a1 = some r) :
    Calls Tryd.prog 45 #[.int .i64 a0, .int .i64 a1] w fun e w' => ∃ v0_ : Value, e = .returned (v0_) ∧ Kd.R (Kd.int .u8) 5 w' w.heap.size (fun _ => True) v0_ r ∧ Below w.heap.size w w' := by
  unfold bits_Put.f at h
  split at h
  · cases h
  rename_i hn
  cases h
  have none_ : (¬ okPut a0 a1) → Calls Tryd.prog 45 #[.int .i64 a0, .int .i64 a1] w (fun e w' => e = .returned (.slice none 0 0) ∧ w = w') → Calls Tryd.prog 45 #[.int .i64 a0, .int .i64 a1] w fun e w' => ∃ v0_ : Value, e = .returned (v0_) ∧ Kd.R (Kd.int .u8) 5 w' w.heap.size (fun _ => True) v0_ (if okPut a0 a1 then putAt a1 a0.toNat a0.toNat else []) ∧ Below w.heap.size w w' := by
    intro hne hc
    refine hc.mono ?_
    rintro e w' ⟨rfl, rfl⟩
    rw [if_neg hne]
    exact ⟨_, rfl, Kd.R_nil _ _ _ _ _, Below.refl _ _⟩
  by_cases hlow : a0 < 1 ∨ 4 < a0 ∨ a1 < 0
  · exact none_ (by unfold okPut; omega) (put_low a0 a1 w hlow)
  rcases (by omega : a0 = 1 ∨ a0 = 2 ∨ a0 = 3 ∨ a0 = 4) with rfl | rfl | rfl | rfl
  · by_cases hh : a1 < 256
    · rw [if_pos (show okPut 1 a1 by unfold okPut; omega)]
      refine (put_pos1 a1 w (by omega) hh).mono ?_
      rintro e w' ⟨v, rfl, ho, hb⟩
      exact ⟨v, rfl, Kd.R_of_own (by rw [putAt_length]; exact ho) (fun _ _ => trivial), hb⟩
    · exact none_ (by unfold okPut; omega) (put_high1 a1 w (by omega) (by omega))
  · by_cases hh : a1 < 65536
    · rw [if_pos (show okPut 2 a1 by unfold okPut; omega)]
      refine (put_pos2 a1 w (by omega) hh).mono ?_
      rintro e w' ⟨v, rfl, ho, hb⟩
      exact ⟨v, rfl, Kd.R_of_own (by rw [putAt_length]; exact ho) (fun _ _ => trivial), hb⟩
    · exact none_ (by unfold okPut; omega) (put_high2 a1 w (by omega) (by omega))
  · by_cases hh : a1 < 16777216
    · rw [if_pos (show okPut 3 a1 by unfold okPut; omega)]
      refine (put_pos3 a1 w (by omega) hh).mono ?_
      rintro e w' ⟨v, rfl, ho, hb⟩
      exact ⟨v, rfl, Kd.R_of_own (by rw [putAt_length]; exact ho) (fun _ _ => trivial), hb⟩
    · exact none_ (by unfold okPut; omega) (put_high3 a1 w (by omega) (by omega))
  · by_cases hh : a1 < 4294967296
    · rw [if_pos (show okPut 4 a1 by unfold okPut; omega)]
      refine (put_pos4 a1 w (by omega) hh).mono ?_
      rintro e w' ⟨v, rfl, ho, hb⟩
      exact ⟨v, rfl, Kd.R_of_own (by rw [putAt_length]; exact ho) (fun _ _ => trivial), hb⟩
    · exact none_ (by unfold okPut; omega) (put_high4 a1 w (by omega) (by omega))
end Go.Proofs.YtkpipmhcjjncdaaDoor.Given
