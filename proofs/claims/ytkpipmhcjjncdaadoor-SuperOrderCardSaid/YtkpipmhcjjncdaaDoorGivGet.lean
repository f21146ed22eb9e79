/- The contract of bits.Get, in the printed contracts' form: by hand. -/
import Derived.Test.YtkpipmhcjjncdaaDoorProg
import Derived.Test.YtkpipmhcjjncdaaDoorWWords
import Derived.Test.YtkpipmhcjjncdaaDoorWLast
import Derived.Test.YtkpipmhcjjncdaaDoorWMore
import Derived.WalkKit
import Derived.OwnWalk
import Derived.LoopTactic
import Derived.Outline
import Derived.KernelRfl
import Derived.Laws.BitsLemmas
namespace Go.Proofs.YtkpipmhcjjncdaaDoor.Given
open Go.RowKit Go.Proofs.YtkpipmhcjjncdaaDoorW.PrintWords Go.Proofs.YtkpipmhcjjncdaaDoorW.PrintLast Go.Proofs.YtkpipmhcjjncdaaDoorW.PrintMore
set_option linter.unusedVariables false
set_option linter.unusedSimpArgs false

def okGet (b : List Int) (at_ w : Int) : Prop := 1 ≤ w ∧ w ≤ 4 ∧ 0 ≤ at_ ∧ at_ + w ≤ b.length
instance (b : List Int) (at_ w : Int) : Decidable (okGet b at_ w) := by unfold okGet; infer_instance
def sub (b : List Int) (at_ w : Int) : List Int := (b.take (at_ + w).toNat).drop at_.toNat
/-- What the first rounds make of the bytes. -/
def getV (s : List Int) : Nat → Int
  | 0 => 0
  | i + 1 => Go.bits .or .i64 (getV s i) (shl .i64 (wrap64 (rd s (i : Int))) ((8 * i : Nat) : Int))
def bits_Get.f (b : List Int) (at_ w : Int) : Option (Int × Bool) := if 140737488355328 < b.length then none else some (if okGet b at_ w then (getV (sub b at_ w) w.toNat, true) else (0, false))

theorem shl_w (a : Int) (k : Nat) (hk : k ≤ 8) : shl .i64 a ((8 * k : Nat) : Int) = wrap64 (a * 2 ^ (8 * k)) := by
  have e : min ((8 * k : Nat) : Int).toNat IntKind.i64.bits = 8 * k := by rw [Int.toNat_natCast]; show min (8 * k) 64 = 8 * k; omega
  unfold shl
  rw [i64_w, e]
theorem get_none (A : Option Addr) (n c : Nat) (at_ w : Int) (wd : World) (hn : n ≤ 140737488355328) (h : w < 1 ∨ 4 < w ∨ at_ < 0 ∨ (n : Int) < at_ + w) :
    Calls Tryd.prog 47 #[.slice A n c, .int .i64 at_, .int .i64 w] wd fun e w' => e = .returned (.tuple #[.int .i64 0, .bool false]) ∧ wd = w' := by
  by_cases h1 : w < 1
  · clear h
    go_enter Tryd.func47, Tryd.ntmps47
    go_wp2
    go_ret2
    exact ⟨rfl, rfl⟩
  · by_cases h2 : 4 < w
    · clear h
      go_enter Tryd.func47, Tryd.ntmps47
      go_wp2
      go_ret2
      exact ⟨rfl, rfl⟩
    · by_cases h3 : at_ < 0
      · clear h
        go_enter Tryd.func47, Tryd.ntmps47
        go_wp2
        go_ret2
        exact ⟨rfl, rfl⟩
      · by_cases h4 : (n : Int) < at_
        · clear h
          go_enter Tryd.func47, Tryd.ntmps47
          go_wp2
          go_ret2
          exact ⟨rfl, rfl⟩
        · have h5 : (n : Int) - at_ < w := by omega
          clear h
          go_enter Tryd.func47, Tryd.ntmps47
          go_wp2
          go_ret2
          exact ⟨rfl, rfl⟩
theorem infoU8g : ∃ i0, Tryd.prog.info? 5 = some i0 ∧ i0.size = 1 := by
  obtain ⟨i0, hi, hz0, hz1, hz2⟩ := info_parts (show (Tryd.prog.info? 5).map (fun i => (i.zero, i.size, i.bytes)) = some (some (.int .u8 0), 1, 1) by kernel_rfl)
  exact ⟨i0, hi, hz1⟩

set_option maxHeartbeats 1000000 in
theorem get_pos1 (A : Option Addr) (c : Nat) (l : List Int) (at_ : Int) (wd : World) (hr : Kd.C (Kd.int .u8) wd A l.length l) (hc : l.length ≤ c) (hn : l.length ≤ 140737488355328) (h0 : 0 ≤ at_) (h1 : at_ + 1 ≤ l.length) :
    Calls Tryd.prog 47 #[.slice A l.length c, .int .i64 at_, .int .i64 1] wd fun e w' => e = .returned (.tuple #[.int .i64 (getV (sub l at_ 1) 1), .bool true]) ∧ wd = w' := by
  obtain ⟨i0, hi, hz⟩ := infoU8g
  obtain ⟨A13, hcut, hA13, hC13⟩ := print_mid_of (P := Tryd.prog) (Value.int .u8) 0 27 5 .i64 .i64 Tryd.underlying27 hi hz A c l at_ (at_ + 1) h0 (by omega) h1 hc
  have hl : ((l.take (at_ + 1).toNat).drop at_.toNat).length = 1 := by simp; omega
  have hR := hA13 wd (Kd.reads_of_C hr)
  rw [hl] at hcut hR
  change ReadsOf _ _ _ _ _ (sub l at_ 1) at hR
  generalize sub l at_ 1 = s at hR ⊢
  obtain ⟨ad, rfl, hcells⟩ := hR.2.2 (by omega)
  have HC : Hid (∀ j, j < 1 → wd.cell? (ad.add j) = some (.int .u8 (s.getD j 0))) := hcells
  clear hA13 hC13 hcells hR hl hr hi hz
  obtain ⟨n, hnn⟩ : ∃ n, l.length = n := ⟨_, rfl⟩
  rw [hnn] at hc hn h1 hcut ⊢
  clear hnn
  go_enter Tryd.func47, Tryd.ntmps47
  go_wp2
  clear hcut
  go_loop [8, 42] (fun t i => ∃ k : Nat, k ≤ 1 ∧ i = .int .i64 k ∧ t = .int .i64 (getV s k)) (fun _ i => 1 - (intOf i).toNat)
  case atStart => exact ⟨0, Nat.zero_le _, rfl, rfl⟩
  case round =>
    obtain ⟨k, hk, rfl, rfl⟩ := hrel
    by_cases hlt : k < 1
    · have hck : wd.cell? (ad.add k) = some (.int .u8 (rd s (k : Int))) := by rw [show rd s (k : Int) = s.getD k 0 by simp [rd]]; exact HC.out k hlt
      obtain ⟨y, hy⟩ : ∃ y, rd s (k : Int) = y := ⟨_, rfl⟩
      obtain ⟨x, hx⟩ : ∃ x, getV s k = x := ⟨_, rfl⟩
      rw [hy] at hck
      rw [hx]
      have HY : Hid (rd s (k : Int) = y) := hy
      have HX : Hid (getV s k = x) := hx
      clear hy hx
      go_wp2
      go_round
      case rel =>
        refine ⟨k + 1, by omega, by go_num, ?_⟩
        show _ = Value.int .i64 (Go.bits .or .i64 (getV s k) (shl .i64 (wrap64 (rd s (k : Int))) ((8 * k : Nat) : Int)))
        rw [HX.out, HY.out]
        rw [shl_w _ _ (by omega)]
      case measure => simp [intOf]; omega
    · obtain rfl : k = 1 := by omega
      go_wp2
      go_ret2
      exact ⟨rfl, rfl⟩

set_option maxHeartbeats 1000000 in
theorem get_pos2 (A : Option Addr) (c : Nat) (l : List Int) (at_ : Int) (wd : World) (hr : Kd.C (Kd.int .u8) wd A l.length l) (hc : l.length ≤ c) (hn : l.length ≤ 140737488355328) (h0 : 0 ≤ at_) (h1 : at_ + 2 ≤ l.length) :
    Calls Tryd.prog 47 #[.slice A l.length c, .int .i64 at_, .int .i64 2] wd fun e w' => e = .returned (.tuple #[.int .i64 (getV (sub l at_ 2) 2), .bool true]) ∧ wd = w' := by
  obtain ⟨i0, hi, hz⟩ := infoU8g
  obtain ⟨A13, hcut, hA13, hC13⟩ := print_mid_of (P := Tryd.prog) (Value.int .u8) 0 27 5 .i64 .i64 Tryd.underlying27 hi hz A c l at_ (at_ + 2) h0 (by omega) h1 hc
  have hl : ((l.take (at_ + 2).toNat).drop at_.toNat).length = 2 := by simp; omega
  have hR := hA13 wd (Kd.reads_of_C hr)
  rw [hl] at hcut hR
  change ReadsOf _ _ _ _ _ (sub l at_ 2) at hR
  generalize sub l at_ 2 = s at hR ⊢
  obtain ⟨ad, rfl, hcells⟩ := hR.2.2 (by omega)
  have HC : Hid (∀ j, j < 2 → wd.cell? (ad.add j) = some (.int .u8 (s.getD j 0))) := hcells
  clear hA13 hC13 hcells hR hl hr hi hz
  obtain ⟨n, hnn⟩ : ∃ n, l.length = n := ⟨_, rfl⟩
  rw [hnn] at hc hn h1 hcut ⊢
  clear hnn
  go_enter Tryd.func47, Tryd.ntmps47
  go_wp2
  clear hcut
  go_loop [8, 42] (fun t i => ∃ k : Nat, k ≤ 2 ∧ i = .int .i64 k ∧ t = .int .i64 (getV s k)) (fun _ i => 2 - (intOf i).toNat)
  case atStart => exact ⟨0, Nat.zero_le _, rfl, rfl⟩
  case round =>
    obtain ⟨k, hk, rfl, rfl⟩ := hrel
    by_cases hlt : k < 2
    · have hck : wd.cell? (ad.add k) = some (.int .u8 (rd s (k : Int))) := by rw [show rd s (k : Int) = s.getD k 0 by simp [rd]]; exact HC.out k hlt
      obtain ⟨y, hy⟩ : ∃ y, rd s (k : Int) = y := ⟨_, rfl⟩
      obtain ⟨x, hx⟩ : ∃ x, getV s k = x := ⟨_, rfl⟩
      rw [hy] at hck
      rw [hx]
      have HY : Hid (rd s (k : Int) = y) := hy
      have HX : Hid (getV s k = x) := hx
      clear hy hx
      go_wp2
      go_round
      case rel =>
        refine ⟨k + 1, by omega, by go_num, ?_⟩
        show _ = Value.int .i64 (Go.bits .or .i64 (getV s k) (shl .i64 (wrap64 (rd s (k : Int))) ((8 * k : Nat) : Int)))
        rw [HX.out, HY.out]
        rw [shl_w _ _ (by omega)]
      case measure => simp [intOf]; omega
    · obtain rfl : k = 2 := by omega
      go_wp2
      go_ret2
      exact ⟨rfl, rfl⟩

set_option maxHeartbeats 1000000 in
theorem get_pos3 (A : Option Addr) (c : Nat) (l : List Int) (at_ : Int) (wd : World) (hr : Kd.C (Kd.int .u8) wd A l.length l) (hc : l.length ≤ c) (hn : l.length ≤ 140737488355328) (h0 : 0 ≤ at_) (h1 : at_ + 3 ≤ l.length) :
    Calls Tryd.prog 47 #[.slice A l.length c, .int .i64 at_, .int .i64 3] wd fun e w' => e = .returned (.tuple #[.int .i64 (getV (sub l at_ 3) 3), .bool true]) ∧ wd = w' := by
  obtain ⟨i0, hi, hz⟩ := infoU8g
  obtain ⟨A13, hcut, hA13, hC13⟩ := print_mid_of (P := Tryd.prog) (Value.int .u8) 0 27 5 .i64 .i64 Tryd.underlying27 hi hz A c l at_ (at_ + 3) h0 (by omega) h1 hc
  have hl : ((l.take (at_ + 3).toNat).drop at_.toNat).length = 3 := by simp; omega
  have hR := hA13 wd (Kd.reads_of_C hr)
  rw [hl] at hcut hR
  change ReadsOf _ _ _ _ _ (sub l at_ 3) at hR
  generalize sub l at_ 3 = s at hR ⊢
  obtain ⟨ad, rfl, hcells⟩ := hR.2.2 (by omega)
  have HC : Hid (∀ j, j < 3 → wd.cell? (ad.add j) = some (.int .u8 (s.getD j 0))) := hcells
  clear hA13 hC13 hcells hR hl hr hi hz
  obtain ⟨n, hnn⟩ : ∃ n, l.length = n := ⟨_, rfl⟩
  rw [hnn] at hc hn h1 hcut ⊢
  clear hnn
  go_enter Tryd.func47, Tryd.ntmps47
  go_wp2
  clear hcut
  go_loop [8, 42] (fun t i => ∃ k : Nat, k ≤ 3 ∧ i = .int .i64 k ∧ t = .int .i64 (getV s k)) (fun _ i => 3 - (intOf i).toNat)
  case atStart => exact ⟨0, Nat.zero_le _, rfl, rfl⟩
  case round =>
    obtain ⟨k, hk, rfl, rfl⟩ := hrel
    by_cases hlt : k < 3
    · have hck : wd.cell? (ad.add k) = some (.int .u8 (rd s (k : Int))) := by rw [show rd s (k : Int) = s.getD k 0 by simp [rd]]; exact HC.out k hlt
      obtain ⟨y, hy⟩ : ∃ y, rd s (k : Int) = y := ⟨_, rfl⟩
      obtain ⟨x, hx⟩ : ∃ x, getV s k = x := ⟨_, rfl⟩
      rw [hy] at hck
      rw [hx]
      have HY : Hid (rd s (k : Int) = y) := hy
      have HX : Hid (getV s k = x) := hx
      clear hy hx
      go_wp2
      go_round
      case rel =>
        refine ⟨k + 1, by omega, by go_num, ?_⟩
        show _ = Value.int .i64 (Go.bits .or .i64 (getV s k) (shl .i64 (wrap64 (rd s (k : Int))) ((8 * k : Nat) : Int)))
        rw [HX.out, HY.out]
        rw [shl_w _ _ (by omega)]
      case measure => simp [intOf]; omega
    · obtain rfl : k = 3 := by omega
      go_wp2
      go_ret2
      exact ⟨rfl, rfl⟩

set_option maxHeartbeats 1000000 in
theorem get_pos4 (A : Option Addr) (c : Nat) (l : List Int) (at_ : Int) (wd : World) (hr : Kd.C (Kd.int .u8) wd A l.length l) (hc : l.length ≤ c) (hn : l.length ≤ 140737488355328) (h0 : 0 ≤ at_) (h1 : at_ + 4 ≤ l.length) :
    Calls Tryd.prog 47 #[.slice A l.length c, .int .i64 at_, .int .i64 4] wd fun e w' => e = .returned (.tuple #[.int .i64 (getV (sub l at_ 4) 4), .bool true]) ∧ wd = w' := by
  obtain ⟨i0, hi, hz⟩ := infoU8g
  obtain ⟨A13, hcut, hA13, hC13⟩ := print_mid_of (P := Tryd.prog) (Value.int .u8) 0 27 5 .i64 .i64 Tryd.underlying27 hi hz A c l at_ (at_ + 4) h0 (by omega) h1 hc
  have hl : ((l.take (at_ + 4).toNat).drop at_.toNat).length = 4 := by simp; omega
  have hR := hA13 wd (Kd.reads_of_C hr)
  rw [hl] at hcut hR
  change ReadsOf _ _ _ _ _ (sub l at_ 4) at hR
  generalize sub l at_ 4 = s at hR ⊢
  obtain ⟨ad, rfl, hcells⟩ := hR.2.2 (by omega)
  have HC : Hid (∀ j, j < 4 → wd.cell? (ad.add j) = some (.int .u8 (s.getD j 0))) := hcells
  clear hA13 hC13 hcells hR hl hr hi hz
  obtain ⟨n, hnn⟩ : ∃ n, l.length = n := ⟨_, rfl⟩
  rw [hnn] at hc hn h1 hcut ⊢
  clear hnn
  go_enter Tryd.func47, Tryd.ntmps47
  go_wp2
  clear hcut
  go_loop [8, 42] (fun t i => ∃ k : Nat, k ≤ 4 ∧ i = .int .i64 k ∧ t = .int .i64 (getV s k)) (fun _ i => 4 - (intOf i).toNat)
  case atStart => exact ⟨0, Nat.zero_le _, rfl, rfl⟩
  case round =>
    obtain ⟨k, hk, rfl, rfl⟩ := hrel
    by_cases hlt : k < 4
    · have hck : wd.cell? (ad.add k) = some (.int .u8 (rd s (k : Int))) := by rw [show rd s (k : Int) = s.getD k 0 by simp [rd]]; exact HC.out k hlt
      obtain ⟨y, hy⟩ : ∃ y, rd s (k : Int) = y := ⟨_, rfl⟩
      obtain ⟨x, hx⟩ : ∃ x, getV s k = x := ⟨_, rfl⟩
      rw [hy] at hck
      rw [hx]
      have HY : Hid (rd s (k : Int) = y) := hy
      have HX : Hid (getV s k = x) := hx
      clear hy hx
      go_wp2
      go_round
      case rel =>
        refine ⟨k + 1, by omega, by go_num, ?_⟩
        show _ = Value.int .i64 (Go.bits .or .i64 (getV s k) (shl .i64 (wrap64 (rd s (k : Int))) ((8 * k : Nat) : Int)))
        rw [HX.out, HY.out]
        rw [shl_w _ _ (by omega)]
      case measure => simp [intOf]; omega
    · obtain rfl : k = 4 := by omega
      go_wp2
      go_ret2
      exact ⟨rfl, rfl⟩

theorem bits_Get.calls0 (A0 : Option Addr) (c0 : Nat) (l0 : List Int) (a1 : Int) (a2 : Int) (r1 : Int) (r2 : Bool) (w : World) (hr0 : Kd.C (Kd.int .u8) w A0 l0.length l0) (hc0 : l0.length ≤ c0) (h : bits_Get.f l0 a1 a2 = some (r1, r2)) :
    Calls Tryd.prog 47 #[.slice A0 l0.length c0, .int .i64 a1, .int .i64 a2] w fun e w' => e = .returned (.tuple #[.int .i64 r1, .bool r2]) ∧ Drawn0 w w' := by
  unfold bits_Get.f at h
  split at h
  · cases h
  rename_i hn
  by_cases hok : okGet l0 a1 a2
  · rw [if_pos hok] at h
    cases h
    obtain ⟨h1, h2, h3, h4⟩ := hok
    rcases (by omega : a2 = 1 ∨ a2 = 2 ∨ a2 = 3 ∨ a2 = 4) with rfl | rfl | rfl | rfl
    · refine (get_pos1 A0 c0 l0 a1 w hr0 hc0 (by omega) h3 h4).mono ?_
      rintro e w' ⟨rfl, rfl⟩
      exact ⟨rfl, Drawn0.refl _⟩
    · refine (get_pos2 A0 c0 l0 a1 w hr0 hc0 (by omega) h3 h4).mono ?_
      rintro e w' ⟨rfl, rfl⟩
      exact ⟨rfl, Drawn0.refl _⟩
    · refine (get_pos3 A0 c0 l0 a1 w hr0 hc0 (by omega) h3 h4).mono ?_
      rintro e w' ⟨rfl, rfl⟩
      exact ⟨rfl, Drawn0.refl _⟩
    · refine (get_pos4 A0 c0 l0 a1 w hr0 hc0 (by omega) h3 h4).mono ?_
      rintro e w' ⟨rfl, rfl⟩
      exact ⟨rfl, Drawn0.refl _⟩
  · rw [if_neg hok] at h
    cases h
    refine (get_none A0 l0.length c0 a1 a2 w (by omega) (by unfold okGet at hok; omega)).mono ?_
    rintro e w' ⟨rfl, rfl⟩
    exact ⟨rfl, Drawn0.refl _⟩
/-- The same, told more weakly: what lies below stays (the print forgets the cells of boxes behind a draw). -/
theorem bits_Get.calls (A0 : Option Addr) (c0 : Nat) (l0 : List Int) (a1 : Int) (a2 : Int) (r1 : Int) (r2 : Bool) (w : World) (hr0 : Kd.C (Kd.int .u8) w A0 l0.length l0) (hc0 : l0.length ≤ c0) (h : bits_Get.f l0 a1 a2 = some (r1, r2)) :
    Calls Tryd.prog 47 #[.slice A0 l0.length c0, .int .i64 a1, .int .i64 a2] w fun e w' => e = .returned (.tuple #[.int .i64 r1, .bool r2]) ∧ Below w.heap.size w w' := by
  refine (bits_Get.calls0 A0 c0 l0 a1 a2 r1 r2 w hr0 hc0 h).mono ?_
  rintro e w' ⟨rfl, hd⟩
  obtain ⟨nd, rfl⟩ := hd
  exact ⟨rfl, pw_below_drewN (Below.refl _ _) nd⟩
end Go.Proofs.YtkpipmhcjjncdaaDoor.Given
