/- The contract of bytes.Clone and of bits.Xor, in the printed contracts' form: by hand. -/
import Derived.Test.YtljjlfjhkdbbfaaProg
import Derived.Test.YtljjlfjhkdbbfaaShelf
import Derived.Test.YtljjlfjhkdbbfaaWWords
import Derived.Test.YtljjlfjhkdbbfaaWLast
import Derived.WalkKit
import Derived.OwnWalk
import Derived.LoopTactic
import Derived.Outline
import Derived.KernelRfl
import Derived.Laws.BitsLemmas
namespace Go.Proofs.Ytljjlfjhkdbbfaa.Given
open Go.RowKit Go.Proofs.YtljjlfjhkdbbfaaW.PrintWords Go.Proofs.YtljjlfjhkdbbfaaW.PrintLast
set_option linter.unusedVariables false
set_option linter.unusedSimpArgs false

/-- A copy of bytes: of any slice, nil too. -/
theorem clone_any (A : Option Addr) (n c : Nat) (xs : List Int) (w : World) (h : Kd.C (Kd.int .u8) w A n xs) (hbig : n ≤ 140737488355328) :
    Calls Try.prog 23 #[.slice A n c] w fun e w' => ∃ v', e = .returned v' ∧ w'.ownsRow w.heap.size 5 1 v' n (encs (Value.int .u8) xs) ∧ Below w.heap.size w w' := by
  have hr := Kd.reads_of_C (d := (0 : Int)) h
  cases A with
  | none =>
    have hn : n = 0 := by
      rcases Nat.eq_zero_or_pos n with h0 | h0
      · exact h0
      · obtain ⟨ad, e, _⟩ := hr.2.2 h0
        cases e
    have hx : xs = [] := List.eq_nil_of_length_eq_zero (by rw [hr.1, hn])
    refine (Try.bytes_Clone_nil n c w).mono ?_
    rintro e w' ⟨rfl, rfl⟩
    subst hn; subst hx
    exact ⟨_, rfl, own_nil _ _ _ _, Below.refl _ _⟩
  | some a =>
    refine (Try.bytes_Clone_at a n c xs w hr.1 hbig ?_).mono ?_
    · intro i hi
      obtain ⟨ad, e, hc⟩ := hr.2.2 (by omega)
      cases e
      exact hc i hi
    · rintro e w' ⟨v', rfl, ho, _, hb⟩
      exact ⟨v', rfl, ho, hb⟩

theorem clone_pos (A : Option Addr) (n c : Nat) (xs : List Int) (w : World) (h : Kd.C (Kd.int .u8) w A n xs) (hbig : n ≤ 140737488355328) (h0 : 0 < n) :
    Calls Try.prog 23 #[.slice A n c] w fun e w' => ∃ g cap, e = .returned (.slice (some ⟨g, 0, none⟩) n cap) ∧ w'.ownsRow w.heap.size 5 1 (.slice (some ⟨g, 0, none⟩) n cap) n (encs (Value.int .u8) xs) ∧ Below w.heap.size w w' := by
  refine (clone_any A n c xs w h hbig).mono ?_
  rintro e w' ⟨v', rfl, ho, hb⟩
  rcases ho.2 with ⟨rfl, hn⟩ | ⟨g, cap, cur, rfl, h3⟩
  · omega
  · exact ⟨g, cap, rfl, ho, hb⟩

/-- What the first k rounds make of the longer one. -/
def xorTo (short : List Int) : Nat → List Int → List Int
  | 0, long => long
  | k + 1, long => (xorTo short k long).set k (Go.bits .xor .u8 ((xorTo short k long).getD k 0) (short.getD k 0))
theorem xorTo_length (short : List Int) (k : Nat) (long : List Int) : (xorTo short k long).length = long.length := by
  induction k with
  | zero => rfl
  | succ k ih => simp [xorTo, ih]
def bits_Xor.f (l0 l1 : List Int) : Option (List Int) :=
  if l0.length ≤ 140737488355328 ∧ l1.length ≤ 140737488355328 then some (if l0.length < l1.length then xorTo l0 l0.length l1 else xorTo l1 l1.length l0) else none

set_option maxHeartbeats 1000000 in
theorem xor_swap (A0 : Option Addr) (c0 : Nat) (l0 : List Int) (A1 : Option Addr) (c1 : Nat) (l1 : List Int) (w : World) (hr0 : Kd.C (Kd.int .u8) w A0 l0.length l0) (hr1 : Kd.C (Kd.int .u8) w A1 l1.length l1) (hb0 : l0.length ≤ 140737488355328) (hb1 : l1.length ≤ 140737488355328) (hlt : l0.length < l1.length) :
    Calls Try.prog 22 #[.slice A0 l0.length c0, .slice A1 l1.length c1] w fun e w' => ∃ v0_ : Value, e = .returned (v0_) ∧ Kd.R (Kd.int .u8) 5 w' w.heap.size (fun _ => True) v0_ (xorTo l0 l0.length l1) ∧ Below w.heap.size w w' := by
  have hS := Kd.reads_of_C (d := (0 : Int)) hr0
  obtain ⟨n0, hn0⟩ : ∃ n, l0.length = n := ⟨_, rfl⟩
  obtain ⟨n1, hn1⟩ : ∃ n, l1.length = n := ⟨_, rfl⟩
  rw [hn0] at hr0 hb0 hlt ⊢
  rw [hn1] at hr1 hb1 hlt ⊢
  rw [hn0] at hS
  have N0 : Hid (l0.length = n0) := hn0
  have N1 : Hid (l1.length = n1) := hn1
  clear hn0 hn1
  rcases Nat.eq_zero_or_pos n0 with hz | hpos
  · subst hz
    go_enter Try.func22, Try.ntmps22
    go_wp2_with (go_at_call 23; refine (clone_any A1 n1 c1 l1 _ hr1 hb1).mono ?_; rintro e w1 ⟨v', rfl, ho, hB⟩)
    go_loopw [19] (fun i wr => i = .int .i64 0 ∧ wr = w1) (fun i _ => 0)
    case atStart => exact ⟨rfl, rfl⟩
    case round =>
      obtain ⟨rfl, rfl⟩ := hrel
      go_wp2
      go_ret
      refine ⟨_, rfl, Kd.R_of_own ?_ (fun _ _ => trivial), hB⟩
      show World.ownsRow _ _ _ 1 v' (xorTo l0 0 l1).length (encs (Value.int .u8) (xorTo l0 0 l1))
      rw [xorTo_length, N1.out]; exact ho
  · obtain ⟨ad, rfl, hc⟩ := hS.2.2 hpos
    have HC : Hid (∀ j, j < n0 → w.cell? (ad.add j) = some (.int .u8 (l0.getD j 0))) := hc
    clear hc hS
    have HR : Hid (Kd.C (Kd.int .u8) w (some ad) n0 l0) := hr0
    clear hr0
    go_enter Try.func22, Try.ntmps22
    go_wp2_with (go_at_call 23; refine (clone_pos A1 n1 c1 l1 _ hr1 hb1 (by omega)).mono ?_; rintro e w1 ⟨g, cap, rfl, ho, hB⟩)
    clear hr1
    go_loopw [19] (fun i wr => ∃ k : Nat, k ≤ n0 ∧ i = .int .i64 k ∧ wr.ownsRow w.heap.size 5 1 (.slice (some ⟨g, 0, none⟩) n1 cap) n1 (encs (Value.int .u8) (xorTo l0 k l1)) ∧ Below w.heap.size w wr) (fun i _ => n0 - (intOf i).toNat)
    case atStart => exact ⟨0, Nat.zero_le _, rfl, ho, hB⟩
    case round =>
      obtain ⟨k, hk, rfl, hrow, hbel⟩ := hrel
      clear ho hB
      by_cases hlt' : k < n0
      · have hcs := (hbel.cell (World.block_lt_of_cell? w _ (HC.out k hlt'))).trans (HC.out k hlt')
        obtain ⟨y, hy⟩ : ∃ y, l0.getD k 0 = y := ⟨_, rfl⟩
        obtain ⟨x, hx⟩ : ∃ x, (xorTo l0 k l1).getD k 0 = x := ⟨_, rfl⟩
        have ho2 := own_at_of (d := (0 : Int)) hrow (k : Int) (by omega) (by omega)
        simp only [rdOf, Int.toNat_natCast] at ho2
        rw [hx] at ho2
        rw [hy] at hcs
        obtain ⟨hcx, hfx⟩ := ho2
        have HX : Hid ((xorTo l0 k l1).getD k 0 = x) := hx
        have HY : Hid (l0.getD k 0 = y) := hy
        have HROW : Hid (_) := hrow
        have HBEL : Hid (_) := hbel
        clear hx hy hrow hbel
        go_wp2
        go_roundw
        case rel =>
          have hst := own_store_of HROW.out (k : Int) (Go.bits .xor .u8 x y)
          simp only [Int.toNat_natCast] at hst
          refine ⟨k + 1, by omega, by go_num, ?_, HBEL.out.setCell (own_base HROW.out g rfl) _⟩
          show World.ownsRow _ _ _ _ _ _ (encs _ ((xorTo l0 k l1).set k (Go.bits .xor .u8 ((xorTo l0 k l1).getD k 0) (l0.getD k 0))))
          rw [HX.out, HY.out]
          exact hst.1
        case measure => simp [intOf]; omega
      · have hk' : k = n0 := by omega
        subst hk'
        go_wp2
        go_ret
        refine ⟨_, rfl, Kd.R_of_own ?_ (fun _ _ => trivial), hbel⟩
        rw [xorTo_length, N1.out]; exact hrow

set_option maxHeartbeats 1000000 in
theorem xor_keep (A0 : Option Addr) (c0 : Nat) (l0 : List Int) (A1 : Option Addr) (c1 : Nat) (l1 : List Int) (w : World) (hr0 : Kd.C (Kd.int .u8) w A0 l0.length l0) (hr1 : Kd.C (Kd.int .u8) w A1 l1.length l1) (hb0 : l0.length ≤ 140737488355328) (hb1 : l1.length ≤ 140737488355328) (hlt : ¬ l0.length < l1.length) :
    Calls Try.prog 22 #[.slice A0 l0.length c0, .slice A1 l1.length c1] w fun e w' => ∃ v0_ : Value, e = .returned (v0_) ∧ Kd.R (Kd.int .u8) 5 w' w.heap.size (fun _ => True) v0_ (xorTo l1 l1.length l0) ∧ Below w.heap.size w w' := by
  have hS := Kd.reads_of_C (d := (0 : Int)) hr1
  obtain ⟨n0, hn0⟩ : ∃ n, l0.length = n := ⟨_, rfl⟩
  obtain ⟨n1, hn1⟩ : ∃ n, l1.length = n := ⟨_, rfl⟩
  rw [hn0] at hr0 hb0 hlt ⊢
  rw [hn1] at hr1 hb1 hlt ⊢
  rw [hn1] at hS
  have N0 : Hid (l0.length = n0) := hn0
  have N1 : Hid (l1.length = n1) := hn1
  clear hn0 hn1
  rcases Nat.eq_zero_or_pos n1 with hz | hpos
  · subst hz
    go_enter Try.func22, Try.ntmps22
    go_wp2_with (go_at_call 23; refine (clone_any A0 n0 c0 l0 _ hr0 hb0).mono ?_; rintro e w1 ⟨v', rfl, ho, hB⟩)
    go_loopw [19] (fun i wr => i = .int .i64 0 ∧ wr = w1) (fun i _ => 0)
    case atStart => exact ⟨rfl, rfl⟩
    case round =>
      obtain ⟨rfl, rfl⟩ := hrel
      go_wp2
      go_ret
      refine ⟨_, rfl, Kd.R_of_own ?_ (fun _ _ => trivial), hB⟩
      show World.ownsRow _ _ _ 1 v' (xorTo l1 0 l0).length (encs (Value.int .u8) (xorTo l1 0 l0))
      rw [xorTo_length, N0.out]; exact ho
  · obtain ⟨ad, rfl, hc⟩ := hS.2.2 hpos
    have HC : Hid (∀ j, j < n1 → w.cell? (ad.add j) = some (.int .u8 (l1.getD j 0))) := hc
    clear hc hS
    have HR : Hid (Kd.C (Kd.int .u8) w (some ad) n1 l1) := hr1
    clear hr1
    go_enter Try.func22, Try.ntmps22
    go_wp2_with (go_at_call 23; refine (clone_pos A0 n0 c0 l0 _ hr0 hb0 (by omega)).mono ?_; rintro e w1 ⟨g, cap, rfl, ho, hB⟩)
    clear hr0
    go_loopw [19] (fun i wr => ∃ k : Nat, k ≤ n1 ∧ i = .int .i64 k ∧ wr.ownsRow w.heap.size 5 1 (.slice (some ⟨g, 0, none⟩) n0 cap) n0 (encs (Value.int .u8) (xorTo l1 k l0)) ∧ Below w.heap.size w wr) (fun i _ => n1 - (intOf i).toNat)
    case atStart => exact ⟨0, Nat.zero_le _, rfl, ho, hB⟩
    case round =>
      obtain ⟨k, hk, rfl, hrow, hbel⟩ := hrel
      clear ho hB
      by_cases hlt' : k < n1
      · have hcs := (hbel.cell (World.block_lt_of_cell? w _ (HC.out k hlt'))).trans (HC.out k hlt')
        obtain ⟨y, hy⟩ : ∃ y, l1.getD k 0 = y := ⟨_, rfl⟩
        obtain ⟨x, hx⟩ : ∃ x, (xorTo l1 k l0).getD k 0 = x := ⟨_, rfl⟩
        have ho2 := own_at_of (d := (0 : Int)) hrow (k : Int) (by omega) (by omega)
        simp only [rdOf, Int.toNat_natCast] at ho2
        rw [hx] at ho2
        rw [hy] at hcs
        obtain ⟨hcx, hfx⟩ := ho2
        have HX : Hid ((xorTo l1 k l0).getD k 0 = x) := hx
        have HY : Hid (l1.getD k 0 = y) := hy
        have HROW : Hid (_) := hrow
        have HBEL : Hid (_) := hbel
        clear hx hy hrow hbel
        go_wp2
        go_roundw
        case rel =>
          have hst := own_store_of HROW.out (k : Int) (Go.bits .xor .u8 x y)
          simp only [Int.toNat_natCast] at hst
          refine ⟨k + 1, by omega, by go_num, ?_, HBEL.out.setCell (own_base HROW.out g rfl) _⟩
          show World.ownsRow _ _ _ _ _ _ (encs _ ((xorTo l1 k l0).set k (Go.bits .xor .u8 ((xorTo l1 k l0).getD k 0) (l1.getD k 0))))
          rw [HX.out, HY.out]
          exact hst.1
        case measure => simp [intOf]; omega
      · have hk' : k = n1 := by omega
        subst hk'
        go_wp2
        go_ret
        refine ⟨_, rfl, Kd.R_of_own ?_ (fun _ _ => trivial), hbel⟩
        rw [xorTo_length, N0.out]; exact hrow

theorem bits_Xor.calls (A0 : Option Addr) (c0 : Nat) (l0 : List Int) (A1 : Option Addr) (c1 : Nat) (l1 : List Int) (r : List Int) (w : World) (hr0 : Kd.C (Kd.int .u8) w A0 l0.length l0) (hc0 : l0.length ≤ c0) (hr1 : Kd.C (Kd.int .u8) w A1 l1.length l1) (hc1 : l1.length ≤ c1) (h : bits_Xor.f l0 l1 = some r) :
    Calls Try.prog 22 #[.slice A0 l0.length c0, .slice A1 l1.length c1] w fun e w' => ∃ v0_ : Value, e = .returned (v0_) ∧ Kd.R (Kd.int .u8) 5 w' w.heap.size (fun _ => True) v0_ r ∧ Below w.heap.size w w' := by
  unfold bits_Xor.f at h
  split at h
  · rename_i hb
    cases h
    by_cases hlt : l0.length < l1.length
    · rw [if_pos hlt]; exact xor_swap A0 c0 l0 A1 c1 l1 w hr0 hr1 hb.1 hb.2 hlt
    · rw [if_neg hlt]; exact xor_keep A0 c0 l0 A1 c1 l1 w hr0 hr1 hb.1 hb.2 hlt
  · cases h

end Go.Proofs.Ytljjlfjhkdbbfaa.Given
