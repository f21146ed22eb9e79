/- The walk of BlockCuts: by hand. -/
import Derived.Test.YtlkhlmckgpjopaaDoorGivCut
import Derived.Deep.RegionHeld3
import Derived.Deep.QuietTactic
import Derived.BigQuiet
namespace Go.Proofs.YtlkhlmckgpjopaaDoor.CutsWalk
open Go.RowKit Go.Maps Go.Sort Go.Shelf Go.Proofs.YtlkhlmckgpjopaaDoorW.PrintWords Go.Proofs.YtlkhlmckgpjopaaDoorW.PrintLast Go.Proofs.YtlkhlmckgpjopaaDoorW.PrintMore Go.Proofs.YtlkhlmckgpjopaaDoor.Base Go.Proofs.YtlkhlmckgpjopaaDoor.Given
set_option linter.unusedVariables false
set_option linter.unusedSimpArgs false
theorem adr_get (l : List Int) (j : Nat) : (adr l (j : Int)).getD 0 = l.getD j 0 := by
  unfold adr
  rw [Int.toNat_natCast]
  by_cases h : l.getD j 0 = 0
  · rw [if_neg (fun k => k.2 h), h]; rfl
  · rw [if_pos ⟨by omega, h⟩]; rfl
set_option maxHeartbeats 4000000 in
set_option maxRecDepth 100000 in
theorem good (A0 : Option Addr) (c0 : Nat) (l : List Int) (n : Int) (w : World) (hC : Kd.C (Kd.int .i64) w A0 l.length l) (hl : l.length ≤ 828) (hok : ∀ x ∈ l, okA x) :
    Calls Tryd.prog 6 #[.slice A0 l.length c0, .int .i64 n] w fun e w' => e = .returned (.bool true) ∧ Below w.heap.size w w' := by
  have d2 : decide ((828 : Int) < (l.length : Int)) = false := decide_eq_false (by omega)
  have hl2 : (l.length : Int) ≤ 828 := by omega
  have HC := Lib.hid hC
  have HOK := Lib.hid hok
  clear hC hok
  go_enter Tryd.func6, Tryd.ntmps6
  go_wp2_with fail
  refine (alive_calls _).mono ?_
  rintro e w1 ⟨rfl, hB⟩
  have HB1 := Lib.hid hB
  clear hB
  go_wp2_with fail
  refine (new_p A0 c0 l _ (Kd.C_below HC.out HB1.out) hl HOK.out).mono ?_
  rintro e w2 ⟨p, rfl, hM, hB⟩
  have HM2 := Lib.hid hM
  have HB2 : Hid (Below w.heap.size w w2) := HB1.out.trans (hB.mono HB1.out.size)
  have H12 : Hid (w.heap.size ≤ w1.heap.size) := HB1.out.size
  clear hM hB HB1
  go_wp2_with fail
  refine (cut_calls HM2.out n).mono ?_
  rintro e w3 ⟨rfl, hM, hB, hX⟩
  have HM3 := Lib.hid hM
  have HB3 : Hid (Below w.heap.size w w3) := HB2.out.trans (hB.mono H12.out)
  clear hM hB hX HB2 HM2
  go_wp2
  go_loopw [7] (fun i wr => ∃ (j : Nat), j ≤ l.length ∧ i = .int .i64 j ∧ w3 = wr) (fun i _ => (828 - intOf i).toNat)
  case atStart => exact ⟨0, by omega, rfl, rfl⟩
  case round =>
    obtain ⟨j, hj, rfl, rfl⟩ := hrel
    rcases Nat.lt_or_ge j l.length with hlt | hge
    · have hlt2 : (j : Int) < (l.length : Int) := by omega
      obtain ⟨g0, o0, rfl, hcell0⟩ := addr_of_C (Kd.C_below HC.out HB3.out) (by omega)
      have hcj := hcell0 j hlt
      have HJ : Hid ((Lit.int .i64 (j : Int)).wf = true) := wf_i (by omega) (by omega)
      obtain ⟨y, hy⟩ : ∃ y, l.getD j 0 = y := ⟨_, rfl⟩
      rw [hy] at hcj
      clear hcell0
      by_cases hjn : n ≤ (j : Int)
      · have hpd : decide (n ≤ (j : Int)) = true := decide_eq_true hjn
        have HV : Hid ((cutF n (adr l) (j : Int)).getD 0 = 0) := by show _ = _; unfold cutF; rw [if_pos hjn]; rfl
        have h00 : ((0 : Int) != 0) = false := by simp
        clear hy hjn
        go_wp2_with fail
        refine (at_calls HM3.out (j : Int) HJ.out).mono ?_
        rintro e w4 ⟨rfl, rfl⟩
        rw [HV.out]
        go_wp2
        go_roundw
        case rel => first | exact ⟨j + 1, by omega, by simp, rfl⟩ | exact ⟨j + 1, by omega, by simp, trivial⟩ | exact ⟨⟨j + 1, by omega, by simp⟩, trivial⟩
        case measure => simp [intOf]; omega
      · have hpd : decide (n ≤ (j : Int)) = false := decide_eq_false hjn
        have HV : Hid ((cutF n (adr l) (j : Int)).getD 0 = y) := by show _ = _; unfold cutF; rw [if_neg hjn, adr_get]; exact hy
        have hyy : (y != y) = false := by simp
        clear hy hjn
        go_wp2_with fail
        refine (at_calls HM3.out (j : Int) HJ.out).mono ?_
        rintro e w4 ⟨rfl, rfl⟩
        rw [HV.out]
        go_wp2
        go_roundw
        case rel => first | exact ⟨j + 1, by omega, by simp, rfl⟩ | exact ⟨j + 1, by omega, by simp, trivial⟩ | exact ⟨⟨j + 1, by omega, by simp⟩, trivial⟩
        case measure => simp [intOf]; omega
    · obtain rfl : j = l.length := by omega
      clear hj hge
      go_wp2_with fail
      refine (there_calls HM3.out (by omega) (fun k h => absurd (by unfold cutF; split <;> rfl) h)).mono ?_
      rintro e w5 ⟨v, L, rfl, hL, hrow, hB⟩
      obtain ⟨A6, c6, rfl, hc6, hC6⟩ := int_slice hrow
      have HB5 : Hid (Below w.heap.size w w5) := HB3.out.trans (hB.mono HB3.out.size)
      cases L with
      | nil =>
        clear hL hrow hB hC6
        go_wp2
        go_ret
        exact ⟨rfl, HB5.out⟩
      | cons x L =>
        obtain ⟨m, hm⟩ : ∃ m, (x :: L).length = m + 1 := ⟨L.length, rfl⟩
        have hLn : (x :: L).length ≤ 9223372036854775807 := hC6.2.1
        have hmem : (x :: L).getD m 0 ∈ x :: L := by
          have : m < (x :: L).length := by omega
          rw [List.getD_eq_getElem?_getD, List.getElem?_eq_getElem this, Option.getD_some]
          exact List.getElem_mem this
        have hlast := (hL.mem _).1 hmem
        obtain ⟨y, hy⟩ : ∃ y, (x :: L).getD m 0 = y := ⟨_, rfl⟩
        obtain ⟨g6, o6, rfl, hcell6⟩ := addr_of_C hC6 (by omega)
        have hcj := hcell6 m (by omega)
        rw [hy] at hcj hlast
        have hyn : y < n := by
          rcases hlast with h | h
          · unfold cutF at h
            by_cases e : n ≤ y
            · rw [if_pos e] at h; exact absurd rfl h
            · omega
          · exact absurd (by unfold cutF; split <;> rfl) h
        have hd : decide (y < n) = true := decide_eq_true hyn
        obtain ⟨K, hK⟩ : ∃ K, (x :: L).length = K := ⟨_, rfl⟩
        rw [hK] at hm hLn ⊢
        have hsub : IntKind.i64.wrap ((K : Int) - 1) = (m : Int) := by rw [IntWalk.i64_in _ (by omega)]; omega
        have hne : ((K : Int) == 0) = false := beq_eq_false_iff_ne.2 (by omega)
        have hK2 : (K : Int) ≤ 9223372036854775807 := by omega
        have hmK : (m : Int) < (K : Int) := by omega
        clear hL hrow hB hC6 hcell6 hmem hlast hy hyn hK
        go_wp2
        go_ret
        exact ⟨rfl, HB5.out⟩
set_option maxHeartbeats 1000000 in
theorem bad (A0 : Option Addr) (c0 : Nat) (l : List Int) (n : Int) (w : World) (hC : Kd.C (Kd.int .i64) w A0 l.length l) (hl : l.length ≤ 828) (j0 : Nat) (hj0 : j0 < l.length) (hbad : ¬ okA (l.getD j0 0)) (hok : ∀ x ∈ l.take j0, okA x) :
    Calls Tryd.prog 6 #[.slice A0 l.length c0, .int .i64 n] w fun e w' => e = .returned (.bool true) ∧ Below w.heap.size w w' := by
  have d2 : decide ((828 : Int) < (l.length : Int)) = false := decide_eq_false (by omega)
  have hl2 : (l.length : Int) ≤ 828 := by omega
  have HC := Lib.hid hC
  have HBD := Lib.hid hbad
  have HOK := Lib.hid hok
  have HJ := Lib.hid hj0
  clear hC hbad hok hj0
  go_enter Tryd.func6, Tryd.ntmps6
  go_wp2_with fail
  refine (alive_calls _).mono ?_
  rintro e w1 ⟨rfl, hB⟩
  have HB1 := Lib.hid hB
  clear hB
  go_wp2_with fail
  refine (new_bad A0 c0 l _ j0 HJ.out HBD.out (Kd.C_below HC.out HB1.out) hl HOK.out).mono ?_
  rintro e w2 ⟨rfl, hB⟩
  have HB2 : Hid (Below w.heap.size w w2) := HB1.out.trans (hB.mono HB1.out.size)
  clear hB HB1
  go_wp2
  go_ret
  exact ⟨rfl, HB2.out⟩
set_option maxHeartbeats 1000000 in
theorem out1 (A0 : Option Addr) (c0 n : Nat) (k : Int) (w : World) (hn : n ≤ 9223372036854775807) (h : 828 < n) :
    Calls Tryd.prog 6 #[.slice A0 n c0, .int .i64 k] w fun e w' => e = .returned (.bool true) ∧ Below w.heap.size w w' := by
  have d2 : decide ((828 : Int) < (n : Int)) = true := decide_eq_true (by omega)
  have hn2 : (n : Int) ≤ 9223372036854775807 := by omega
  go_enter Tryd.func6, Tryd.ntmps6
  go_wp2_with fail
  refine (alive_calls _).mono ?_
  rintro e w1 ⟨rfl, hB⟩
  have HB1 := Lib.hid hB
  clear hB
  go_wp2
  go_ret
  exact ⟨rfl, HB1.out⟩
end Go.Proofs.YtlkhlmckgpjopaaDoor.CutsWalk
namespace Go.Proofs.YtlkhlmckgpjopaaDoor.PBlockCuts
open Go.RowKit Go.Proofs.YtlkhlmckgpjopaaDoorW.PrintWords Go.Proofs.YtlkhlmckgpjopaaDoorW.PrintLast Go.Proofs.YtlkhlmckgpjopaaDoorW.PrintMore Go.Proofs.YtlkhlmckgpjopaaDoor.Base Go.Proofs.YtlkhlmckgpjopaaDoor.Given Go.Proofs.YtlkhlmckgpjopaaDoor.CutsWalk
set_option linter.unusedVariables false
def morainelaw15_BlockCuts.f (l : List Int) (n : Int) : Option Bool := some true
theorem first_bad : ∀ l : List Int, (∀ x ∈ l, okA x) ∨ ∃ j, j < l.length ∧ ¬ okA (l.getD j 0) ∧ ∀ x ∈ l.take j, okA x
  | [] => .inl (fun x h => absurd h (by simp))
  | x :: l => by
    by_cases hx : okA x
    · rcases first_bad l with h | ⟨j, h1, h2, h3⟩
      · exact .inl (fun y hy => (List.mem_cons.1 hy).elim (fun e => e ▸ hx) (h y))
      · exact .inr ⟨j + 1, by simpa using h1, by simpa using h2, fun y hy => by rw [List.take_succ_cons] at hy; exact (List.mem_cons.1 hy).elim (fun e => e ▸ hx) (h3 y)⟩
    · exact .inr ⟨0, by simp, by simpa using hx, fun y hy => absurd hy (by simp)⟩
theorem morainelaw15_BlockCuts.calls (A0 : Option Addr) (c0 : Nat) (l : List Int) (n : Int) (r : Bool) (w : World) (hC : Kd.C (Kd.int .i64) w A0 l.length l) (hc : l.length ≤ c0) (h : morainelaw15_BlockCuts.f l n = some r) :
    Calls Tryd.prog 6 #[.slice A0 l.length c0, .int .i64 n] w fun e w' => e = .returned (.bool r) ∧ Below w.heap.size w w' := by
  cases h
  by_cases h1 : 828 < l.length
  · exact out1 A0 c0 l.length n w hC.2.1 h1
  · rcases first_bad l with hok | ⟨j, k1, k2, k3⟩
    · exact good A0 c0 l n w hC (by omega) hok
    · exact bad A0 c0 l n w hC (by omega) j k1 k2 k3
end Go.Proofs.YtlkhlmckgpjopaaDoor.PBlockCuts
namespace Go.Proofs.YtlkhlmckgpjopaaDoor.Pure
open Go.Proofs.YtlkhlmckgpjopaaDoor.PBlockCuts
theorem BlockCuts {P1 P2 P3 : Prop} (l : List Int) (n : Int) (_ : P1) (_ : P2) (_ : P3) : morainelaw15_BlockCuts.f l n = some true := rfl
end Go.Proofs.YtlkhlmckgpjopaaDoor.Pure
