/- The walk of BlockPuts: by hand. -/
import Derived.Test.YtlkhlmckgpjopaaDoorGivPuts
import Derived.Deep.RegionHeld3
import Derived.Deep.QuietTactic
import Derived.BigQuiet
namespace Go.Proofs.YtlkhlmckgpjopaaDoor.PutsWalk
open Go.RowKit Go.Maps Go.Sort Go.Shelf Go.Proofs.YtlkhlmckgpjopaaDoorW.PrintWords Go.Proofs.YtlkhlmckgpjopaaDoorW.PrintLast Go.Proofs.YtlkhlmckgpjopaaDoorW.PrintMore Go.Proofs.YtlkhlmckgpjopaaDoor.Base Go.Proofs.YtlkhlmckgpjopaaDoor.Given
set_option linter.unusedVariables false
set_option linter.unusedSimpArgs false
theorem adr_get (l : List Int) (j : Nat) : (adr l (j : Int)).getD 0 = l.getD j 0 := by
  unfold adr
  rw [Int.toNat_natCast]
  by_cases h : l.getD j 0 = 0
  · rw [if_neg (fun k => k.2 h), h]; rfl
  · rw [if_pos ⟨by omega, h⟩]; rfl
set_option maxHeartbeats 4000000 in
set_option maxRecDepth 100000 in
theorem good (A0 : Option Addr) (c0 : Nat) (l : List Int) (k : Int) (A1 : Option Addr) (c1 : Nat) (b : List Int) (w : World) (hC : Kd.C (Kd.int .i64) w A0 l.length l) (hC1 : Kd.C (Kd.int .u8) w A1 b.length b) (hc1 : b.length ≤ c1) (hl : l.length ≤ 828) (hb : b.length = 56) (h0 : 0 ≤ k) (h1 : k < 828) (hok : ∀ x ∈ l, okA x) :
    Calls Tryd.prog 5 #[.slice A0 l.length c0, .int .i64 k, .slice A1 56 c1] w fun e w' => e = .returned (.bool true) ∧ Below w.heap.size w w' := by
  have d0 : decide (k < 0) = false := decide_eq_false (by omega)
  have d1 : decide (828 ≤ k) = false := decide_eq_false (by omega)
  have d2 : decide ((828 : Int) < (l.length : Int)) = false := decide_eq_false (by omega)
  have HK : Hid ((Lit.int .i64 k).wf = true) := wf_i h0 (by omega)
  have hl2 : (l.length : Int) ≤ 828 := by omega
  obtain ⟨g1, o1, rfl, hcell⟩ := addr_of_C hC1 (by omega)
  have HC := Lib.hid hC
  have HC1 := Lib.hid hC1
  have H56 := Lib.hid hb
  have HH0 := Lib.hid h0
  have HH1 := Lib.hid h1
  have HOK := Lib.hid hok
  have HCELL := Lib.hid hcell
  rw [hb] at hc1
  clear hC hC1 hb hok hcell
  go_enter Tryd.func5, Tryd.ntmps5
  go_wp2_with fail
  refine (alive_calls _).mono ?_
  rintro e w1 ⟨rfl, hB⟩
  have HB1 := Lib.hid hB
  clear hB
  go_wp2_with fail
  refine (new_p A0 c0 l _ (Kd.C_below HC.out HB1.out) hl HOK.out).mono ?_
  rintro e w2 ⟨p, rfl, hM, hB⟩
  have HM2 := Lib.hid hM
  have HB2 : Hid (Below w.heap.size w w2) := HB1.out.trans (hB.mono HB1.out.size)
  have H12 : Hid (w.heap.size ≤ w1.heap.size) := HB1.out.size
  clear hM hB HB1
  go_wp2_with fail
  refine (put_all HM2.out (by decide) k HH0.out HH1.out _ c1 b H56.out hc1 (Kd.C_below HC1.out HB2.out)).mono ?_
  rintro e w3 ⟨rfl, hM, hB⟩
  have HM3 := Lib.hid hM
  have HB3 : Hid (Below w.heap.size w w3) := HB2.out.trans (hB.mono H12.out)
  clear hM hB HB2 HM2
  go_wp2
  go_loopw [9, 10] (fun s i wr => ∃ j : Nat, j ≤ 56 ∧ s = .bool (someB b j) ∧ i = .int .i64 j ∧ Hid (Below w3.heap.size w3 wr)) (fun _ i _ => (56 - intOf i).toNat)
  case atStart => exact ⟨0, by omega, rfl, rfl, Below.refl _ _⟩
  case round =>
    obtain ⟨j, hj, rfl, rfl, HB⟩ := hrel
    rcases Nat.lt_or_ge j 56 with hlt | hge
    · have hlt2 : (j : Int) < 56 := by omega
      have hcj : wr.cell? ⟨g1, o1 + j, none⟩ = some (.int .u8 (b.getD j 0)) := pw_cell_below (HB3.out.trans (HB.out.mono HB3.out.size)) (HCELL.out j (by rw [H56.out]; exact hlt))
      cases hs : someB b j with
      | false =>
        go_wp2
        go_roundw
        case rel => exact ⟨j + 1, by omega, by rw [someB_succ, hs]; simp, by simp, HB⟩
        case measure => simp [intOf]; omega
      | true =>
        go_wp2
        go_roundw
        case rel => exact ⟨j + 1, by omega, by rw [someB_succ, hs]; simp, by simp, HB⟩
        case measure => simp [intOf]; omega
    · obtain rfl : j = 56 := by omega
      have HM4 : Hid (BM wr _ p 829 (setF (adr l) k none) (setF (fun _ => none) k (if someB b 56 = true then some b else none))) := HM3.out.below HB.out
      have HB4 : Hid (Below w.heap.size w wr) := HB3.out.trans (HB.out.mono HB3.out.size)
      obtain ⟨w4, rfl⟩ : ∃ z : World, z = wr := ⟨_, rfl⟩
      obtain ⟨base, hbase⟩ : ∃ z, z = w1.heap.size := ⟨_, rfl⟩
      rw [← hbase] at HM4
      cases hs : someB b 56 with
      | false =>
        rw [hs, if_neg (by decide)] at HM4
        clear HB HM3 HB3
        go_wp2_with fail
        refine (bytes_none HM4.out k HK.out (by simp [setF])).mono ?_
        rintro e w5 ⟨rfl, rfl⟩
        go_wp2_with fail
        refine (at_calls HM4.out k HK.out).mono ?_
        rintro e w5 ⟨rfl, rfl⟩
        rw [show ((setF (adr l) k none k).getD 0) = 0 by simp [setF]]
        go_wp2_with fail
        refine (fresh_at HM4.out (by decide) (Rises.nil (fun j h => by by_cases e : j = k <;> simp [setF, e] at h))).mono ?_
        rintro e w5 ⟨A5, c5, rfl, hc5, hC5, hB⟩
        have HB5 : Hid (Below w.heap.size w w5) := HB4.out.trans (hB.mono HB4.out.size)
        have HM5 := Lib.hid (HM4.out.below hB)
        clear hc5 hC5 hB HB4 HM4
        go_wp2
        go_loopw [13] (fun i wq => ∃ j : Nat, j ≤ l.length ∧ i = .int .i64 j ∧ Hid (Below w5.heap.size w5 wq)) (fun i _ => (828 - intOf i).toNat)
        case atStart => exact ⟨0, by omega, rfl, Below.refl _ _⟩
        case round =>
          obtain ⟨j, hj, rfl, HB⟩ := hrel
          have HM6 := Lib.hid (HM5.out.below HB.out)
          have HB6 : Hid (Below w.heap.size w wr) := HB5.out.trans (HB.out.mono HB5.out.size)
          rcases Nat.lt_or_ge j l.length with hlt | hge
          · have hlt2 : (j : Int) < (l.length : Int) := by omega
            obtain ⟨g0, o0, rfl, hcell0⟩ := addr_of_C HC.out (by omega)
            have hcj : wr.cell? ⟨g0, o0 + j, none⟩ = some (.int .i64 (l.getD j 0)) := pw_cell_below HB6.out (hcell0 j hlt)
            have HJ : Hid ((Lit.int .i64 (j : Int)).wf = true) := wf_i (by omega) (by omega)
            obtain ⟨y, hy⟩ : ∃ y, l.getD j 0 = y := ⟨_, rfl⟩
            rw [hy] at hcj
            clear hcell0
            by_cases hjk : (j : Int) = k
            · have hjb : ((j : Int) == k) = true := beq_iff_eq.2 hjk
              have hjn : ((j : Int) != k) = false := by simp [bne, hjb]
              have HJK := Lib.hid hjk
              clear hjk hy
              go_wp2_with fail
              go_region
              go_wp2
              go_roundw
              case rel => exact ⟨j + 1, by omega, by simp, by first | exact HB | exact pw_below_drewN HB.out _ | exact below_drew HB.out⟩
              case measure => simp [intOf]; omega
            · have hjb : ((j : Int) == k) = false := beq_eq_false_iff_ne.2 hjk
              have hjn : ((j : Int) != k) = true := by simp [bne, hjb]
              have hyy : (y != y) = false := by simp
              have hv : (setF (adr l) k none (j : Int)).getD 0 = l.getD j 0 := by
                unfold setF; rw [if_neg hjk]; exact adr_get l j
              have HJK := Lib.hid hjk
              have HV := Lib.hid hv
              rw [hy] at HV
              clear hjk hv hy
              go_wp2_with fail
              go_region_held3 (fun w' => Below w5.heap.size w5 w' ∧ w'.cell? ⟨g0, o0 + j, none⟩ = some (.int .i64 y)) ((repeat' apply And.intro) <;> first | assumption | exact below_drew HB.out | exact HB.out | (simp only [World.cell?_drew]; assumption))
                (first | (go_at_call 14; obtain ⟨Z0, Z1⟩ := ‹Below w5.heap.size w5 _ ∧ _›; refine (at_calls (HM5.out.below Z0) j HJ.out).mono ?_; rintro e w7 ⟨rfl, rfl⟩; rw [HV.out]; have Y0 := Z0; have Y1 := Z1))
              have HBF := Lib.hid (‹Below w5.heap.size w5 _ ∧ _›).1
              go_wp2
              go_roundw
              case rel => first | exact ⟨j + 1, by omega, by simp, HBF⟩ | ((repeat apply Exists.intro); exact ⟨⟨j + 1, by omega, by simp, HBF⟩, rfl⟩)
              case measure => simp [intOf]; omega
          · obtain rfl : j = l.length := by omega
            go_wp2_with fail
            refine (place_no HM6.out k 9 HK.out (by simp [setF])).mono ?_
            rintro e w7 ⟨rfl, rfl⟩
            go_wp2
            go_ret
            exact ⟨rfl, HB6.out⟩
      | true =>
        rw [hs, if_pos rfl] at HM4
        clear HB HM3 HB3
        go_wp2_with fail
        refine (bytes_some HM4.out k HK.out b (by simp [setF])).mono ?_
        rintro e w5 ⟨v5, rfl, hR, hB⟩
        obtain ⟨A5, c5, rfl⟩ := Kd.R_slice hR
        have hR5 := Kd.R_reads' hR
        have HB5 : Hid (Below w.heap.size w w5) := HB4.out.trans (hB.mono HB4.out.size)
        have HM5 := Lib.hid (HM4.out.below hB)
        have hsb := moraineref00_SameBytes.calls 57 A5 c5 b (some ⟨g1, o1, none⟩) c1 b true w5 hR5.2.2 hR5.2.1 (Kd.C_below HC1.out HB5.out) (by rw [H56.out]; exact hc1) (by rw [same_eq b b (by rw [H56.out]; decide) 57 (by rw [H56.out]; decide)]; simp)
        rw [H56.out] at hsb ⊢
        have HSB := Lib.hid hsb
        clear hR hB hR5 hsb HB4 HM4
        go_wp2_with fail
        refine HSB.out.mono ?_
        rintro e w6 ⟨rfl, ⟨nd, rfl⟩⟩
        have HB6 : Hid (Below w.heap.size w (w5.drewN nd)) := pw_below_drewN HB5.out nd
        have HM6 := Lib.hid (HM5.out.below (pw_below_drewN (Below.refl _ w5) nd))
        obtain ⟨w6, hw6⟩ : ∃ z, z = w5.drewN nd := ⟨_, rfl⟩
        rw [← hw6] at HB6 HM6 ⊢
        clear hw6 HB5 HM5 HSB
        go_wp2_with fail
        refine (at_calls HM6.out k HK.out).mono ?_
        rintro e w7 ⟨rfl, rfl⟩
        rw [show ((setF (adr l) k none k).getD 0) = 0 by simp [setF]]
        go_wp2_with fail
        refine (fresh_at HM6.out (by decide) (M := [k]) ⟨by simp, fun x => by by_cases e : x = k <;> simp [setF, e]⟩).mono ?_
        rintro e w8 ⟨A8, c8, rfl, hc8, hC8, hB⟩
        have HB8 : Hid (Below w.heap.size w w8) := HB6.out.trans (hB.mono HB6.out.size)
        have HM8 := Lib.hid (HM6.out.below hB)
        clear hc8 hC8 hB HB6 HM6
        go_wp2
        go_loopw [13] (fun i wq => ∃ j : Nat, j ≤ l.length ∧ i = .int .i64 j ∧ Hid (Below w8.heap.size w8 wq)) (fun i _ => (828 - intOf i).toNat)
        case atStart => exact ⟨0, by omega, rfl, Below.refl _ _⟩
        case round =>
          obtain ⟨j, hj, rfl, HB⟩ := hrel
          have HM9 := Lib.hid (HM8.out.below HB.out)
          have HB9 : Hid (Below w.heap.size w wr) := HB8.out.trans (HB.out.mono HB8.out.size)
          rcases Nat.lt_or_ge j l.length with hlt | hge
          · have hlt2 : (j : Int) < (l.length : Int) := by omega
            obtain ⟨g0, o0, rfl, hcell0⟩ := addr_of_C HC.out (by omega)
            have hcj : wr.cell? ⟨g0, o0 + j, none⟩ = some (.int .i64 (l.getD j 0)) := pw_cell_below HB9.out (hcell0 j hlt)
            have HJ : Hid ((Lit.int .i64 (j : Int)).wf = true) := wf_i (by omega) (by omega)
            obtain ⟨y, hy⟩ : ∃ y, l.getD j 0 = y := ⟨_, rfl⟩
            rw [hy] at hcj
            clear hcell0
            by_cases hjk : (j : Int) = k
            · have hjb : ((j : Int) == k) = true := beq_iff_eq.2 hjk
              have hjn : ((j : Int) != k) = false := by simp [bne, hjb]
              have HJK := Lib.hid hjk
              clear hjk hy
              go_wp2_with fail
              go_region
              go_wp2
              go_roundw
              case rel => exact ⟨j + 1, by omega, by simp, by first | exact HB | exact pw_below_drewN HB.out _ | exact below_drew HB.out⟩
              case measure => simp [intOf]; omega
            · have hjb : ((j : Int) == k) = false := beq_eq_false_iff_ne.2 hjk
              have hjn : ((j : Int) != k) = true := by simp [bne, hjb]
              have hyy : (y != y) = false := by simp
              have hv : (setF (adr l) k none (j : Int)).getD 0 = l.getD j 0 := by
                unfold setF; rw [if_neg hjk]; exact adr_get l j
              have HJK := Lib.hid hjk
              have HV := Lib.hid hv
              rw [hy] at HV
              clear hjk hv hy
              go_wp2_with fail
              go_region_held3 (fun w' => Below w8.heap.size w8 w' ∧ w'.cell? ⟨g0, o0 + j, none⟩ = some (.int .i64 y)) ((repeat' apply And.intro) <;> first | assumption | exact below_drew HB.out | exact HB.out | (simp only [World.cell?_drew]; assumption))
                (first | (go_at_call 14; obtain ⟨Z0, Z1⟩ := ‹Below w8.heap.size w8 _ ∧ _›; refine (at_calls (HM8.out.below Z0) j HJ.out).mono ?_; rintro e w7 ⟨rfl, rfl⟩; rw [HV.out]; have Y0 := Z0; have Y1 := Z1))
              have HBF := Lib.hid (‹Below w8.heap.size w8 _ ∧ _›).1
              go_wp2
              go_roundw
              case rel => first | exact ⟨j + 1, by omega, by simp, HBF⟩ | ((repeat apply Exists.intro); exact ⟨⟨j + 1, by omega, by simp, HBF⟩, rfl⟩)
              case measure => simp [intOf]; omega
          · obtain rfl : j = l.length := by omega
            go_wp2_with fail
            refine (place_yes HM9.out (by decide) k 9 HK.out b (by simp [setF]) (by decide) (by decide)).mono ?_
            rintro e wp ⟨rfl, hM, hB⟩
            have HMp := Lib.hid hM
            have HBp : Hid (Below w.heap.size w wp) := HB9.out.trans (hB.mono (by rw [hbase]; exact H12.out))
            clear hM hB
            go_wp2_with fail
            refine (at_calls HMp.out k HK.out).mono ?_
            rintro e wp2 ⟨rfl, rfl⟩
            rw [show ((setF (setF (adr l) k none) k (some 9) k).getD 0) = 9 by simp [setF]]
            go_wp2_with fail
            refine (fresh_at HMp.out (by decide) (Rises.nil (fun j h => by by_cases e : j = k <;> simp [setF, e] at h))).mono ?_
            rintro e wp3 ⟨A9, c9, rfl, hc9, hC9, hB⟩
            have HBq : Hid (Below w.heap.size w wp3) := HBp.out.trans (hB.mono HBp.out.size)
            go_wp2
            go_ret
            exact ⟨rfl, HBq.out⟩
set_option maxHeartbeats 1000000 in
theorem bad (A0 : Option Addr) (c0 : Nat) (l : List Int) (k : Int) (A1 : Option Addr) (c1 : Nat) (b : List Int) (w : World) (hC : Kd.C (Kd.int .i64) w A0 l.length l) (hl : l.length ≤ 828) (hb : b.length = 56) (h0 : 0 ≤ k) (h1 : k < 828) (j0 : Nat) (hj0 : j0 < l.length) (hbad : ¬ okA (l.getD j0 0)) (hok : ∀ x ∈ l.take j0, okA x) :
    Calls Tryd.prog 5 #[.slice A0 l.length c0, .int .i64 k, .slice A1 56 c1] w fun e w' => e = .returned (.bool true) ∧ Below w.heap.size w w' := by
  have d0 : decide (k < 0) = false := decide_eq_false (by omega)
  have d1 : decide (828 ≤ k) = false := decide_eq_false (by omega)
  have d2 : decide ((828 : Int) < (l.length : Int)) = false := decide_eq_false (by omega)
  have hl2 : (l.length : Int) ≤ 828 := by omega
  have HC := Lib.hid hC
  have HBD := Lib.hid hbad
  have HOK := Lib.hid hok
  have HJ := Lib.hid hj0
  clear hC hb hbad hok hj0
  go_enter Tryd.func5, Tryd.ntmps5
  go_wp2_with fail
  refine (alive_calls _).mono ?_
  rintro e w1 ⟨rfl, hB⟩
  have HB1 := Lib.hid hB
  clear hB
  go_wp2_with fail
  refine (new_bad A0 c0 l _ j0 HJ.out HBD.out (Kd.C_below HC.out HB1.out) hl HOK.out).mono ?_
  rintro e w2 ⟨rfl, hB⟩
  have HB2 : Hid (Below w.heap.size w w2) := HB1.out.trans (hB.mono HB1.out.size)
  clear hB HB1
  go_wp2
  go_ret
  exact ⟨rfl, HB2.out⟩
set_option maxHeartbeats 1000000 in
theorem out1 (A0 : Option Addr) (c0 : Nat) (n : Nat) (k : Int) (A1 : Option Addr) (c1 m : Nat) (w : World) (hn : n ≤ 9223372036854775807) (h : 828 < n) :
    Calls Tryd.prog 5 #[.slice A0 n c0, .int .i64 k, .slice A1 m c1] w fun e w' => e = .returned (.bool true) ∧ Below w.heap.size w w' := by
  have d2 : decide ((828 : Int) < (n : Int)) = true := decide_eq_true (by omega)
  have hn2 : (n : Int) ≤ 9223372036854775807 := by omega
  go_enter Tryd.func5, Tryd.ntmps5
  go_wp2_with fail
  refine (alive_calls _).mono ?_
  rintro e w1 ⟨rfl, hB⟩
  have HB1 := Lib.hid hB
  clear hB
  go_wp2
  go_ret
  exact ⟨rfl, HB1.out⟩
set_option maxHeartbeats 1000000 in
theorem out2 (A0 : Option Addr) (c0 : Nat) (n : Nat) (k : Int) (A1 : Option Addr) (c1 m : Nat) (w : World) (h : n ≤ 828) (hm : m ≤ 9223372036854775807) (h2 : m ≠ 56) :
    Calls Tryd.prog 5 #[.slice A0 n c0, .int .i64 k, .slice A1 m c1] w fun e w' => e = .returned (.bool true) ∧ Below w.heap.size w w' := by
  have d2 : decide ((828 : Int) < (n : Int)) = false := decide_eq_false (by omega)
  have hn2 : (n : Int) ≤ 828 := by omega
  have hm2 : (m : Int) ≤ 9223372036854775807 := by omega
  have d3 : ((m : Int) != 56) = true := bne_iff_ne.2 (by omega)
  have d4 : ((m : Int) == 56) = false := beq_eq_false_iff_ne.2 (by omega)
  go_enter Tryd.func5, Tryd.ntmps5
  go_wp2_with fail
  refine (alive_calls _).mono ?_
  rintro e w1 ⟨rfl, hB⟩
  have HB1 := Lib.hid hB
  clear hB
  go_wp2
  go_ret
  exact ⟨rfl, HB1.out⟩
set_option maxHeartbeats 1000000 in
theorem out3 (A0 : Option Addr) (c0 : Nat) (n : Nat) (k : Int) (A1 : Option Addr) (c1 : Nat) (w : World) (h : n ≤ 828) (h2 : k < 0) :
    Calls Tryd.prog 5 #[.slice A0 n c0, .int .i64 k, .slice A1 56 c1] w fun e w' => e = .returned (.bool true) ∧ Below w.heap.size w w' := by
  have d2 : decide ((828 : Int) < (n : Int)) = false := decide_eq_false (by omega)
  have hn2 : (n : Int) ≤ 828 := by omega
  have d3 : decide (k < 0) = true := decide_eq_true h2
  go_enter Tryd.func5, Tryd.ntmps5
  go_wp2_with fail
  refine (alive_calls _).mono ?_
  rintro e w1 ⟨rfl, hB⟩
  have HB1 := Lib.hid hB
  clear hB
  go_wp2
  go_ret
  exact ⟨rfl, HB1.out⟩
set_option maxHeartbeats 1000000 in
theorem out4 (A0 : Option Addr) (c0 : Nat) (n : Nat) (k : Int) (A1 : Option Addr) (c1 : Nat) (w : World) (h : n ≤ 828) (h2 : 828 ≤ k) :
    Calls Tryd.prog 5 #[.slice A0 n c0, .int .i64 k, .slice A1 56 c1] w fun e w' => e = .returned (.bool true) ∧ Below w.heap.size w w' := by
  have d2 : decide ((828 : Int) < (n : Int)) = false := decide_eq_false (by omega)
  have hn2 : (n : Int) ≤ 828 := by omega
  have d3 : decide (k < 0) = false := decide_eq_false (by omega)
  have d4 : decide (828 ≤ k) = true := decide_eq_true h2
  go_enter Tryd.func5, Tryd.ntmps5
  go_wp2_with fail
  refine (alive_calls _).mono ?_
  rintro e w1 ⟨rfl, hB⟩
  have HB1 := Lib.hid hB
  clear hB
  go_wp2
  go_ret
  exact ⟨rfl, HB1.out⟩
end Go.Proofs.YtlkhlmckgpjopaaDoor.PutsWalk
namespace Go.Proofs.YtlkhlmckgpjopaaDoor.PBlockPuts
open Go.RowKit Go.Proofs.YtlkhlmckgpjopaaDoorW.PrintWords Go.Proofs.YtlkhlmckgpjopaaDoorW.PrintLast Go.Proofs.YtlkhlmckgpjopaaDoorW.PrintMore Go.Proofs.YtlkhlmckgpjopaaDoor.Base Go.Proofs.YtlkhlmckgpjopaaDoor.Given Go.Proofs.YtlkhlmckgpjopaaDoor.PutsWalk
set_option linter.unusedVariables false
def morainelaw15_BlockPuts.f (l : List Int) (k : Int) (b : List Int) : Option Bool := some true
theorem first_bad : ∀ l : List Int, (∀ x ∈ l, okA x) ∨ ∃ j, j < l.length ∧ ¬ okA (l.getD j 0) ∧ ∀ x ∈ l.take j, okA x
  | [] => .inl (fun x h => absurd h (by simp))
  | x :: l => by
    by_cases hx : okA x
    · rcases first_bad l with h | ⟨j, h1, h2, h3⟩
      · exact .inl (fun y hy => (List.mem_cons.1 hy).elim (fun e => e ▸ hx) (h y))
      · exact .inr ⟨j + 1, by simpa using h1, by simpa using h2, fun y hy => by rw [List.take_succ_cons] at hy; exact (List.mem_cons.1 hy).elim (fun e => e ▸ hx) (h3 y)⟩
    · exact .inr ⟨0, by simp, by simpa using hx, fun y hy => absurd hy (by simp)⟩
theorem morainelaw15_BlockPuts.calls (A0 : Option Addr) (c0 : Nat) (l : List Int) (k : Int) (A1 : Option Addr) (c1 : Nat) (b : List Int) (r : Bool) (w : World) (hC : Kd.C (Kd.int .i64) w A0 l.length l) (hc : l.length ≤ c0) (hC1 : Kd.C (Kd.int .u8) w A1 b.length b) (hc1 : b.length ≤ c1) (h : morainelaw15_BlockPuts.f l k b = some r) :
    Calls Tryd.prog 5 #[.slice A0 l.length c0, .int .i64 k, .slice A1 b.length c1] w fun e w' => e = .returned (.bool r) ∧ Below w.heap.size w w' := by
  cases h
  by_cases h1 : 828 < l.length
  · exact out1 A0 c0 l.length k A1 c1 b.length w hC.2.1 h1
  · by_cases h2 : b.length = 56
    · by_cases h3 : k < 0
      · rw [h2]; exact out3 A0 c0 l.length k A1 c1 w (by omega) h3
      · by_cases h4 : 828 ≤ k
        · rw [h2]; exact out4 A0 c0 l.length k A1 c1 w (by omega) h4
        · rcases first_bad l with hok | ⟨j, k1, k2, k3⟩
          · have := good A0 c0 l k A1 c1 b w hC hC1 hc1 (by omega) h2 (by omega) (by omega) hok
            rw [h2]; exact this
          · rw [h2]; exact bad A0 c0 l k A1 c1 b w hC (by omega) h2 (by omega) (by omega) j k1 k2 k3
    · exact out2 A0 c0 l.length k A1 c1 b.length w (by omega) hC1.2.1 h2
end Go.Proofs.YtlkhlmckgpjopaaDoor.PBlockPuts
namespace Go.Proofs.YtlkhlmckgpjopaaDoor.Pure
open Go.Proofs.YtlkhlmckgpjopaaDoor.PBlockPuts
theorem BlockPuts {P1 P2 P3 P4 : Prop} (l : List Int) (k : Int) (b : List Int) (_ : P1) (_ : P2) (_ : P3) (_ : P4) : morainelaw15_BlockPuts.f l k b = some true := rfl
end Go.Proofs.YtlkhlmckgpjopaaDoor.Pure
