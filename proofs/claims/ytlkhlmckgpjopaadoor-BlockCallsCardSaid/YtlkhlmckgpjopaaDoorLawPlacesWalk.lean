/- The walk of BlockPlaces: by hand. -/
import Derived.Test.YtlkhlmckgpjopaaDoorGivPlaces
import Derived.Deep.RegionHeld3
import Derived.Deep.QuietTactic
import Derived.BigQuiet
namespace Go.Proofs.YtlkhlmckgpjopaaDoor.PlacesWalk
open Go.RowKit Go.Maps Go.Sort Go.Shelf Go.Proofs.YtlkhlmckgpjopaaDoorW.PrintWords Go.Proofs.YtlkhlmckgpjopaaDoorW.PrintLast Go.Proofs.YtlkhlmckgpjopaaDoorW.PrintMore Go.Proofs.YtlkhlmckgpjopaaDoor.Base Go.Proofs.YtlkhlmckgpjopaaDoor.Given
set_option linter.unusedVariables false
set_option linter.unusedSimpArgs false
theorem sameI_loop (x y : List Int) (hl : x.length = y.length) (hn : x.length ≤ 9223372036854775807) (d : Nat) : ∀ (k i : Nat), i + d = x.length → d < k →
    moraineref00_SameInts.l0 k x y (i : Int) = some (decide (x.drop i = y.drop i)) := by
  induction d with
  | zero =>
    intro k i hi hk
    obtain ⟨k, rfl⟩ : ∃ m, k = m + 1 := ⟨k - 1, by omega⟩
    simp only [moraineref00_SameInts.l0]
    rw [if_neg (by omega), List.drop_of_length_le (by omega), List.drop_of_length_le (by omega)]; simp
  | succ d ih =>
    intro k i hi hk
    obtain ⟨k, rfl⟩ : ∃ m, k = m + 1 := ⟨k - 1, by omega⟩
    simp only [moraineref00_SameInts.l0]
    rw [if_pos (by omega), if_pos (by omega), if_pos (by omega), rd_get (show i < x.length by omega), rd_get (show i < y.length by omega)]
    have ex : x.drop i = x[i] :: x.drop (i + 1) := List.drop_eq_getElem_cons (by omega)
    have ey : y.drop i = y[i] :: y.drop (i + 1) := List.drop_eq_getElem_cons (by omega)
    by_cases h : x[i] = y[i]
    · rw [if_pos h, w64 (by omega) (by omega)]
      have := ih k (i + 1) (by omega) (by omega)
      rw [show ((i : Int) + 1) = ((i + 1 : Nat) : Int) by omega, this]
      exact congrArg some (decide_eq_decide.2 ⟨fun e => by rw [ex, ey, h, e], fun e => by rw [ex, ey] at e; exact (List.cons.inj e).2⟩)
    · rw [if_neg h, decide_eq_false (fun e => by rw [ex, ey] at e; exact h (List.cons.inj e).1)]
theorem sameI_eq (x y : List Int) (hn : x.length ≤ 9223372036854775807) (k : Nat) (hk : x.length < k) : moraineref00_SameInts.f k x y = some (decide (x = y)) := by
  unfold moraineref00_SameInts.f
  by_cases hl : x.length = y.length
  · rw [if_pos (by omega)]
    have := sameI_loop x y hl hn x.length k 0 (by omega) hk
    simpa using this
  · rw [if_neg (by omega)]
    have : x ≠ y := fun e => hl (by rw [e])
    simp [this]
set_option maxHeartbeats 4000000 in
set_option maxRecDepth 100000 in
theorem good (A0 : Option Addr) (c0 : Nat) (l : List Int) (A1 : Option Addr) (c1 : Nat) (rs : List (List Int)) (w : World) (hC : Kd.C (Kd.int .i64) w A0 l.length l) (hC1 : Kd.C (Kd.slice 5 (Kd.int .u8)) w A1 rs.length rs) (hl : l.length ≤ 828) (hr : rs.length ≤ 100) (hok : ∀ x ∈ l, okA x) :
    Calls Tryd.prog 3 #[.slice A0 l.length c0, .slice A1 rs.length c1] w fun e w' => e = .returned (.bool true) ∧ Below w.heap.size w w' := by
  have d2 : decide ((828 : Int) < (l.length : Int)) = false := decide_eq_false (by omega)
  have d3 : decide ((100 : Int) < (rs.length : Int)) = false := decide_eq_false (by omega)
  have hl2 : (l.length : Int) ≤ 828 := by omega
  have hr2 : (rs.length : Int) ≤ 100 := by omega
  have HC := Lib.hid hC
  have HC1 := Lib.hid hC1
  have HOK := Lib.hid hok
  clear hC hC1 hok
  go_enter Tryd.func3, Tryd.ntmps3
  go_wp2_with fail
  refine (alive_calls _).mono ?_
  rintro e w1 ⟨rfl, hB⟩
  have HB1 := Lib.hid hB
  clear hB
  go_wp2_with fail
  refine (new_p A0 c0 l _ (Kd.C_below HC.out HB1.out) hl HOK.out).mono ?_
  rintro e w2 ⟨p, rfl, hM, hB⟩
  have HM2 := Lib.hid hM
  have HB2 : Hid (Below w.heap.size w w2) := HB1.out.trans (hB.mono HB1.out.size)
  have H12 : Hid (w.heap.size ≤ w1.heap.size) := HB1.out.size
  clear hM hB HB1
  go_wp2
  go_loopw [7] (fun i wr => ∃ (j : Nat) (a : Int → Option Int) (f : Int → Option (List Int)), j ≤ rs.length ∧ i = .int .i64 j ∧ Hid (Below w.heap.size w wr) ∧ Hid (BM wr w1.heap.size p (828 + j) a f) ∧ Apart a f) (fun i _ => (100 - intOf i).toNat)
  case atStart => exact ⟨0, _, _, by omega, rfl, HB2, HM2, Apart.start _⟩
  case round =>
    obtain ⟨j, a, f, hj, rfl, HB, HM, hap⟩ := hrel
    have HAP := Lib.hid hap
    clear hap
    rcases Nat.lt_or_ge j rs.length with hlt | hge
    · have hlt2 : (j : Int) < (rs.length : Int) := by omega
      obtain ⟨ad, A2, c2, rfl, hcell0, hb2, hC2⟩ := at_L1 HC1.out (j : Int) (by omega) hlt2
      obtain ⟨b, hb⟩ : ∃ b, rd_L1 rs (j : Int) = b := ⟨_, rfl⟩
      rw [hb] at hcell0 hb2 hC2
      rw [Int.toNat_natCast] at hcell0
      have hcell := pw_cell_below HB.out hcell0
      have HC2 := Lib.hid (Kd.C_below hC2 HB.out)
      have hmul : IntKind.i64.wrap (3 * (j : Int)) = 3 * (j : Int) := IntWalk.i64_in _ (by omega)
      clear hb hcell0 hC2
      by_cases h56 : b.length = 56
      · rw [h56] at hcell hb2
        have H56 := Lib.hid h56
        clear h56
        go_wp2_with fail
        refine (put_all HM.out (by omega) (3 * (j : Int)) (by omega) (by omega) A2 c2 b H56.out hb2 HC2.out).mono ?_
        rintro e w4 ⟨rfl, hM, hB⟩
        have HB4 : Hid (Below w.heap.size w w4) := HB.out.trans (hB.mono H12.out)
        have HM4 := Lib.hid hM
        clear hM hB
        go_wp2
        go_roundw
        case rel => exact ⟨j + 1, _, _, by omega, by simp, HB4, HM4, HAP.out.put _ (by omega) (by omega) _⟩
        case measure => simp [intOf]; omega
      · have hbn : b.length ≤ 9223372036854775807 := HC2.out.2.1
        go_wp2_with fail
        refine (put_bad2 p (3 * (j : Int)) A2 b.length c2 (by omega) (.inr (.inr h56))).mono ?_
        rintro e w4 ⟨rfl, rfl⟩
        go_wp2
        go_roundw
        case rel => exact ⟨j + 1, a, f, by omega, by simp, HB, HM.out.mono (by omega), HAP.out⟩
        case measure => simp [intOf]; omega
    · obtain rfl : j = rs.length := by omega
      clear hj hge
      obtain ⟨w3, rfl⟩ : ∃ z : World, z = wr := ⟨_, rfl⟩
      obtain ⟨base, hbase⟩ : ∃ z, z = w1.heap.size := ⟨_, rfl⟩
      rw [← hbase] at HM
      go_wp2_with fail
      refine (fresh_calls HM.out (by omega)).mono ?_
      rintro e w4 ⟨v, L, rfl, hL, hrow, hB⟩
      obtain ⟨A5, c5, rfl, hc5, hC5⟩ := int_slice hrow
      have HL := Lib.hid hL
      have hll : L.length ≤ 828 := by
        have := rising_short L 0 828 hL.up (fun x hx => HAP.out.bd x ((hL.mem x).1 hx)) (by decide)
        omega
      have HB4 : Hid (Below w.heap.size w w4) := HB.out.trans (hB.mono HB.out.size)
      have HM4 := Lib.hid (HM.out.below hB)
      have HC5 := Lib.hid hC5
      clear hL hrow hB hC5 HB HM
      go_wp2_with fail
      refine (there_calls HM4.out (by omega) HAP.out.no).mono ?_
      rintro e w5 ⟨v, M, rfl, hL, hrow, hB⟩
      obtain ⟨A6, c6, rfl, hc6, hC6⟩ := int_slice hrow
      have HLM := Lib.hid hL
      have HB5 : Hid (Below w.heap.size w w5) := HB4.out.trans (hB.mono HB4.out.size)
      have HM5 := Lib.hid (HM4.out.below hB)
      have HC6 := Lib.hid hC6
      have HC7 := Lib.hid (Kd.C_below HC5.out hB)
      have hmm : M.length ≤ 9223372036854775807 := hC6.2.1
      have H15 : Hid (base ≤ w5.heap.size) := by
        obtain ⟨bA, bF, DA, DF, mF, hq⟩ := HM5.out
        exact Nat.le_trans hq.bp (Nat.le_of_lt (blk_lt hq.hp))
      clear hL hrow hB hC6 HB4 HM4 HC5
      go_wp2
      have hL0 : L.length ≤ 828 := hll
      go_loopw [10] (fun i wr => ∃ (j : Nat) (a' : Int → Option Int) (f' : Int → Option (List Int)), j ≤ L.length ∧ i = .int .i64 j ∧ Hid (Below w.heap.size w wr) ∧ Hid (BM wr base p (928 + j) a' f') ∧ Hid (Placed L (fun k => a k ≠ none ∨ f k ≠ none) j a' f') ∧ Hid (Cells w5 wr)) (fun i _ => (828 - intOf i).toNat)
      case atStart => exact ⟨0, a, f, by omega, rfl, HB5, HM5.out.mono (by omega), ⟨fun k => by rw [List.drop_zero]; exact (HL.out.mem k).symm, fun j h => absurd h (by omega), fun k => Iff.rfl, HAP.out.no⟩, Cells.refl _⟩
      case round =>
        obtain ⟨j, a', f', hj, rfl, HB, HM, HP, HX⟩ := hrel
        rcases Nat.lt_or_ge j L.length with hlt | hge
        · have hlt2 : (j : Int) < (L.length : Int) := by omega
          have hll2 : (L.length : Int) ≤ 828 := by omega
          obtain ⟨g5, o5, rfl, hcell5⟩ := addr_of_C (HX.out.C HC7.out) (by omega)
          have hcj := hcell5 j hlt
          obtain ⟨x, hx⟩ : ∃ x, L.getD j 0 = x := ⟨_, rfl⟩
          have hxf : f' x ≠ none := (HP.out.fr x).2 (by rw [List.drop_eq_getElem_cons hlt, ← hx, show L.getD j 0 = L[j] by simp [hlt]]; exact List.mem_cons_self)
          have hxo : f x ≠ none := (HL.out.mem x).1 (by rw [← hx]; simp [hlt])
          have hxb := HAP.out.bd x hxo
          obtain ⟨r, hr⟩ : ∃ r, f' x = some r := Option.ne_none_iff_exists'.1 hxf
          rw [hx] at hcj
          have hadd : IntKind.i64.wrap (100 + (j : Int)) = 100 + (j : Int) := IntWalk.i64_in _ (by omega)
          have HX0 := Lib.hid hx
          have HR := Lib.hid hr
          have HW : Hid ((Lit.int .i64 x).wf = true) := wf_i hxb.1 (by omega)
          clear hcell5 hx hxf hxo hxb hr
          go_wp2_with fail
          refine (place_yesC HM.out (by omega) x (100 + (j : Int)) HW.out r HR.out (by omega) (by omega)).mono ?_
          rintro e w6 ⟨rfl, hM, hB, hX⟩
          have HM6 := Lib.hid hM
          have HB6 : Hid (Below w.heap.size w w6) := HB.out.trans (hB.mono (by rw [hbase]; exact H12.out))
          have HX6 : Hid (Cells w5 w6) := HX.out.trans hX
          have HP6 := Lib.hid (HP.out.step hlt HL.out.up)
          rw [HX0.out] at HP6
          clear hM hB hX
          go_wp2
          go_roundw
          case rel => exact ⟨j + 1, _, _, by omega, by simp, HB6, HM6, HP6, HX6⟩
          case measure => simp [intOf]; omega
        · obtain rfl : j = L.length := by omega
          clear hj hge
          obtain ⟨w6, rfl⟩ : ∃ z : World, z = wr := ⟨_, rfl⟩
          go_wp2
          go_loopw [11] (fun i wq => ∃ (j : Nat), j ≤ L.length ∧ i = .int .i64 j ∧ w6 = wq) (fun i _ => (828 - intOf i).toNat)
          case atStart => exact ⟨0, by omega, rfl, rfl⟩
          case round =>
            obtain ⟨j, hj, rfl, rfl⟩ := hrel
            rcases Nat.lt_or_ge j L.length with hlt | hge
            · have hlt2 : (j : Int) < (L.length : Int) := by omega
              have hll2 : (L.length : Int) ≤ 828 := by omega
              obtain ⟨g5, o5, rfl, hcell5⟩ := addr_of_C (HX.out.C HC7.out) (by omega)
              have hcj := hcell5 j hlt
              have hat := HP.out.at_ j hlt hlt
              obtain ⟨x, hx⟩ : ∃ x, L.getD j 0 = x := ⟨_, rfl⟩
              have hxo : f x ≠ none := (HL.out.mem x).1 (by rw [← hx]; simp [hlt])
              have hxb := HAP.out.bd x hxo
              rw [hx] at hcj hat
              have hadd : IntKind.i64.wrap (100 + (j : Int)) = 100 + (j : Int) := IntWalk.i64_in _ (by omega)
              have hne : ((100 + (j : Int)) != (100 + (j : Int))) = false := by simp
              have HAT : Hid ((a' x).getD 0 = 100 + (j : Int)) := by show _ = _; rw [hat]; rfl
              have HW : Hid ((Lit.int .i64 x).wf = true) := wf_i hxb.1 (by omega)
              clear hcell5 hx hxo hxb hat
              go_wp2_with fail
              refine (at_calls HM.out x HW.out).mono ?_
              rintro e w7 ⟨rfl, rfl⟩
              rw [HAT.out]
              go_wp2
              go_roundw
              case rel => first | exact ⟨j + 1, by omega, by simp, rfl⟩ | exact ⟨j + 1, by omega, by simp, trivial⟩ | exact ⟨⟨j + 1, by omega, by simp⟩, trivial⟩
              case measure => simp [intOf]; omega
            · obtain rfl : j = L.length := by omega
              have hfn : ∀ k, f' k = none := fun k => by
                by_cases h : f' k = none
                · exact h
                · have := (HP.out.fr k).1 h
                  rw [List.drop_length] at this
                  exact absurd this (by simp)
              go_wp2_with fail
              refine (fresh_at HM.out (by omega) (Rises.nil (fun k h => h (hfn k)))).mono ?_
              rintro e w7 ⟨A8, c8, rfl, hc8, hC8, hB⟩
              have HB7 : Hid (Below w.heap.size w w7) := HB.out.trans (hB.mono HB.out.size)
              have HM7 := Lib.hid (HM.out.below hB)
              have HC9 := Lib.hid (Kd.C_below (HX.out.C HC6.out) hB)
              clear hc8 hC8 hB
              go_wp2_with fail
              refine (there_at HM7.out (by omega) HP.out.no (M := M) ⟨HLM.out.up, fun x => (HLM.out.mem x).trans (HP.out.th x).symm⟩).mono ?_
              rintro e w8 ⟨A9, c9, rfl, hc9, hC9, hB⟩
              have HB8 : Hid (Below w.heap.size w w8) := HB7.out.trans (hB.mono HB7.out.size)
              have hsb := moraineref00_SameInts.calls (M.length + 1) A9 c9 M A6 c6 M true w8 hC9 hc9 (Kd.C_below HC9.out hB) hc6 (by rw [sameI_eq M M (by omega) _ (by omega)]; simp)
              have HSB := Lib.hid hsb
              clear hsb hC9 hB
              go_wp2_with fail
              refine HSB.out.mono ?_
              rintro e w9 ⟨rfl, ⟨nd, rfl⟩⟩
              go_wp2
              go_ret
              exact ⟨rfl, pw_below_drewN HB8.out nd⟩
set_option maxHeartbeats 1000000 in
theorem bad (A0 : Option Addr) (c0 : Nat) (l : List Int) (A1 : Option Addr) (n1 c1 : Nat) (w : World) (hC : Kd.C (Kd.int .i64) w A0 l.length l) (hl : l.length ≤ 828) (hn : n1 ≤ 100) (j0 : Nat) (hj0 : j0 < l.length) (hbad : ¬ okA (l.getD j0 0)) (hok : ∀ x ∈ l.take j0, okA x) :
    Calls Tryd.prog 3 #[.slice A0 l.length c0, .slice A1 n1 c1] w fun e w' => e = .returned (.bool true) ∧ Below w.heap.size w w' := by
  have d2 : decide ((828 : Int) < (l.length : Int)) = false := decide_eq_false (by omega)
  have d3 : decide ((100 : Int) < (n1 : Int)) = false := decide_eq_false (by omega)
  have hl2 : (l.length : Int) ≤ 828 := by omega
  have hn2 : (n1 : Int) ≤ 100 := by omega
  have HC := Lib.hid hC
  have HBD := Lib.hid hbad
  have HOK := Lib.hid hok
  have HJ := Lib.hid hj0
  clear hC hbad hok hj0
  go_enter Tryd.func3, Tryd.ntmps3
  go_wp2_with fail
  refine (alive_calls _).mono ?_
  rintro e w1 ⟨rfl, hB⟩
  have HB1 := Lib.hid hB
  clear hB
  go_wp2_with fail
  refine (new_bad A0 c0 l _ j0 HJ.out HBD.out (Kd.C_below HC.out HB1.out) hl HOK.out).mono ?_
  rintro e w2 ⟨rfl, hB⟩
  have HB2 : Hid (Below w.heap.size w w2) := HB1.out.trans (hB.mono HB1.out.size)
  clear hB HB1
  go_wp2
  go_ret
  exact ⟨rfl, HB2.out⟩
set_option maxHeartbeats 1000000 in
theorem out1 (A0 : Option Addr) (c0 n : Nat) (A1 : Option Addr) (c1 m : Nat) (w : World) (hn : n ≤ 9223372036854775807) (h : 828 < n) :
    Calls Tryd.prog 3 #[.slice A0 n c0, .slice A1 m c1] w fun e w' => e = .returned (.bool true) ∧ Below w.heap.size w w' := by
  have d2 : decide ((828 : Int) < (n : Int)) = true := decide_eq_true (by omega)
  have hn2 : (n : Int) ≤ 9223372036854775807 := by omega
  go_enter Tryd.func3, Tryd.ntmps3
  go_wp2_with fail
  refine (alive_calls _).mono ?_
  rintro e w1 ⟨rfl, hB⟩
  have HB1 := Lib.hid hB
  clear hB
  go_wp2
  go_ret
  exact ⟨rfl, HB1.out⟩
set_option maxHeartbeats 1000000 in
theorem out2 (A0 : Option Addr) (c0 n : Nat) (A1 : Option Addr) (c1 m : Nat) (w : World) (hn : n ≤ 828) (hm : m ≤ 9223372036854775807) (h : 100 < m) :
    Calls Tryd.prog 3 #[.slice A0 n c0, .slice A1 m c1] w fun e w' => e = .returned (.bool true) ∧ Below w.heap.size w w' := by
  have d2 : decide ((828 : Int) < (n : Int)) = false := decide_eq_false (by omega)
  have d3 : decide ((100 : Int) < (m : Int)) = true := decide_eq_true (by omega)
  have hn2 : (n : Int) ≤ 828 := by omega
  have hm2 : (m : Int) ≤ 9223372036854775807 := by omega
  go_enter Tryd.func3, Tryd.ntmps3
  go_wp2_with fail
  refine (alive_calls _).mono ?_
  rintro e w1 ⟨rfl, hB⟩
  have HB1 := Lib.hid hB
  clear hB
  go_wp2
  go_ret
  exact ⟨rfl, HB1.out⟩
end Go.Proofs.YtlkhlmckgpjopaaDoor.PlacesWalk
namespace Go.Proofs.YtlkhlmckgpjopaaDoor.PBlockPlaces
open Go.RowKit Go.Proofs.YtlkhlmckgpjopaaDoorW.PrintWords Go.Proofs.YtlkhlmckgpjopaaDoorW.PrintLast Go.Proofs.YtlkhlmckgpjopaaDoorW.PrintMore Go.Proofs.YtlkhlmckgpjopaaDoor.Base Go.Proofs.YtlkhlmckgpjopaaDoor.Given Go.Proofs.YtlkhlmckgpjopaaDoor.PlacesWalk
set_option linter.unusedVariables false
def morainelaw15_BlockPlaces.f (l : List Int) (rs : List (List Int)) : Option Bool := some true
theorem first_bad : ∀ l : List Int, (∀ x ∈ l, okA x) ∨ ∃ j, j < l.length ∧ ¬ okA (l.getD j 0) ∧ ∀ x ∈ l.take j, okA x
  | [] => .inl (fun x h => absurd h (by simp))
  | x :: l => by
    by_cases hx : okA x
    · rcases first_bad l with h | ⟨j, h1, h2, h3⟩
      · exact .inl (fun y hy => (List.mem_cons.1 hy).elim (fun e => e ▸ hx) (h y))
      · exact .inr ⟨j + 1, by simpa using h1, by simpa using h2, fun y hy => by rw [List.take_succ_cons] at hy; exact (List.mem_cons.1 hy).elim (fun e => e ▸ hx) (h3 y)⟩
    · exact .inr ⟨0, by simp, by simpa using hx, fun y hy => absurd hy (by simp)⟩
theorem morainelaw15_BlockPlaces.calls (A0 : Option Addr) (c0 : Nat) (l : List Int) (A1 : Option Addr) (c1 : Nat) (rs : List (List Int)) (r : Bool) (w : World) (hC : Kd.C (Kd.int .i64) w A0 l.length l) (hc : l.length ≤ c0) (hC1 : Kd.C (Kd.slice 5 (Kd.int .u8)) w A1 rs.length rs) (hc1 : rs.length ≤ c1) (h : morainelaw15_BlockPlaces.f l rs = some r) :
    Calls Tryd.prog 3 #[.slice A0 l.length c0, .slice A1 rs.length c1] w fun e w' => e = .returned (.bool r) ∧ Below w.heap.size w w' := by
  cases h
  by_cases h1 : 828 < l.length
  · exact out1 A0 c0 l.length A1 c1 rs.length w hC.2.1 h1
  · by_cases h2 : 100 < rs.length
    · exact out2 A0 c0 l.length A1 c1 rs.length w (by omega) hC1.2.1 h2
    · rcases first_bad l with hok | ⟨j, k1, k2, k3⟩
      · exact good A0 c0 l A1 c1 rs w hC hC1 (by omega) (by omega) hok
      · exact bad A0 c0 l A1 rs.length c1 w hC (by omega) (by omega) j k1 k2 k3
end Go.Proofs.YtlkhlmckgpjopaaDoor.PBlockPlaces
namespace Go.Proofs.YtlkhlmckgpjopaaDoor.Pure
open Go.Proofs.YtlkhlmckgpjopaaDoor.PBlockPlaces
theorem BlockPlaces {P1 P2 P3 : Prop} (l : List Int) (rs : List (List Int)) (_ : P1) (_ : P2) (_ : P3) : morainelaw15_BlockPlaces.f l rs = some true := rfl
end Go.Proofs.YtlkhlmckgpjopaaDoor.Pure
