/- The walk of FileClones: by hand (genclones17.py). -/
import Derived.Test.YthahdombnmkokaaDoorLawPartsW17
namespace Go.Proofs.YthahdombnmkokaaDoor.ClonesW17
open Go.RowKit Go.Maps Go.Sort Go.Shelf Go.Proofs.YthahdombnmkokaaDoorW.PrintWords Go.Proofs.YthahdombnmkokaaDoorW.PrintLast Go.Proofs.YthahdombnmkokaaDoorW.PrintMore Go.Proofs.YthahdombnmkokaaDoor.Base Go.Proofs.YthahdombnmkokaaDoor.Given
set_option linter.unusedVariables false
set_option linter.unusedSimpArgs false
theorem got_eq (c : Nat → Int) (at0 n : Nat) (D : List Int) (n2 X Y : Nat) (h2 : n2 = if D.length = 0 then n else max n (at0 + D.length)) (hX : X = min at0 n2) (hY : Y = min D.length (n2 - X)) : listC (wrC c at0 D) X Y = D := by
  rcases Nat.eq_zero_or_pos D.length with h | h
  · obtain rfl : D = [] := List.eq_nil_of_length_eq_zero h
    have : Y = 0 := by simp at hY; omega
    rw [this]
    rfl
  · rw [if_neg (by omega)] at h2
    have e1 : X = at0 := by omega
    have e2 : Y = D.length := by omega
    rw [e1, e2]
    refine List.ext_getElem (by rw [listC_len]) fun i h3 h4 => ?_
    have h5 := listC_get (wrC c at0 D) at0 D.length i h4
    rw [List.getD_eq_getElem?_getD, List.getElem?_eq_getElem h3] at h5
    have h5 : (listC (wrC c at0 D) at0 D.length)[i] = wrC c at0 D (at0 + i) := h5
    rw [h5]
    unfold wrC
    rw [if_pos (by omega), show at0 + i - at0 = i by omega, List.getD_eq_getElem?_getD, List.getElem?_eq_getElem h4]
    rfl
set_option maxRecDepth 100000 in
set_option maxHeartbeats 8000000 in
theorem walk {qt : TypeId} (A0 : Option Addr) (c0 : Nat) (t : List Rec3) (at_ : Int) (A1 : Option Addr) (c1 : Nat) (DD : List Int) (w : World) (hC : Kd.C (kRec qt .u8) w A0 t.length t) (hc : t.length ≤ c0) (hs : t.length ≤ 140737488351232) (hb : ∀ r ∈ t, r.2.2.2.length ≤ 140737488351232) (hC1 : Kd.C (Kd.int .u8) w A1 DD.length DD) (hc1 : DD.length ≤ c1) (hs1 : DD.length ≤ 140737488351232) :
    Calls Tryd.prog 6 #[.slice A0 t.length c0, .int .i64 at_, .slice A1 DD.length c1] w fun e w' => e = .returned (.bool true) ∧ Below w.heap.size w w' := by
  obtain ⟨b1, d1⟩ : ∃ b, decide (at_ < 0) = b := ⟨_, rfl⟩
  obtain ⟨b2, d2⟩ : ∃ b, decide (3000 < at_) = b := ⟨_, rfl⟩
  obtain ⟨b3, d3⟩ : ∃ b, decide (3000 < (DD.length : Int)) = b := ⟨_, rfl⟩
  have HC := Lib.hid hC
  have HS := Lib.hid hs
  have HBB := Lib.hid hb
  have HD := Lib.hid hC1
  have HDC := Lib.hid hc1
  have HDS := Lib.hid hs1
  have hl2 : (t.length : Int) ≤ 140737488351232 := by omega
  have hl4 : (DD.length : Int) ≤ 140737488351232 := by omega
  clear hC hs hb hC1 hc1 hs1
  go_enter Tryd.func6, Tryd.ntmps6
  go_wp2_with fail
  refine (alive_calls _).mono ?_
  rintro e w1 ⟨rfl, hB⟩
  have HB1 := Lib.hid hB
  have HC1 := Lib.hid (Kd.C_below HC.out hB)
  clear hB
  go_wp2_with fail
  refine (great_nil A0 c0 t w1 HC1.out HS.out HBB.out).mono ?_
  rintro e w2 ⟨g, rfl, hg, hB⟩
  have HB2 : Hid (Below w.heap.size w w2) := HB1.out.trans (hB.mono HB1.out.size)
  have HG := Lib.hid hg
  clear hg hB HC1
  cases g with
  | true =>
    go_wp2
    go_ret
    exact ⟨rfl, HB2.out⟩
  | false =>
    cases b1 with
    | true =>
      go_wp2
      go_ret
      exact ⟨rfl, HB2.out⟩
    | false =>
      cases b2 with
      | true =>
        go_wp2
        go_ret
        exact ⟨rfl, HB2.out⟩
      | false =>
        cases b3 with
        | true =>
          go_wp2
          go_ret
          exact ⟨rfl, HB2.out⟩
        | false =>
          have HGG := Lib.hid (HG.out rfl)
          clear HG
          have hat0 : 0 ≤ at_ := by have := of_decide_eq_false d1; omega
          have hat1 : at_ ≤ 3000 := by have := of_decide_eq_false d2; omega
          have hl5 : (DD.length : Int) ≤ 3000 := by have := of_decide_eq_false d3; omega
          obtain ⟨at0, rfl⟩ : ∃ k : Nat, at_ = (k : Int) := ⟨at_.toNat, by omega⟩
          clear hat0 hl4
          go_wp2_with fail
          refine (fnew_S _ _).mono ?_
          rintro e w3 ⟨q, p, bA, bF, rfl, hS, g1, g2, g3, g4, hB⟩
          have HB3 : Hid (Below w.heap.size w w3) := (HB2.out.alloc HB2.out.size _).trans (hB.mono (by have := HB2.out.size; simp; omega))
          have HS3 := Lib.hid hS
          have HQ : Hid (w.heap.size ≤ q ∧ w.heap.size ≤ bA ∧ w.heap.size ≤ bF) := by have := HB2.out.size; simp at g1 g3 g4; show _ ∧ _; omega
          clear hS g1 g2 g3 g4 hB
          go_wp2
          go_loopw [9] (fun i wr => ∃ (j n : Nat) (c : Nat → Int), j ≤ t.length ∧ i = .int .i64 j ∧ Hid (FS wr q p bA bF (828 + 829 * j) n c (.iface 29 (.pointer (some ⟨w2.heap.size, 0, none⟩)))) ∧ Hid (Below w.heap.size w wr)) (fun i _ => (1000 - intOf i).toNat)
          case atStart => exact ⟨0, 0, _, by omega, rfl, HS3, HB3⟩
          case round =>
            clear HS3 HB3 HB1 HB2
            obtain ⟨j, n, c, hj, rfl, HSr, HB⟩ := hrel
            have hl3 : (t.length : Int) ≤ 60 := by have := HGG.out.1; omega
            rcases Nat.lt_or_ge j t.length with hlt | hge
            · have hlt2 : (j : Int) < (t.length : Int) := by omega
              obtain ⟨g0, o0, rfl, hcell⟩ := rec_of_C HC.out (by omega)
              have hjl := List.getElem?_eq_getElem hlt
              obtain ⟨r, hr⟩ : ∃ r, t[j] = r := ⟨_, rfl⟩
              rw [hr] at hjl
              have hrm : r ∈ t := hr ▸ List.getElem_mem hlt
              obtain ⟨Ad, cd, k0, k1, k2, k3, k4, k5⟩ := hcell j r hjl
              have e0 := pw_cell_below HB.out k0
              have f1 := pw_cell_below (below_drew HB.out) k1
              have e2 := pw_cell_below HB.out k2
              have f3 := pw_cell_below (below_drew HB.out) k3
              have HK0 := Lib.hid k0
              have HK1 := Lib.hid k1
              have HK3 := Lib.hid k3
              have HSd := Lib.hid (HSr.out.below (below_drew (Below.refl wr.heap.size wr)))
              have HBd := Lib.hid (below_drew HB.out)
              have HCd := Lib.hid (Kd.C_below k5 HBd.out)
              have HLD := Lib.hid k4
              have HLD2 := Lib.hid (HGG.out.2 r hrm)
              have HLT := Lib.hid hlt
              obtain ⟨x0, h0⟩ : ∃ x, r.1 = x := ⟨_, rfl⟩
              obtain ⟨x1, h1⟩ : ∃ x, r.2.1 = x := ⟨_, rfl⟩
              obtain ⟨x2, h2⟩ : ∃ x, r.2.2.1 = x := ⟨_, rfl⟩
              obtain ⟨D, h3⟩ : ∃ x, r.2.2.2 = x := ⟨_, rfl⟩
              rw [h0] at e0 HK0
              rw [h1] at f1 HK1
              rw [h2] at e2
              rw [h3] at f3 HK3 HCd HLD HLD2
              clear hcell hjl hr hrm k0 k1 k2 k3 k4 k5 h0 h1 h2 h3 hlt
              by_cases w1_ : x0 = 1
              · subst w1_
                go_wp2_with fail
                go_region_held3 (fun w' => w'.cell? ⟨g0, o0 + j * 4 + 1, none⟩ = some (.int .i64 x1) ∧ w'.cell? ⟨g0, o0 + j * 4 + 3, none⟩ = some (.slice Ad D.length cd)) (first | exact ⟨f1, f3⟩ | exact ⟨f51, f53⟩ | go_keep) (first | (go_at_call 10; refine (write_S HSd.out (by omega) x1 Ad cd D HCd.out HLD.out (by have := HLD2.out; omega)).mono ?_; rintro e w5 hW; obtain ⟨rr, n5, c5, rfl, hft, hs5⟩ := hW.any HSd.out; have HS5 := Lib.hid hs5; have HB5 := Lib.hid (hft.under HBd.out HQ.out); have f50 := pw_cell_below HB5.out HK0.out; have f51 := pw_cell_below HB5.out HK1.out; have f53 := pw_cell_below HB5.out HK3.out; clear hW hft hs5))
                all_goals
                  go_wp2
                  go_roundw
                  case rel => exact ⟨j + 1, n5, c5, HLT.out, by go_num, HS5.out.mono (by omega), HB5⟩
                  case measure => simp [intOf]; omega
              · have z1 : (x0 == 1) = false := beq_eq_false_iff_ne.2 w1_
                clear w1_
                go_wp2
                go_roundw
                case rel => exact ⟨j + 1, n, c, HLT.out, by go_num, HSr.out.mono (by omega), HB⟩
                case measure => simp [intOf]; omega
            · obtain rfl : j = t.length := by omega
              have HLn := Lib.hid HSr.out.le
              have HDw := Lib.hid (Kd.C_below HD.out HB.out)
              go_wp2_with fail
              refine (read_S HSr.out 0 100000 (by omega) (by omega) 0 n (by omega) (by have := HLn.out; omega)).mono ?_
              rintro e w4 ⟨A4, c4, rfl, hc4, hC4, hB⟩
              have HS4 := Lib.hid (HSr.out.below hB)
              have HB4 : Hid (Below w.heap.size w w4) := HB.out.trans (hB.mono HB.out.size)
              have HD4 := Lib.hid (Kd.C_below HDw.out hB)
              obtain ⟨LA, hLA⟩ : ∃ L, L = listC c 0 n := ⟨_, rfl⟩
              have hn : LA.length = n := by rw [hLA, listC_len]
              subst hn
              have HLA := Lib.hid hLA
              rw [← HLA.out] at hC4 hc4 ⊢
              have HC4 := Lib.hid hC4
              have HCC4 := Lib.hid hc4
              have hLl : (LA.length : Int) ≤ 46368 := by have := HLn.out; omega
              clear hC4 hc4 hB hLA HSr HDw
              go_wp2_with fail
              refine (fclone_S HS4.out (by omega)).mono ?_
              rintro e w5 ⟨q2, p2, bA2, bF2, rfl, hS5, hB, g1, g2, g3⟩
              have HS5 := Lib.hid (HS4.out.below hB)
              have HT5 := Lib.hid hS5
              have HB5 : Hid (Below w.heap.size w w5) := HB4.out.trans (hB.mono HB4.out.size)
              have HC5 := Lib.hid (Kd.C_below HC4.out hB)
              have HD5 := Lib.hid (Kd.C_below HD4.out hB)
              have hlt4 := HS4.out.lt
              have HNE : Hid (q ≠ q2 ∧ ¬ S3 q2 bA2 bF2 bA ∧ ¬ S3 q2 bA2 bF2 bF ∧ w.heap.size ≤ q2 ∧ w.heap.size ≤ bA2 ∧ w.heap.size ≤ bF2) := by
                have hz := HB4.out.size
                have hqb : q ≠ bA2 ∧ q ≠ bF2 := by omega
                refine ⟨by omega, ?_, ?_, by omega, by omega, by omega⟩
                · rintro (h | h | h) <;> omega
                · rintro (h | h | h) <;> omega
              have HNE2 : Hid (q2 ≠ q ∧ ¬ S3 q bA bF bA2 ∧ ¬ S3 q bA bF bF2) := by
                refine ⟨by omega, ?_, ?_⟩
                · rintro (h | h | h) <;> omega
                · rintro (h | h | h) <;> omega
              clear hS5 hB g1 g2 g3 hlt4 HS4 HC4 HD4
              go_wp2_with fail
              refine (write_S HT5.out (by omega) (at0 : Int) A1 c1 DD HD5.out HDC.out (by have := HDS.out; omega)).mono ?_
              rintro e w6 (⟨hbad, _, _⟩ | ⟨_, _, rfl, hft, hs⟩)
              · exact absurd hbad (by omega)
              have HS6 := Lib.hid (hft.fs HT5.out HS5.out HNE.out.1 HNE.out.2.1 HNE.out.2.2.1)
              have HT6 := Lib.hid hs
              have HB6 := Lib.hid (hft.under HB5.out HNE.out.2.2.2)
              have HC6 := Lib.hid (hft.c8 HC5.out)
              have HD6 := Lib.hid (hft.c8 HD5.out)
              clear hft hs HS5 HT5 HC5 HD5
              go_wp2_with fail
              refine (read_S HS6.out 0 100000 (by omega) (by omega) 0 LA.length (by omega) (by omega)).mono ?_
              rintro e w7 ⟨A7, c7, rfl, hc7, hC7, hB⟩
              rw [← HLA.out] at hC7 hc7 ⊢
              have HS7 := Lib.hid (HS6.out.below hB)
              have HT7 := Lib.hid (HT6.out.below hB)
              have HB7 : Hid (Below w.heap.size w w7) := HB6.out.trans (hB.mono HB6.out.size)
              have HC67 := Lib.hid (Kd.C_below HC6.out hB)
              have HD7 := Lib.hid (Kd.C_below HD6.out hB)
              have HC7 := Lib.hid hC7
              have HCC7 := Lib.hid hc7
              clear hC7 hc7 hB HS6 HT6 HC6 HD6
              go_wp2_with fail
              refine (sameB_at A4 c4 A7 c7 LA w7 (by omega) HC67.out HCC4.out HC7.out HCC7.out).mono ?_
              rintro e w8 ⟨rfl, hB⟩
              have HS8 := Lib.hid (HS7.out.below hB)
              have HT8 := Lib.hid (HT7.out.below hB)
              have HB8 : Hid (Below w.heap.size w w8) := HB7.out.trans (hB.mono HB7.out.size)
              have HD8 := Lib.hid (Kd.C_below HD7.out hB)
              clear hB HS7 HT7 HC7 HD7
              go_wp2_with fail
              refine (size_S HS8.out).mono ?_
              rintro e w9 ⟨rfl, rfl⟩
              go_wp2_with fail
              refine (trunc_S HS8.out (by omega) 0).mono ?_
              rintro e w9 (⟨hbad, _, _⟩ | ⟨_, _, rfl, hft, hs⟩)
              · exact absurd hbad (by omega)
              have HT9 := Lib.hid (hft.fs HS8.out HT8.out HNE2.out.1 HNE2.out.2.1 HNE2.out.2.2)
              have HB9 := Lib.hid (hft.under HB8.out HQ.out)
              have HD9 := Lib.hid (hft.c8 HD8.out)
              clear hft hs HS8 HT8 HD8
              rw [Int.toNat_natCast] at HT9
              obtain ⟨n2, hn2⟩ : ∃ X, X = if DD.length = 0 then LA.length else max LA.length (at0 + DD.length) := ⟨_, rfl⟩
              rw [← hn2] at HT9
              obtain ⟨X, hX⟩ : ∃ X, X = min at0 n2 := ⟨_, rfl⟩
              obtain ⟨Y, hY⟩ : ∃ Y, Y = min DD.length (n2 - X) := ⟨_, rfl⟩
              have HGE : Hid (listC (wrC c at0 DD) X Y = DD) := got_eq c at0 LA.length DD n2 X Y hn2 hX hY
              have HX := Lib.hid hX
              have HY := Lib.hid hY
              clear hn2 hX hY
              go_wp2_with fail
              refine (read_S HT9.out at0 DD.length (by omega) (by omega) X Y HX.out HY.out).mono ?_
              rintro e wa ⟨Aa, ca, rfl, hca, hCa, hB⟩
              rw [HGE.out] at hca hCa ⊢
              have HBa : Hid (Below w.heap.size w wa) := HB9.out.trans (hB.mono HB9.out.size)
              have HDa := Lib.hid (Kd.C_below HD9.out hB)
              have HCa := Lib.hid hCa
              have HCCa := Lib.hid hca
              clear hca hCa hB
              go_wp2_with fail
              refine (sameB_at Aa ca A1 c1 DD wa (by omega) HCa.out HCCa.out HDa.out HDC.out).mono ?_
              rintro e wb ⟨rfl, hB⟩
              have HBb : Hid (Below w.heap.size w wb) := HBa.out.trans (hB.mono HBa.out.size)
              clear hB
              go_wp2
              go_ret
              exact ⟨rfl, HBb.out⟩
end Go.Proofs.YthahdombnmkokaaDoor.ClonesW17
namespace Go.Proofs.YthahdombnmkokaaDoor.PFileClones
open Go.RowKit Go.Proofs.YthahdombnmkokaaDoorW.PrintWords Go.Proofs.YthahdombnmkokaaDoorW.PrintLast Go.Proofs.YthahdombnmkokaaDoorW.PrintMore Go.Proofs.YthahdombnmkokaaDoor.Base Go.Proofs.YthahdombnmkokaaDoor.Given
set_option linter.unusedVariables false
def Fits (t : List Rec3) (D : List Int) : Prop := t.length ≤ 140737488351232 ∧ (∀ r ∈ t, r.2.2.2.length ≤ 140737488351232) ∧ D.length ≤ 140737488351232
noncomputable def morainelaw17_FileClones.f (t : List Rec3) (_ : Int) (D : List Int) : Option Bool := @ite _ (Fits t D) (Classical.propDecidable _) (some true) none
theorem morainelaw17_FileClones.calls {q : TypeId} (A0 : Option Addr) (c0 : Nat) (t : List Rec3) (a : Int) (A1 : Option Addr) (c1 : Nat) (D : List Int) (r : Bool) (w : World) (hC : Kd.C (kRec q .u8) w A0 t.length t) (hc : t.length ≤ c0) (hC1 : Kd.C (Kd.int .u8) w A1 D.length D) (hc1 : D.length ≤ c1) (h : morainelaw17_FileClones.f t a D = some r) :
    Calls Tryd.prog 6 #[.slice A0 t.length c0, .int .i64 a, .slice A1 D.length c1] w fun e w' => e = .returned (.bool r) ∧ Below w.heap.size w w' := by
  unfold morainelaw17_FileClones.f at h
  by_cases hf : Fits t D
  · rw [if_pos hf] at h
    cases h
    exact ClonesW17.walk A0 c0 t a A1 c1 D w hC hc hf.1 hf.2.1 hC1 hc1 hf.2.2
  · rw [if_neg hf] at h
    cases h
end Go.Proofs.YthahdombnmkokaaDoor.PFileClones
namespace Go.Proofs.YthahdombnmkokaaDoor.Pure
open Go.Proofs.YthahdombnmkokaaDoor.PFileClones Go.Proofs.YthahdombnmkokaaDoor.Given
set_option linter.unusedVariables false
theorem FileClones {P1 P2 : Prop} (t : List Rec3) (a : Int) (D : List Int) (h2 : t.length ≤ 140737488351232) (h3 : ∀ r ∈ t, r.2.2.2.length ≤ 140737488351232) (h4 : ∀ r ∈ t, (Lit.int .i64 r.1).wf = true ∧ (Lit.int .i64 r.2.1).wf = true ∧ (Lit.int .i64 r.2.2.1).wf = true ∧ ∀ z ∈ r.2.2.2, (Lit.int .u8 z).wf = true) (_ : P1) (_ : P2) (h5 : D.length ≤ 140737488351232) : morainelaw17_FileClones.f t a D = some true :=
  if_pos ⟨h2, h3, h5⟩
end Go.Proofs.YthahdombnmkokaaDoor.Pure
