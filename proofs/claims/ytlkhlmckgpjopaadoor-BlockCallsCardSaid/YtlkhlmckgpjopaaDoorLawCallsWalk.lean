/- The walk of BlockCalls: by hand. -/
import Derived.Test.YtlkhlmckgpjopaaDoorSames
import Derived.Test.YtlkhlmckgpjopaaDoorLawMovesWalk
namespace Go.Proofs.YtlkhlmckgpjopaaDoor.CallsWalk
open Go.RowKit Go.Maps Go.Sort Go.Shelf Go.Proofs.YtlkhlmckgpjopaaDoorW.PrintWords Go.Proofs.YtlkhlmckgpjopaaDoorW.PrintLast Go.Proofs.YtlkhlmckgpjopaaDoorW.PrintMore Go.Proofs.YtlkhlmckgpjopaaDoor.Base Go.Proofs.YtlkhlmckgpjopaaDoor.Given
set_option linter.unusedVariables false
set_option linter.unusedSimpArgs false
def GoodL (l : List Int) : Prop := l.length ≤ 828 ∧ ∀ x ∈ l, okA x
theorem new_nil (A : Option Addr) (c : Nat) (l : List Int) (w : World) (hC : Kd.C (Kd.int .i64) w A l.length l) (hl : l.length ≤ 2000) (hno : ¬ GoodL l) :
    Calls Tryd.prog 9 #[.slice A l.length c] w fun e w' => e = .returned (.tuple #[.pointer none, .int .i64 28]) ∧ Below w.heap.size w w' := by
  by_cases h : 828 < l.length
  · exact new_many A l.length c w h (by omega)
  · rcases PBlockMoves.first_bad l with hok | ⟨j, k1, k2, k3⟩
    · exact absurd ⟨by omega, hok⟩ hno
    · exact new_bad A c l w j k1 k2 hC (by omega) k3
theorem rnew_nil (A : Option Addr) (c : Nat) (l : List Int) (w : World) (hC : Kd.C (Kd.int .i64) w A l.length l) (hl : l.length ≤ 2000) (hno : ¬ GoodL l) :
    Calls Tryd.prog 22 #[.slice A l.length c] w fun e w' => e = .returned (.tuple #[.pointer none, .int .i64 28]) ∧ Below w.heap.size w w' := by
  by_cases h : 828 < l.length
  · exact rnew_many A l.length c w h (by omega)
  · rcases PBlockMoves.first_bad l with hok | ⟨j, k1, k2, k3⟩
    · exact absurd ⟨by omega, hok⟩ hno
    · exact rnew_bad A c l w j k1 k2 k3 hC (by omega)
theorem inv_adr (l : List Int) (h : GoodL l) : Inv (adr l) (fun _ => none) := by
  have hin : ∀ k v, adr l k = some v → 0 ≤ k ∧ k < 828 ∧ 1 ≤ v ∧ v ≤ 65535 := by
    intro k v hk
    unfold adr at hk
    by_cases e : 0 ≤ k ∧ l.getD k.toNat 0 ≠ 0
    · rw [if_pos e] at hk
      have hv := Option.some.inj hk
      have hlt : k.toNat < l.length := by
        by_cases q : k.toNat < l.length
        · exact q
        · exact absurd (by rw [List.getD_eq_getElem?_getD, List.getElem?_eq_none (by omega)]; rfl) e.2
      have hok := h.2 _ (List.getElem_mem hlt)
      have e2 : l.getD k.toNat 0 = l[k.toNat] := by rw [List.getD_eq_getElem?_getD, List.getElem?_eq_getElem hlt]; rfl
      have hz := e.2
      rw [e2] at hv hz
      unfold okA at hok
      have := h.1
      omega
    · rw [if_neg e] at hk; cases hk
  refine ⟨fun k hk => ?_, fun k hk => absurd rfl hk, fun k v hk => ?_, fun k hk => absurd rfl hk⟩
  · cases hq : adr l k with
    | none => exact absurd hq hk
    | some v => have := hin k v hq; omega
  · have := hin k v hk; omega
theorem copyI_eq (b : List Int) (h : b.length ≤ 1000000) : moraineref00_CopyInts.f b = some b := by
  unfold moraineref00_CopyInts.f
  simp
  omega
set_option maxRecDepth 100000 in
set_option maxHeartbeats 8000000 in
theorem many {q : TypeId} (A0 : Option Addr) (c0 : Nat) (l : List Int) (A1 : Option Addr) (c1 : Nat) (t : List Rec3) (w : World) (hC0 : Kd.C (Kd.int .i64) w A0 l.length l) (hc0 : l.length ≤ c0) (hs0 : l.length ≤ 140737488351232) (hC1 : Kd.C (kRec q .u8) w A1 t.length t) (hs1 : t.length ≤ 140737488351232) (hb1 : ∀ r ∈ t, r.2.2.2.length ≤ 140737488351232) (h : 2000 < l.length) :
    Calls Tryd.prog 7 #[.slice A0 l.length c0, .slice A1 t.length c1] w fun e w' => e = .returned (.bool true) ∧ Below w.heap.size w w' := by
  have d0 : decide ((2000 : Int) < (l.length : Int)) = true := decide_eq_true (by omega)
  have hl2 : (l.length : Int) ≤ 140737488351232 := by omega
  have HC0 := Lib.hid hC0
  have HC1 := Lib.hid hC1
  have HS1 := Lib.hid hs1
  have HBT := Lib.hid hb1
  have HCC := Lib.hid hc0
  clear hC0 hC1 hb1 hc0 hs1
  go_enter Tryd.func7, Tryd.ntmps7
  go_wp2_with fail
  refine (alive_calls _).mono ?_
  rintro e w1 ⟨rfl, hB⟩
  have HB1 := Lib.hid hB
  have HC11 := Lib.hid (Kd.C_below HC1.out hB)
  clear hB
  go_wp2_with fail
  refine (great_calls A1 c1 t w1 HC11.out HS1.out HBT.out).mono ?_
  rintro e w2 ⟨g, rfl, hg, rfl⟩
  have HG := Lib.hid hg
  clear hg
  clear HG
  cases g with
  | true =>
    go_wp2
    go_ret
    exact ⟨rfl, HB1.out⟩
  | false =>
    go_wp2
    go_ret
    exact ⟨rfl, HB1.out⟩
set_option maxRecDepth 100000 in
set_option maxHeartbeats 8000000 in
theorem bad {q : TypeId} (A0 : Option Addr) (c0 : Nat) (l : List Int) (A1 : Option Addr) (c1 : Nat) (t : List Rec3) (w : World) (hC0 : Kd.C (Kd.int .i64) w A0 l.length l) (hc0 : l.length ≤ c0) (hs0 : l.length ≤ 140737488351232) (hC1 : Kd.C (kRec q .u8) w A1 t.length t) (hs1 : t.length ≤ 140737488351232) (hb1 : ∀ r ∈ t, r.2.2.2.length ≤ 140737488351232) (h : l.length ≤ 2000) (hno : ¬ GoodL l) :
    Calls Tryd.prog 7 #[.slice A0 l.length c0, .slice A1 t.length c1] w fun e w' => e = .returned (.bool true) ∧ Below w.heap.size w w' := by
  have d0 : decide ((2000 : Int) < (l.length : Int)) = false := decide_eq_false (by omega)
  have hl2 : (l.length : Int) ≤ 2000 := by omega
  have HNO := Lib.hid hno
  clear hno
  have HC0 := Lib.hid hC0
  have HC1 := Lib.hid hC1
  have HS1 := Lib.hid hs1
  have HBT := Lib.hid hb1
  have HCC := Lib.hid hc0
  clear hC0 hC1 hb1 hc0 hs1
  go_enter Tryd.func7, Tryd.ntmps7
  go_wp2_with fail
  refine (alive_calls _).mono ?_
  rintro e w1 ⟨rfl, hB⟩
  have HB1 := Lib.hid hB
  have HC11 := Lib.hid (Kd.C_below HC1.out hB)
  clear hB
  go_wp2_with fail
  refine (great_calls A1 c1 t w1 HC11.out HS1.out HBT.out).mono ?_
  rintro e w2 ⟨g, rfl, hg, rfl⟩
  have HG := Lib.hid hg
  clear hg
  cases g with
  | true =>
    clear HG
    go_wp2
    go_ret
    exact ⟨rfl, HB1.out⟩
  | false =>
    have HGG := Lib.hid (HG.out rfl)
    clear HG
    go_wp2_with fail
    refine (moraineref00_CopyInts.calls A0 c0 l l w1 (Kd.C_below HC0.out HB1.out) HCC.out (copyI_eq l (by omega))).mono ?_
    rintro e w3 ⟨v3, rfl, hR, hB⟩
    obtain ⟨A3, c3, rfl⟩ := Kd.R_slice hR
    have HS3 := Lib.hid (Kd.R_reads' hR).2.2
    have HB3 := Lib.hid (HB1.out.trans (hB.mono HB1.out.size))
    clear hR hB
    go_wp2_with fail
    refine (new_nil A3 c3 l w3 HS3.out h HNO.out).mono ?_
    rintro e w4 ⟨rfl, hB⟩
    have HB4 := Lib.hid (HB3.out.trans (hB.mono HB3.out.size))
    clear hB
    go_wp2_with fail
    refine (rnew_nil A0 c0 l w4 (Kd.C_below HC0.out HB4.out) h HNO.out).mono ?_
    rintro e w5 ⟨rfl, hB⟩
    have HB5 := Lib.hid (HB4.out.trans (hB.mono HB4.out.size))
    clear hB
    go_wp2
    go_ret
    exact ⟨rfl, HB5.out⟩
set_option maxRecDepth 100000 in
set_option maxHeartbeats 8000000 in
theorem good {q : TypeId} (A0 : Option Addr) (c0 : Nat) (l : List Int) (A1 : Option Addr) (c1 : Nat) (t : List Rec3) (w : World) (hC0 : Kd.C (Kd.int .i64) w A0 l.length l) (hc0 : l.length ≤ c0) (hs0 : l.length ≤ 140737488351232) (hC1 : Kd.C (kRec q .u8) w A1 t.length t) (hs1 : t.length ≤ 140737488351232) (hb1 : ∀ r ∈ t, r.2.2.2.length ≤ 140737488351232) (hgl : GoodL l) (hwf : ∀ r ∈ t, (Lit.int .i64 r.2.1).wf = true) :
    Calls Tryd.prog 7 #[.slice A0 l.length c0, .slice A1 t.length c1] w fun e w' => e = .returned (.bool true) ∧ Below w.heap.size w w' := by
  have d0 : decide ((2000 : Int) < (l.length : Int)) = false := decide_eq_false (by have := hgl.1; omega)
  have hl2 : (l.length : Int) ≤ 828 := by have := hgl.1; omega
  have HGL := Lib.hid hgl
  have HWF := Lib.hid hwf
  clear hgl hwf
  have HC0 := Lib.hid hC0
  have HC1 := Lib.hid hC1
  have HS1 := Lib.hid hs1
  have HBT := Lib.hid hb1
  have HCC := Lib.hid hc0
  clear hC0 hC1 hb1 hc0 hs1
  go_enter Tryd.func7, Tryd.ntmps7
  go_wp2_with fail
  refine (alive_calls _).mono ?_
  rintro e w1 ⟨rfl, hB⟩
  have HB1 := Lib.hid hB
  have HC11 := Lib.hid (Kd.C_below HC1.out hB)
  clear hB
  go_wp2_with fail
  refine (great_calls A1 c1 t w1 HC11.out HS1.out HBT.out).mono ?_
  rintro e w2 ⟨g, rfl, hg, rfl⟩
  have HG := Lib.hid hg
  clear hg
  cases g with
  | true =>
    clear HG
    go_wp2
    go_ret
    exact ⟨rfl, HB1.out⟩
  | false =>
    have HGG := Lib.hid (HG.out rfl)
    clear HG
    go_wp2_with fail
    refine (moraineref00_CopyInts.calls A0 c0 l l w1 (Kd.C_below HC0.out HB1.out) HCC.out (copyI_eq l (by omega))).mono ?_
    rintro e w3 ⟨v3, rfl, hR, hB⟩
    obtain ⟨A3, c3, rfl⟩ := Kd.R_slice hR
    have HS3 := Lib.hid (Kd.R_reads' hR).2.2
    have HB3 := Lib.hid (HB1.out.trans (hB.mono HB1.out.size))
    clear hR hB
    go_wp2_with fail
    refine (new_p A3 c3 l w3 HS3.out HGL.out.1 HGL.out.2).mono ?_
    rintro e w4 ⟨p, rfl, hM, hB⟩
    obtain ⟨bA, bF, hX, hp0, hA0, hF0⟩ := BX.of hM
    have HB4 := Lib.hid (HB3.out.trans (hB.mono HB3.out.size))
    have HX4 := Lib.hid hX
    have HA4 : Hid (w3.heap.size ≤ bA ∧ w3.heap.size ≤ bF) := ⟨hA0, hF0⟩
    have H34 := Lib.hid hB.size
    clear hB hM hX hp0 hA0 hF0
    go_wp2_with fail
    refine (rnew_ok A0 c0 l w4 HGL.out.2 (Kd.C_below HC0.out HB4.out) HGL.out.1).mono ?_
    rintro e w5 ⟨rfl, hR, hB⟩
    have HX5 := Lib.hid (HX4.out.below hB)
    have HR5 := Lib.hid hR
    have HB5 := Lib.hid (HB4.out.trans (hB.mono HB4.out.size))
    have H45 := Lib.hid hB.size
    obtain ⟨pr, hpr⟩ : ∃ pr, w4.heap.size = pr := ⟨_, rfl⟩
    rw [hpr] at HR5 ⊢
    have HPR := Lib.hid hpr
    clear hR hB HX4 hpr
    go_wp2_with fail
    refine (clone_calls HX5.out (by omega)).mono ?_
    rintro e w6 ⟨p2, bA2, bF2, rfl, hX, hB, g1, g2, g3⟩
    have HX6 := Lib.hid (HX5.out.below hB)
    have HR6 := Lib.hid (HR5.out.below hB)
    have HB6 := Lib.hid (HB5.out.trans (hB.mono HB5.out.size))
    have HY6 := Lib.hid hX
    have HT2 : Hid (¬ Two bA bF bA2 ∧ ¬ Two bA bF bF2) := by
      have l1 : bA < w5.heap.size := by obtain ⟨DA, DF, mF, hB⟩ := HX5.out; exact hB.oA.lt
      have l2 : bF < w5.heap.size := by obtain ⟨DA, DF, mF, hB⟩ := HX5.out; exact hB.oF.lt
      exact ⟨fun h => h.elim (by omega) (by omega), fun h => h.elim (by omega) (by omega)⟩
    have H56 := Lib.hid hB.size
    clear hB hX g1 g2 g3 HX5 HR5
    go_wp2_with fail
    refine (rnew_ok A0 c0 l w6 HGL.out.2 (Kd.C_below HC0.out HB6.out) HGL.out.1).mono ?_
    rintro e w7 ⟨rfl, hR, hB⟩
    have HX7 := Lib.hid (HX6.out.below hB)
    have HR7 := Lib.hid (HR6.out.below hB)
    have HY7 := Lib.hid (HY6.out.below hB)
    have HB7 := Lib.hid (HB6.out.trans (hB.mono HB6.out.size))
    have HNE : Hid (w6.heap.size ≠ pr) := by
      have e1 := HPR.out
      have e2 := HR6.out.lt
      show _ ≠ _
      omega
    have H67 := Lib.hid hB.size
    have HQ7 := Lib.hid hR
    obtain ⟨po, hpo⟩ : ∃ po, w6.heap.size = po := ⟨_, rfl⟩
    rw [hpo] at HQ7 HNE ⊢
    have HS37 : Hid (w.heap.size ≤ bA ∧ w.heap.size ≤ bF ∧ w.heap.size ≤ pr ∧ w.heap.size ≤ w7.heap.size) := by
      have e1 := HB3.out.size
      have e2 := HA4.out
      have e3 := HPR.out
      have e4 := H34.out
      have e7 := HB7.out.size
      show _ ∧ _
      omega
    clear hR hB HX6 HR6 HY6 hpo HB1 HB3 HB4 HB5 HB6 H34 H45 H56 H67 HPR HA4 HS3 HC11
    go_wp2
    go_loopw [12] (fun i wr => ∃ (j : Nat) (a : Int → Option Int) (f : Int → Option (List Int)), j ≤ t.length ∧ i = .int .i64 j ∧ Hid (BX wr p bA bF (828 + j) a f) ∧ Hid (RM wr pr a f) ∧ Hid (Inv a f) ∧ Hid (BX wr p2 bA2 bF2 (828 + 828) (adr l) (fun _ => none)) ∧ Hid (RM wr po (adr l) (fun _ => none)) ∧ Hid (Below w.heap.size w wr)) (fun i _ => (1000 - intOf i).toNat)
    case atStart => exact ⟨0, _, _, by omega, rfl, HX7, HR7, inv_adr l HGL.out, HY7, HQ7, HB7⟩
    case round =>
      clear HX7 HR7 HY7 HQ7 HB7
      obtain ⟨j, a, f, hj, rfl, HX, HR, HI, HY, HQ, HB⟩ := hrel
      have hl3 : (t.length : Int) ≤ 200 := by have := HGG.out.1; omega
      rcases Nat.lt_or_ge j t.length with hlt | hge
      · have hlt2 : (j : Int) < (t.length : Int) := by omega
        obtain ⟨g0, o0, rfl, hcell⟩ := rec_of_C (Kd.C_below HC1.out HB.out) (by omega)
        have hjl := List.getElem?_eq_getElem hlt
        obtain ⟨r, hr⟩ : ∃ r, t[j] = r := ⟨_, rfl⟩
        rw [hr] at hjl
        have hrm : r ∈ t := hr ▸ List.getElem_mem hlt
        obtain ⟨Ad, cd, e0, e1, e2, e3, e4, e5⟩ := hcell j r hjl
        have HT := Lib.hid (told_calls HX.out HR.out HI.out (by omega) r.1 r.2.1 r.2.2.1 (HWF.out r hrm) Ad cd r.2.2.2 e5 e4 (HGG.out.2 r hrm))
        obtain ⟨x0, h0⟩ : ∃ x, r.1 = x := ⟨_, rfl⟩
        obtain ⟨x1, h1⟩ : ∃ x, r.2.1 = x := ⟨_, rfl⟩
        obtain ⟨x2, h2⟩ : ∃ x, r.2.2.1 = x := ⟨_, rfl⟩
        obtain ⟨d, h3⟩ : ∃ x, r.2.2.2.length = x := ⟨_, rfl⟩
        rw [h0] at e0 HT
        rw [h1] at e1 HT
        rw [h2] at e2 HT
        rw [h3] at e3 HT
        clear hcell hjl hr hrm e4 e5 h0 h1 h2 h3
        go_wp2_with fail
        refine HT.out.mono ?_
        rintro e w8 ⟨rfl, a', f', hX, hR, hI, hK⟩
        have HX8 := Lib.hid hX
        have HR8 := Lib.hid hR
        have HI8 := Lib.hid hI
        have HY8 := Lib.hid (hK.bx HY.out HT2.out.1 HT2.out.2)
        have HQ8 := Lib.hid (hK.rm HQ.out HNE.out)
        have HB8 : Hid (Below w.heap.size w w8) := HB.out.trans (hK.tr.from_ HB.out.size (by have := HS37.out; rintro b (h | h | h) <;> omega))
        clear hX hR hI hK
        go_wp2
        go_roundw
        case rel => exact ⟨j + 1, a', f', by omega, by go_num, HX8, HR8, HI8, HY8, HQ8, HB8⟩
        case measure => simp [intOf]; omega
      · obtain rfl : j = t.length := by omega
        go_wp2_with fail
        refine (same_calls HX.out HR.out HI.out (by omega)).mono ?_
        rintro e w8 ⟨rfl, hB⟩
        have HY8 := Lib.hid (HY.out.below hB)
        have HQ8 := Lib.hid (HQ.out.below hB)
        have HB8 := Lib.hid (HB.out.trans (hB.mono HB.out.size))
        clear hB
        go_wp2_with fail
        refine (same_calls HY8.out HQ8.out (inv_adr l HGL.out) (by omega)).mono ?_
        rintro e w9 ⟨rfl, hB⟩
        have HB9 := Lib.hid (HB8.out.trans (hB.mono HB8.out.size))
        clear hB
        go_wp2
        go_ret
        exact ⟨rfl, HB9.out⟩
end Go.Proofs.YtlkhlmckgpjopaaDoor.CallsWalk
namespace Go.Proofs.YtlkhlmckgpjopaaDoor.PBlockCalls
open Go.RowKit Go.Proofs.YtlkhlmckgpjopaaDoorW.PrintWords Go.Proofs.YtlkhlmckgpjopaaDoorW.PrintLast Go.Proofs.YtlkhlmckgpjopaaDoorW.PrintMore Go.Proofs.YtlkhlmckgpjopaaDoor.Base Go.Proofs.YtlkhlmckgpjopaaDoor.Given Go.Proofs.YtlkhlmckgpjopaaDoor.CallsWalk
set_option linter.unusedVariables false
def Fits (l : List Int) (t : List Rec3) : Prop := l.length ≤ 140737488351232 ∧ t.length ≤ 140737488351232 ∧ (∀ r ∈ t, r.2.2.2.length ≤ 140737488351232) ∧ ∀ r ∈ t, (Lit.int .i64 r.2.1).wf = true
noncomputable def morainelaw15_BlockCalls.f (l : List Int) (t : List Rec3) : Option Bool := @ite _ (Fits l t) (Classical.propDecidable _) (some true) none
theorem morainelaw15_BlockCalls.calls {q : TypeId} (A0 : Option Addr) (c0 : Nat) (l : List Int) (A1 : Option Addr) (c1 : Nat) (t : List Rec3) (r : Bool) (w : World) (hC : Kd.C (Kd.int .i64) w A0 l.length l) (hc : l.length ≤ c0) (hC1 : Kd.C (kRec q .u8) w A1 t.length t) (hc1 : t.length ≤ c1) (h : morainelaw15_BlockCalls.f l t = some r) :
    Calls Tryd.prog 7 #[.slice A0 l.length c0, .slice A1 t.length c1] w fun e w' => e = .returned (.bool r) ∧ Below w.heap.size w w' := by
  unfold morainelaw15_BlockCalls.f at h
  by_cases hf : Fits l t
  · rw [if_pos hf] at h
    cases h
    by_cases h1 : 2000 < l.length
    · exact many A0 c0 l A1 c1 t w hC hc hf.1 hC1 hf.2.1 hf.2.2.1 h1
    · by_cases hg : GoodL l
      · exact good A0 c0 l A1 c1 t w hC hc hf.1 hC1 hf.2.1 hf.2.2.1 hg hf.2.2.2
      · exact bad A0 c0 l A1 c1 t w hC hc hf.1 hC1 hf.2.1 hf.2.2.1 (by omega) hg
  · rw [if_neg hf] at h
    cases h
end Go.Proofs.YtlkhlmckgpjopaaDoor.PBlockCalls
namespace Go.Proofs.YtlkhlmckgpjopaaDoor.Pure
open Go.Proofs.YtlkhlmckgpjopaaDoor.PBlockCalls Go.Proofs.YtlkhlmckgpjopaaDoor.Given
theorem BlockCalls {P1 : Prop} (l : List Int) (t : List Rec3) (_ : P1) (h1 : l.length * 8 ≤ 140737488351232) (h2 : t.length ≤ 140737488351232) (h3 : ∀ r ∈ t, r.2.2.2.length ≤ 140737488351232) (h4 : ∀ r ∈ t, (Lit.int .i64 r.1).wf = true ∧ (Lit.int .i64 r.2.1).wf = true ∧ (Lit.int .i64 r.2.2.1).wf = true ∧ ∀ z ∈ r.2.2.2, (Lit.int .u8 z).wf = true) : morainelaw15_BlockCalls.f l t = some true :=
  if_pos ⟨by omega, h2, h3, fun r hr => (h4 r hr).2.1⟩
end Go.Proofs.YtlkhlmckgpjopaaDoor.Pure
