/- Sames: GivSame15, GivGreat15. -/
import Derived.Test.YtlkhlmckgpjopaaDoorTolds
import Derived.Test.YtlkhlmckgpjopaaDoorGivRecs
/- same: a map has the document's blocks; by hand. -/
namespace Go.Proofs.YtlkhlmckgpjopaaDoor.Given
open Go.RowKit Go.Maps Go.Sort Go.Shelf Go.Proofs.YtlkhlmckgpjopaaDoorW.PrintWords Go.Proofs.YtlkhlmckgpjopaaDoorW.PrintLast Go.Proofs.YtlkhlmckgpjopaaDoorW.PrintMore Go.Proofs.YtlkhlmckgpjopaaDoor.Base
set_option linter.unusedVariables false
set_option linter.unusedSimpArgs false
theorem rfresh_at {w : World} {pr : Nat} {a : Int → Option Int} {f : Int → Option (List Int)} (h : RM w pr a f) (hi : Inv a f) {M : List Int} (hM : Rises M (fun k => f k ≠ none)) :
    Calls Tryd.prog 42 #[.pointer (some ⟨pr, 0, none⟩)] w fun e w' => ∃ A c, e = .returned (.slice A M.length c) ∧ M.length ≤ c ∧ Kd.C (Kd.int .i64) w' A M.length M ∧ Below w.heap.size w w' := by
  refine (rfresh_calls h hi).mono ?_
  rintro e w' ⟨A, c, L, rfl, hc, _, hC, hL, hb⟩
  obtain rfl := hL.eq hM (fun _ => Iff.rfl)
  exact ⟨A, c, rfl, hc, hC, hb⟩
theorem rthere_at {w : World} {pr : Nat} {a : Int → Option Int} {f : Int → Option (List Int)} (h : RM w pr a f) (hi : Inv a f) {M : List Int} (hM : Rises M (fun k => a k ≠ none ∨ f k ≠ none)) :
    Calls Tryd.prog 43 #[.pointer (some ⟨pr, 0, none⟩)] w fun e w' => ∃ A c, e = .returned (.slice A M.length c) ∧ M.length ≤ c ∧ Kd.C (Kd.int .i64) w' A M.length M ∧ Below w.heap.size w w' := by
  refine (rthere_calls h hi).mono ?_
  rintro e w' ⟨A, c, L, rfl, hc, _, hC, hL, hb⟩
  obtain rfl := hL.eq hM (fun _ => Iff.rfl)
  exact ⟨A, c, rfl, hc, hC, hb⟩
theorem sameI_at (A0 : Option Addr) (c0 : Nat) (A1 : Option Addr) (c1 : Nat) (M : List Int) (w : World) (hM : M.length ≤ 100000) (h0 : Kd.C (Kd.int .i64) w A0 M.length M) (hc0 : M.length ≤ c0) (h1 : Kd.C (Kd.int .i64) w A1 M.length M) (hc1 : M.length ≤ c1) :
    Calls Tryd.prog 15 #[.slice A0 M.length c0, .slice A1 M.length c1] w fun e w' => e = .returned (.bool true) ∧ Below w.heap.size w w' := by
  refine (moraineref00_SameInts.calls (M.length + 1) A0 c0 M A1 c1 M true w h0 hc0 h1 hc1 (by rw [PlacesWalk.sameI_eq M M (by omega) _ (by omega)]; simp)).mono ?_
  rintro e w' ⟨rfl, hd⟩
  obtain ⟨nd, rfl⟩ := hd
  exact ⟨rfl, pw_below_drewN (Below.refl _ _) nd⟩
theorem sameB_at (A0 : Option Addr) (c0 : Nat) (A1 : Option Addr) (c1 : Nat) (M : List Int) (w : World) (hM : M.length ≤ 100000) (h0 : Kd.C (Kd.int .u8) w A0 M.length M) (hc0 : M.length ≤ c0) (h1 : Kd.C (Kd.int .u8) w A1 M.length M) (hc1 : M.length ≤ c1) :
    Calls Tryd.prog 18 #[.slice A0 M.length c0, .slice A1 M.length c1] w fun e w' => e = .returned (.bool true) ∧ Below w.heap.size w w' := by
  refine (moraineref00_SameBytes.calls (M.length + 1) A0 c0 M A1 c1 M true w h0 hc0 h1 hc1 (by rw [same_eq M M (by omega) _ (by omega)]; simp)).mono ?_
  rintro e w' ⟨rfl, hd⟩
  obtain ⟨nd, rfl⟩ := hd
  exact ⟨rfl, pw_below_drewN (Below.refl _ _) nd⟩
/-- Of a map: bytes told alike by both. -/
theorem bytes_both {w : World} {p bA bF N : Nat} {a : Int → Option Int} {f : Int → Option (List Int)} (h : BX w p bA bF N a f) (k : Int) (hk : (Lit.int .i64 k).wf = true) :
    Calls Tryd.prog 17 #[.pointer (some ⟨p, 0, none⟩), .int .i64 k] w fun e w' => ∃ A c, e = .returned (.tuple #[.slice A ((f k).getD []).length c, .bool (f k).isSome]) ∧ ((f k).getD []).length ≤ c ∧ Kd.C (Kd.int .u8) w' A ((f k).getD []).length ((f k).getD []) ∧ Below w.heap.size w w' := by
  cases hf : f k with
  | none =>
    refine (bytes_none h.bm k hk hf).mono ?_
    rintro e w' ⟨rfl, rfl⟩
    exact ⟨none, 0, rfl, Nat.le_refl _, Kd.C_nil _ _, Below.refl _ _⟩
  | some r =>
    refine (bytes_some h.bm k hk r hf).mono ?_
    rintro e w' ⟨v, rfl, hR, hb⟩
    obtain ⟨A, c, rfl⟩ := Kd.R_slice hR
    exact ⟨A, c, rfl, (Kd.R_reads' hR).2.1, (Kd.R_reads' hR).2.2, hb⟩
theorem rbytes_both {w : World} {pr : Nat} {a : Int → Option Int} {f : Int → Option (List Int)} (h : RM w pr a f) (hi : Inv a f) (k : Int) :
    Calls Tryd.prog 38 #[.pointer (some ⟨pr, 0, none⟩), .int .i64 k] w fun e w' => ∃ A c, e = .returned (.tuple #[.slice A ((f k).getD []).length c, .bool (f k).isSome]) ∧ ((f k).getD []).length ≤ c ∧ Kd.C (Kd.int .u8) w' A ((f k).getD []).length ((f k).getD []) ∧ Below w.heap.size w w' := by
  cases hf : f k with
  | none =>
    refine (rbytes_none h k hf).mono ?_
    rintro e w' ⟨rfl, rfl⟩
    exact ⟨none, 0, rfl, Nat.le_refl _, Kd.C_nil _ _, Below.refl _ _⟩
  | some r =>
    have hbd := hi.bdF k (by rw [hf]; simp)
    refine (rbytes_some h k hbd.1 hbd.2 r hf).mono ?_
    rintro e w' ⟨v, rfl, hR, hb⟩
    obtain ⟨A, c, rfl⟩ := Kd.R_slice hR
    exact ⟨A, c, rfl, (Kd.R_reads' hR).2.1, (Kd.R_reads' hR).2.2, hb⟩
theorem f_short {w : World} {p bA bF N : Nat} {a : Int → Option Int} {f : Int → Option (List Int)} (h : BX w p bA bF N a f) (k : Int) : ((f k).getD []).length ≤ 56 := by
  cases hf : f k with
  | none => simp
  | some r =>
    obtain ⟨DA, DF, mF, hB⟩ := h
    obtain ⟨u, _, A, c, _, _, h3, _⟩ := (hB.el k).2 r hf
    show r.length ≤ 56
    omega
set_option maxRecDepth 100000 in
set_option maxHeartbeats 4000000 in
theorem same_calls {w : World} {p bA bF N pr : Nat} {a : Int → Option Int} {f : Int → Option (List Int)} (hx : BX w p bA bF N a f) (hr : RM w pr a f) (hi : Inv a f) (hN : N ≤ 1000000) :
    Calls Tryd.prog 25 #[.pointer (some ⟨p, 0, none⟩), .pointer (some ⟨pr, 0, none⟩)] w fun e w' => e = .returned (.bool true) ∧ Below w.heap.size w w' := by
  obtain ⟨M1, hM1, hL1⟩ : ∃ M, Rises M (fun k => f k ≠ none) ∧ M.length ≤ 828 := ⟨_, selJ_rises (p := fun k => (f k).isSome) (fun k => by cases hf : f k <;> simp [hf]) hi.bdF, selJ_len _ _⟩
  obtain ⟨M2, hM2, hL2⟩ : ∃ M, Rises M (fun k => a k ≠ none ∨ f k ≠ none) ∧ M.length ≤ 828 := ⟨_, selJ_rises (p := fun k => (a k).isSome || (f k).isSome) (fun k => by cases hf : f k <;> cases ha : a k <;> simp [hf, ha]) (fun k hk => hk.elim (hi.bdA k) (hi.bdF k)), selJ_len _ _⟩
  have hd0 := Below.refl w.heap.size w
  have HM1 := Lib.hid hM1
  have HM2 := Lib.hid hM2
  have HL1 := Lib.hid hL1
  have HI := Lib.hid hi
  have HNO : Hid (∀ k, f k ≠ none → a k = none) := hi.no
  have HX0 := Lib.hid (hx.below hd0)
  have HR0 := Lib.hid (hr.below hd0)
  have HB0 := Lib.hid hd0
  clear hM1 hM2 hL1 hi hx hr hd0
  go_enter Tryd.func25, Tryd.ntmps25
  go_wp2_with fail
  refine (fresh_at HX0.out.bm hN HM1.out).mono ?_
  rintro e w1 ⟨A1, c1, rfl, hc1, hC1, hb1⟩
  have HX1 := Lib.hid (HX0.out.below hb1)
  have HR1 := Lib.hid (HR0.out.below hb1)
  have HB1 := Lib.hid (HB0.out.trans (hb1.mono HB0.out.size))
  have HS1 := Lib.hid hC1
  have HSC1 := Lib.hid hc1
  clear hC1 hb1 hc1
  go_wp2_with fail
  refine (rfresh_at HR1.out HI.out HM1.out).mono ?_
  rintro e w2 ⟨A2, c2, rfl, hc2, hC2, hb2⟩
  have HX2 := Lib.hid (HX1.out.below hb2)
  have HR2 := Lib.hid (HR1.out.below hb2)
  have HB2 := Lib.hid (HB1.out.trans (hb2.mono HB1.out.size))
  have HS2 := Lib.hid hC2
  have HSC2 := Lib.hid hc2
  have HS12 := Lib.hid (Kd.C_below HS1.out hb2)
  clear hC2 hb2 hc2
  go_wp2_with fail
  refine (sameI_at A1 c1 A2 c2 M1 w2 (by have := HL1.out; omega) HS12.out HSC1.out HS2.out HSC2.out).mono ?_
  rintro e w3 ⟨rfl, hb3⟩
  have HX3 := Lib.hid (HX2.out.below hb3)
  have HR3 := Lib.hid (HR2.out.below hb3)
  have HB3 := Lib.hid (HB2.out.trans (hb3.mono HB2.out.size))
  clear hb3
  go_wp2_with fail
  refine (there_at HX3.out.bm hN HNO.out HM2.out).mono ?_
  rintro e w4 ⟨A4, c4, rfl, hc4, hC4, hb4⟩
  have HX4 := Lib.hid (HX3.out.below hb4)
  have HR4 := Lib.hid (HR3.out.below hb4)
  have HB4 := Lib.hid (HB3.out.trans (hb4.mono HB3.out.size))
  have HS4 := Lib.hid hC4
  have HSC4 := Lib.hid hc4
  clear hC4 hb4 hc4
  go_wp2_with fail
  refine (rthere_at HR4.out HI.out HM2.out).mono ?_
  rintro e w5 ⟨A5, c5, rfl, hc5, hC5, hb5⟩
  have HX5 := Lib.hid (HX4.out.below hb5)
  have HR5 := Lib.hid (HR4.out.below hb5)
  have HB5 := Lib.hid (HB4.out.trans (hb5.mono HB4.out.size))
  have HS5 := Lib.hid hC5
  have HSC5 := Lib.hid hc5
  have HS45 := Lib.hid (Kd.C_below HS4.out hb5)
  clear hC5 hb5 hc5
  go_wp2_with fail
  refine (sameI_at A4 c4 A5 c5 M2 w5 (by omega) HS45.out HSC4.out HS5.out HSC5.out).mono ?_
  rintro e w6 ⟨rfl, hb6⟩
  have HX6 := Lib.hid (HX5.out.below hb6)
  have HR6 := Lib.hid (HR5.out.below hb6)
  have HB6 := Lib.hid (HB5.out.trans (hb6.mono HB5.out.size))
  clear hb6
  clear HX0 HR0 HB0 HX1 HR1 HB1 HS1 HSC1 HX2 HR2 HB2 HS2 HSC2 HS12 HX3 HR3 HB3 HX4 HR4 HB4 HS4 HSC4 HX5 HR5 HB5 HS5 HSC5 HS45
  go_wp2_with fail
  refine (rthere_at HR6.out HI.out HM2.out).mono ?_
  rintro e w7 ⟨A7, c7, rfl, hc7, hC7, hb7⟩
  have HX7 := Lib.hid (HX6.out.below hb7)
  have HR7 := Lib.hid (HR6.out.below hb7)
  have HB7 := Lib.hid (HB6.out.trans (hb7.mono HB6.out.size))
  have HS7 := Lib.hid hC7
  clear HX6 HR6 HB6 hC7 hb7 hc7
  go_wp2
  go_loopw [6] (fun i wr => ∃ j : Nat, j ≤ M2.length ∧ i = .int .i64 j ∧ Hid (Below w7.heap.size w7 wr)) (fun i _ => (1000 - intOf i).toNat)
  case atStart => exact ⟨0, by omega, rfl, Below.refl _ _⟩
  case round =>
    obtain ⟨j, hj, rfl, HB⟩ := hrel
    have hl2 : (M2.length : Int) ≤ 828 := by omega
    rcases Nat.lt_or_ge j M2.length with hlt | hge
    · have hlt2 : (j : Int) < (M2.length : Int) := by omega
      obtain ⟨g0, o0, rfl, hcell⟩ := addr_of_C HS7.out (by omega)
      have hcj := hcell j hlt
      obtain ⟨x, hxj⟩ : ∃ x, M2.getD j 0 = x := ⟨_, rfl⟩
      rw [hxj] at hcj
      have hxm : x ∈ M2 := by rw [← hxj, List.getD_eq_getElem?_getD, List.getElem?_eq_getElem hlt]; exact List.getElem_mem _
      have hbd : 0 ≤ x ∧ x < 828 := ((HM2.out.mem x).1 hxm).elim (HI.out.bdA x) (HI.out.bdF x)
      have HW : Hid ((Lit.int .i64 x).wf = true) := wf_i hbd.1 (by omega)
      have d1 : wr.cell? ⟨g0, o0 + j, none⟩ = some (.int .i64 x) := pw_cell_below HB.out hcj
      have HX8 := Lib.hid (HX7.out.below HB.out)
      have HR8 := Lib.hid (HR7.out.below HB.out)
      have hfs := f_short HX7.out x
      obtain ⟨R, hR⟩ : ∃ R, (f x).getD [] = R := ⟨_, rfl⟩
      obtain ⟨ok, hok⟩ : ∃ o, (f x).isSome = o := ⟨_, rfl⟩
      obtain ⟨v, hv⟩ : ∃ v, (a x).getD 0 = v := ⟨_, rfl⟩
      have hbm := bytes_both HX8.out x HW.out
      rw [hR, hok] at hbm
      have HBM := Lib.hid hbm
      have HRR := Lib.hid hR
      have HOK := Lib.hid hok
      have HV := Lib.hid hv
      have hvv : (v != v) = false := by simp
      have hoo : (ok != ok) = false := by simp
      rw [hR] at hfs
      have HFS := Lib.hid hfs
      clear hcell hcj hxj hxm hbd hbm hR hok hv hfs
      go_wp2_with fail
      refine HBM.out.mono ?_
      rintro e wa ⟨Aa, ca, rfl, hca, hCa, hba⟩
      have d2 : wa.cell? ⟨g0, o0 + j, none⟩ = some (.int .i64 x) := pw_cell_below hba d1
      have HX9 := Lib.hid (HX8.out.below hba)
      have HR9 := Lib.hid (HR8.out.below hba)
      have HB9 := Lib.hid (HB.out.trans (hba.mono HB.out.size))
      have HCA := Lib.hid hCa
      have HCCA := Lib.hid hca
      have hrb := rbytes_both HR9.out HI.out x
      rw [HRR.out, HOK.out] at hrb
      have HRB := Lib.hid hrb
      clear hca hCa hba hrb HBM HX8 HR8
      go_wp2_with fail
      refine HRB.out.mono ?_
      rintro e wb ⟨Ab, cb, rfl, hcb, hCb, hbb⟩
      have d3 : wb.drew.cell? ⟨g0, o0 + j, none⟩ = some (.int .i64 x) := by rw [World.cell?_drew]; exact pw_cell_below hbb d2
      have hbb' : Below wa.heap.size wa wb.drew := below_drew hbb
      have HXA := Lib.hid (HX9.out.below hbb')
      have HRA := Lib.hid (HR9.out.below hbb')
      have HBA := Lib.hid (HB9.out.trans (hbb'.mono HB9.out.size))
      have HCB := Lib.hid (Kd.C_drew hCb)
      have HCA2 := Lib.hid (Kd.C_below HCA.out hbb')
      have HCCB := Lib.hid hcb
      clear hcb hCb hbb hbb' HRB HX9 HR9
      go_wp2_with fail
      go_region_held3 (fun w' => w'.cell? ⟨g0, o0 + j, none⟩ = some (.int .i64 x)) (first | exact d3 | exact d4 | go_keep)
        (first
          | (go_at_call 14; refine (at_calls HXA.out.bm x HW.out).mono ?_; rintro e wc ⟨rfl, rfl⟩; rw [HV.out])
          | (go_at_call 37; refine (address_calls HRA.out HI.out x).mono ?_; rintro e wc ⟨rfl, rfl⟩; rw [HV.out])
          | (go_at_call 18; refine (sameB_at Aa ca Ab cb R wb.drew (by have := HFS.out; omega) HCA2.out HCCA.out HCB.out HCCB.out).mono ?_; rintro e wd ⟨rfl, hbd⟩; have HBD := Lib.hid (HBA.out.trans (hbd.mono HBA.out.size)); have d4 := pw_cell_below hbd d3; clear hbd))
      all_goals
        go_wp2
        go_roundw
        case rel => exact ⟨j + 1, by omega, by go_num, HBD⟩
        case measure => simp [intOf]; omega
    · obtain rfl : j = M2.length := by omega
      go_wp2
      go_ret
      exact ⟨rfl, HB7.out.trans (HB.out.mono HB7.out.size)⟩
end Go.Proofs.YtlkhlmckgpjopaaDoor.Given

/- great; the records of a slice; by hand. -/
namespace Go.Proofs.YtlkhlmckgpjopaaDoor.Given
open Go.RowKit Go.Maps Go.Sort Go.Shelf Go.Proofs.YtlkhlmckgpjopaaDoorW.PrintWords Go.Proofs.YtlkhlmckgpjopaaDoorW.PrintLast Go.Proofs.YtlkhlmckgpjopaaDoorW.PrintMore Go.Proofs.YtlkhlmckgpjopaaDoor.Base
set_option linter.unusedVariables false
set_option linter.unusedSimpArgs false
theorem rec_of_C {q : TypeId} {w : World} {A : Option Addr} {n : Nat} {xs : List Rec3} (h : Kd.C (kRec q .u8) w A n xs) (h0 : 0 < n) :
    ∃ b off, A = some ⟨b, off, none⟩ ∧ ∀ (j : Nat) (r : Rec3), xs[j]? = some r → ∃ Ad c, w.cell? ⟨b, off + j * 4, none⟩ = some (.int .i64 r.1) ∧ w.cell? ⟨b, off + j * 4 + 1, none⟩ = some (.int .i64 r.2.1) ∧ w.cell? ⟨b, off + j * 4 + 2, none⟩ = some (.int .i64 r.2.2.1) ∧ w.cell? ⟨b, off + j * 4 + 3, none⟩ = some (.slice Ad r.2.2.2.length c) ∧ r.2.2.2.length ≤ c ∧ Kd.C (Kd.int .u8) w Ad r.2.2.2.length r.2.2.2 := by
  obtain ⟨hl, hm, hc⟩ := h
  obtain ⟨ad, e, hcl⟩ := hc h0
  have each : ∀ (j : Nat) (r : Rec3), xs[j]? = some r → ∃ Ad c, w.cell? (ad.add (j * 4)) = some (.int .i64 r.1) ∧ w.cell? (ad.add (j * 4 + 1)) = some (.int .i64 r.2.1) ∧ w.cell? (ad.add (j * 4 + 2)) = some (.int .i64 r.2.2.1) ∧ w.cell? (ad.add (j * 4 + 3)) = some (.slice Ad r.2.2.2.length c) ∧ r.2.2.2.length ≤ c ∧ Kd.C (Kd.int .u8) w Ad r.2.2.2.length r.2.2.2 := by
    intro j r hj
    obtain ⟨c, hs, hr, hcell⟩ := hcl j r hj
    obtain ⟨x0, x1, rfl, k0, y0, y1, rfl, k1, z0, z1, rfl, k2, Ad, c, k3, g1, g2⟩ := hr
    obtain rfl : x0 = [.int .i64 r.1] := k0
    obtain rfl : y0 = [.int .i64 r.2.1] := k1
    obtain rfl : z0 = [.int .i64 r.2.2.1] := k2
    subst k3
    exact ⟨Ad, c, hcell 0 _ rfl, hcell 1 _ rfl, hcell 2 _ rfl, hcell 3 _ rfl, g1, g2⟩
  have hs : ad.spot = none := by
    have hx : 0 < xs.length := by omega
    obtain ⟨_, _, h1, _⟩ := each 0 _ (List.getElem?_eq_getElem hx)
    have a0 : ad.add (0 * 4) = ad := by simp [Addr.add]
    rw [a0] at h1
    cases hsp : ad.spot with
    | none => rfl
    | some s =>
      exfalso
      unfold World.cell? at h1
      split at h1
      · rw [hsp] at h1; simp at h1
      · cases h1
  obtain ⟨b, off, sp⟩ := ad
  simp only at hs
  subst hs
  refine ⟨b, off, e, fun j r hj => ?_⟩
  obtain ⟨Ad, c, h1, h2, h3, h4, h5⟩ := each j r hj
  rw [addr_add] at h1 h2 h3 h4
  exact ⟨Ad, c, h1, h2, h3, h4, h5⟩
set_option maxRecDepth 100000 in
set_option maxHeartbeats 4000000 in
theorem great_calls {q : TypeId} (A : Option Addr) (c : Nat) (l : List Rec3) (w : World) (hC : Kd.C (kRec q .u8) w A l.length l) (hs : l.length ≤ 140737488351232) (hb : ∀ r ∈ l, r.2.2.2.length ≤ 140737488351232) :
    Calls Tryd.prog 20 #[.slice A l.length c] w fun e w' => ∃ g, e = .returned (.bool g) ∧ (g = false → l.length ≤ 200 ∧ ∀ r ∈ l, r.2.2.2.length ≤ 20000) ∧ w = w' := by
  by_cases h0 : 200 < l.length
  · have d0 : decide ((200 : Int) < (l.length : Int)) = true := decide_eq_true (by omega)
    have hl2 : (l.length : Int) ≤ 140737488351232 := by omega
    go_enter Tryd.func20, Tryd.ntmps20
    go_wp2
    go_ret
    exact ⟨true, rfl, (fun h => by cases h), rfl⟩
  have d0 : decide ((200 : Int) < (l.length : Int)) = false := decide_eq_false (by omega)
  have hl2 : (l.length : Int) ≤ 200 := by omega
  have HC := Lib.hid hC
  have HBB := Lib.hid hb
  clear hC hb hs h0
  go_enter Tryd.func20, Tryd.ntmps20
  go_wp2
  go_loopw [3, 4] (fun n i wr => ∃ (s j : Nat), j ≤ l.length ∧ s ≤ 20000 ∧ n = .int .i64 s ∧ i = .int .i64 j ∧ Hid (∀ (p : Nat) (r : Rec3), p < j → l[p]? = some r → r.2.2.2.length ≤ 20000) ∧ w = wr) (fun _ i _ => (1000 - intOf i).toNat)
  case atStart => exact ⟨0, 0, by omega, by omega, rfl, rfl, (fun p r h => absurd h (by omega)), rfl⟩
  case round =>
    obtain ⟨s, j, hj, hs, rfl, rfl, HT, rfl⟩ := hrel
    rcases Nat.lt_or_ge j l.length with hlt | hge
    · have hlt2 : (j : Int) < (l.length : Int) := by omega
      obtain ⟨g0, o0, rfl, hcell⟩ := rec_of_C HC.out (by omega)
      have hjl := List.getElem?_eq_getElem hlt
      obtain ⟨r, hr⟩ : ∃ r, l[j] = r := ⟨_, rfl⟩
      rw [hr] at hjl
      obtain ⟨Ad, cd, _, _, _, c3, _, _⟩ := hcell j r hjl
      have hbr := HBB.out r (hr ▸ List.getElem_mem hlt)
      obtain ⟨d, hd⟩ : ∃ d, r.2.2.2.length = d := ⟨_, rfl⟩
      rw [hd] at c3 hbr
      have hs2 : (s : Int) ≤ 20000 := by omega
      have hd2 : (d : Int) ≤ 140737488351232 := by omega
      have HT2 : Hid (d ≤ 20000 → ∀ (p : Nat) (r : Rec3), p < j + 1 → l[p]? = some r → r.2.2.2.length ≤ 20000) := fun hd3 p r' hp hr' => by
        by_cases e : p = j
        · subst e
          rw [hjl] at hr'
          cases hr'
          omega
        · exact HT.out p r' (by omega) hr'
      clear hcell hjl hr hd hbr
      by_cases hg : 20000 < s + d
      · have dg : decide ((20000 : Int) < (s : Int) + (d : Int)) = true := decide_eq_true (by omega)
        clear hg
        go_wp2
        go_ret
        exact ⟨true, rfl, (fun h => by cases h), rfl⟩
      · have dg : decide ((20000 : Int) < (s : Int) + (d : Int)) = false := decide_eq_false (by omega)
        have HG : Hid (s + d ≤ 20000) := by show _ ≤ _; omega
        clear hg
        go_wp2
        go_roundw
        case rel => exact ⟨s + d, j + 1, by omega, HG.out, by go_num, by go_num, HT2.out (by have := HG.out; omega), trivial⟩
        case measure => simp [intOf]; omega
    · obtain rfl : j = l.length := by omega
      go_wp2
      go_ret
      refine ⟨false, rfl, fun _ => ⟨by omega, fun r hr => ?_⟩, rfl⟩
      obtain ⟨p, hp, rfl⟩ := List.getElem_of_mem hr
      exact HT.out p _ hp (List.getElem?_eq_getElem hp)
end Go.Proofs.YtlkhlmckgpjopaaDoor.Given
