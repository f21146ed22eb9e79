/- The contract of moraineref14.Get: by hand. -/
import Derived.Test.YthmfhhkedmloeaaDoorGivRefRight
import Derived.Test.YthmfhhkedmloeaaDoorQInodeRecordsx
namespace Go.Proofs.YthmfhhkedmloeaaDoor.Given
open Go.RowKit Go.Proofs.YthmfhhkedmloeaaDoorW.PrintWords Go.Proofs.YthmfhhkedmloeaaDoorW.PrintLast Go.Proofs.YthmfhhkedmloeaaDoorW.PrintMore Go.Proofs.YthmfhhkedmloeaaDoor.PInodeRecords
set_option linter.unusedVariables false
set_option linter.unusedSimpArgs false

/-- What the walk of the document's Get keeps of the world: n fields stored. -/
structure RS (wd : World) (g0 g2 : Nat) (l : List Int) (n : Nat) (w : World) : Prop where
  lt0 : wd.heap.size ≤ g0
  lt2 : g0 < g2
  c0 : w.heap[g0]? = some (recBox (gl l 0))
  c2 : w.heap[g2]? = some (recBox (gl l n))
  below : Below wd.heap.size wd w
theorem RS.step {wd w w1 : World} {g0 g2 n : Nat} {l : List Int} (h : RS wd g0 g2 l n w) (hB : Below w.heap.size w w1) : RS wd g0 g2 l n w1 :=
  ⟨h.lt0, h.lt2, blk_below h.c0 hB, blk_below h.c2 hB, h.below.trans (hB.mono h.below.size)⟩
theorem RS.drewN {wd w : World} {g0 g2 n : Nat} {l : List Int} (h : RS wd g0 g2 l n w) (k : Nat) : RS wd g0 g2 l n (w.drewN k) :=
  ⟨h.lt0, h.lt2, h.c0, h.c2, pw_below_drewN h.below k⟩
theorem RS.lt {wd w : World} {g0 g2 n : Nat} {l : List Int} (h : RS wd g0 g2 l n w) : g2 < w.heap.size := (Array.getElem?_eq_some_iff.1 h.c2).1
theorem RS.store {wd w : World} {g0 g2 n : Nat} {l : List Int} (h : RS wd g0 g2 l n w) {y : Int} (hy : fv l n = y) : RS wd g0 g2 l (n + 1) (w.setCell ⟨g2, n, none⟩ (.int .i64 y)) := by
  have a := h.lt0; have b := h.lt2
  refine ⟨a, b, ?_, ?_, ?_⟩
  · rw [heap_setCell_other _ _ _ _ (show g0 ≠ g2 by omega)]; exact h.c0
  · rw [heap_setCell_same w g2 n _ _ _ h.c2, encs_set, ← hy, gl_set]; rfl
  · exact below_set h.below (by show wd.heap.size ≤ g2; omega)
theorem RS.cell {wd w : World} {g0 g2 n : Nat} {l : List Int} (h : RS wd g0 g2 l n w) (hn : n < 21) : w.cell? ⟨g2, n, none⟩ = some (.int .i64 0) := by
  rw [cell_of_row w g2 n _ _ _ h.c2]
  simp only [List.getElem?_toArray, encs, List.getElem?_map, gl_get l n n hn, Nat.lt_irrefl, if_false, Option.map_some]
theorem RS.frz {wd w : World} {g0 g2 n : Nat} {l : List Int} (h : RS wd g0 g2 l n w) (j : Nat) : w.frozen? ⟨g2, j, none⟩ = false := frozen_of_row w g2 j _ _ h.c2
theorem RS.start {wd w0 w2 w3 : World} {g0 g2 : Nat} {l : List Int} (e0 : g0 = wd.heap.size) (h0 : w0.heap[g0]? = some (.cells (List.replicate 21 (Value.int .i64 0)).toArray 24 (0, 0))) (e2 : g2 = w2.heap.size) (h2 : w3.heap[g2]? = some (.cells (List.replicate 21 (Value.int .i64 0)).toArray 24 (0, 0)))
    (b0 : Below wd.heap.size wd w0) (b1 : Below w0.heap.size w0 w2) (b2 : Below w2.heap.size w2 w3) : RS wd g0 g2 l 0 w3 := by
  have s0 := (Array.getElem?_eq_some_iff.1 h0).1
  have s1 := b1.size
  refine ⟨by omega, by omega, ?_, ?_, ?_⟩
  · unfold recBox; rw [gl_zero]; exact blk_below (blk_below h0 b1) b2
  · unfold recBox; rw [gl_zero]; exact h2
  · exact below_then (below_then b0 b0.size b1) (below_then b0 b0.size b1).size b2
theorem RS.zero {wd w1 w2 : World} {g0 g2 : Nat} {l : List Int} (h1 : g0 = wd.heap.size ∧ w1.heap[g0]? = some (.cells (List.replicate 21 (Value.int .i64 0)).toArray 24 (0, 0)) ∧ Below wd.heap.size wd w1 ∧ wd.heap.size ≤ w1.heap.size)
    (h4 : g2 = w1.heap.size ∧ w2.heap[g2]? = some (.cells (List.replicate 21 (Value.int .i64 0)).toArray 24 (0, 0)) ∧ Below w1.heap.size w1 w2) : RS wd g0 g2 l 0 (w2.setRow g2 (List.replicate 21 (Value.int .i64 0)).toArray) := by
  obtain ⟨e0, c0, b0, _⟩ := h1
  obtain ⟨e2, c2, b2⟩ := h4
  have s0 := (Array.getElem?_eq_some_iff.1 c0).1
  refine ⟨by omega, by omega, ?_, ?_, ?_⟩
  · rw [setRow_other _ g2 _ _ (by omega)]; unfold recBox; rw [gl_zero]; exact blk_below c0 b2
  · unfold recBox; rw [gl_zero]; exact setRow_heap _ g2 _ _ _ _ c2
  · exact below_setRow (below_then b0 b0.size b2) (by omega) _
theorem rget_at (i K : Nat) (A : Option Addr) (c : Nat) (l : List Int) (a wd : Int) (w : World) (ha : a = ((offs i : Nat) : Int)) (hw : wd = wid i) (n : Nat) (hn : l.length = n) (hr : Kd.C (Kd.int .u8) w A l.length l) (hc : l.length ≤ c) (h : ∃ b, moraineref01_Get.f K l ((offs i : Nat) : Int) (wid i) = some (fv l i, b)) :
    Calls Tryd.prog 27 #[.slice A n c, .int .i64 a, .int .i64 wd] w fun e w' => ∃ b, e = .returned (.tuple #[.int .i64 (fv l i), .bool b]) ∧ Drawn0 w w' := by
  subst hn; subst ha; subst hw
  obtain ⟨b, h⟩ := h
  exact (moraineref01_Get.calls K A c l _ _ _ b w hr hc h).mono fun e w' h => ⟨b, h⟩
theorem rnought_at (K n : Nat) (A0 : Option Addr) (c0 : Nat) (l0 : List Int) (r : Bool) (w : World) (hn : l0.length = n) (hr0 : Kd.C (Kd.int .u8) w A0 l0.length l0) (hc0 : l0.length ≤ c0) (h : moraineref01_Nought.f K l0 = some r) :
    Calls Tryd.prog 26 #[.slice A0 n c0] w fun e w' => e = .returned (.bool r) ∧ Drawn0 w w' := by
  subst hn; exact moraineref01_Nought.calls K A0 c0 l0 r w hr0 hc0 h
theorem rhsz (L : List Int) (hL : L.length = 21) : (Tryd.prog.info? 24).map (·.size) = some (encs (Value.int .i64) L).toArray.size := by
  rw [show (encs (Value.int .i64) L).toArray.size = 21 from by rw [List.size_toArray, encs_length]; exact hL]
  kernel_rfl

set_option maxHeartbeats 1000000 in
theorem rget_no (A : Option Addr) (n c : Nat) (wd : World) (h : n ≠ 56) :
    Calls Tryd.prog 11 #[.slice A n c] wd fun e w' => e = .returned (.tuple #[recV (List.replicate 21 0), .bool false]) ∧ Below wd.heap.size wd w' := by
  have hb : ((n : Int) != 56) = true := by rw [bne_iff_ne]; omega
  go_enter Tryd.func11, Tryd.ntmps11
  go_wp2_with (first | ((with_reducible refine gate_dst (N := 2) rfl ?_); refine box_event ?hg (N := 2) ?hd (cs := (List.replicate 21 (Value.int .i64 0)).toArray) (t := 24) ?hr ?_; (case hd => rfl); (case hg => rfl); (case hr => first | (go_simp; done) | (go_simp; rfl)); intro g0 hg_ w0 hbox hb; have X0 := Lib.hid (And.intro hg_ (And.intro hbox hb)); clear hg_ hbox hb) | (refine wpList_store_row rfl 24 (.tmp 2) (.tmp 15) rfl g0 (List.replicate 21 (Value.int .i64 0)).toArray rfl rfl 24 _ X0.out.2.1 (by kernel_rfl) (by rfl) zero_one ?_))
  refine bodyPost_ret (results_ct rfl _ _ g0 24 (List.replicate 21 (Value.int .i64 0)).toArray (0, 0) _ rfl (setRow_heap _ g0 _ _ _ _ X0.out.2.1) Tryd.underlying24 rfl (by kernel_rfl)) rfl ?_
  exact ⟨rfl, below_setRow X0.out.2.2 (Nat.le_of_eq X0.out.1.symm) _⟩

set_option maxHeartbeats 2000000 in
theorem rget_yes (K : Nat) (A : Option Addr) (c : Nat) (l : List Int) (wd : World) (hC : Kd.C (Kd.int .u8) wd A l.length l) (hc : l.length ≤ c) (hl : l.length = 56) (b q : Bool) (hb : okRec (gl l 21) = b) (hq : moraineref01_Nought.f K (l.drop 43) = some q)
    (hgf : ∀ i, i < 21 → ∃ b, moraineref01_Get.f K l ((offs i : Nat) : Int) (wid i) = some (fv l i, b)) :
    Calls Tryd.prog 11 #[.slice A l.length c] wd fun e w' => e = .returned (gout l (b && q)) ∧ Below wd.heap.size wd w' := by
  have HC := Lib.hid hC
  have HL := Lib.hid hl
  have HCC := Lib.hid hc
  have HGF := Lib.hid hgf
  have HBB := Lib.hid hb
  obtain ⟨D, hD⟩ : ∃ D, l.drop 43 = D := ⟨_, rfl⟩
  have HD : Hid (D.length = 13) := by show D.length = 13; rw [← hD, List.length_drop, HL.out]
  obtain ⟨i0, hi0, _, hsz0, _⟩ := info_parts infoU8e
  obtain ⟨A', hcut, hA, hM⟩ := print_drop_of (P := Tryd.prog) (Value.int .u8) 0 25 5 .i64 Tryd.underlying25 hi0 hsz0 A c l 43 (by decide) (by rw [HL.out]; decide) HCC.out
  obtain ⟨c', hc'⟩ : ∃ c', c - (43 : Int).toNat = c' := ⟨_, rfl⟩
  rw [hc', show l.drop (43 : Int).toNat = D from hD, HD.out, HL.out] at hcut
  rw [show l.drop (43 : Int).toNat = D from hD] at hA
  rw [hc', show l.drop (43 : Int).toNat = D from hD] at hM
  rw [hD] at hq
  have HDC : Hid (∀ w, Below wd.heap.size wd w → Kd.C (Kd.int .u8) w A' D.length D) := fun w h => Kd.C_of_reads (h1 := fun _ => rfl) (hA _ (Kd.reads_of_C (Kd.C_below HC.out h)))
  have HDM := Lib.hid hM
  have HQ := Lib.hid hq
  rw [hl]
  clear hi0 hsz0 hA hM hq hD hc' hC hl hc hgf hb
  cases q with
  | false =>
    go_enter Tryd.func11, Tryd.ntmps11
    go_wp2_with (first | ((with_reducible refine gate_dst (N := 2) rfl ?_); refine box_event ?hg (N := 2) ?hd (cs := (List.replicate 21 (Value.int .i64 0)).toArray) (t := 24) ?hr ?_; (case hd => rfl); (case hg => rfl); (case hr => first | (go_simp; done) | (go_simp; rfl)); intro g0 hg_ w0 hbox hb; have X0 := Lib.hid (And.intro hg_ (And.intro hbox hb)); clear hg_ hbox hb) | (go_at_call 26; refine (rnought_at K 13 A' c' D false _ HD.out (HDC.out _ X0.out.2.2) HDM.out HQ.out).mono ?_; rintro e w11 ⟨rfl, nd, rfl⟩; have X1 := Lib.hid (And.intro X0.out.1 (And.intro (show (w0.drewN nd).heap[g0]? = _ from X0.out.2.1) (pw_below_drewN X0.out.2.2 nd))); clear X0; have X0 := X1; clear X1) | (refine wpList_store_row rfl 24 (.tmp 2) (.tmp 15) rfl g0 (List.replicate 21 (Value.int .i64 0)).toArray rfl rfl 24 _ X0.out.2.1 (by kernel_rfl) (by rfl) zero_one ?_))
    refine bodyPost_ret (results_ct rfl _ _ g0 24 (List.replicate 21 (Value.int .i64 0)).toArray (0, 0) _ rfl (setRow_heap _ g0 _ _ _ _ X0.out.2.1) Tryd.underlying24 rfl (by kernel_rfl)) rfl ?_
    refine ⟨?_, below_setRow X0.out.2.2 (Nat.le_of_eq X0.out.1.symm) _⟩
    rw [Bool.and_false]; rfl
  | true =>
    rw [Bool.and_true]
    go_enter Tryd.func11, Tryd.ntmps11
    go_wp2_with (first | ((with_reducible refine gate_dst (N := 2) rfl ?_); refine box_event ?hg (N := 2) ?hd (cs := (List.replicate 21 (Value.int .i64 0)).toArray) (t := 24) ?hr ?_; (case hd => rfl); (case hg => rfl); (case hr => first | (go_simp; done) | (go_simp; rfl)); intro g0 hg_ w0 hbox hb; have X0 := Lib.hid (And.intro hg_ (And.intro hbox hb)); clear hg_ hbox hb) | (go_at_call 26; refine (rnought_at K 13 A' c' D true _ HD.out (HDC.out _ X0.out.2.2) HDM.out HQ.out).mono ?_; rintro e w11 ⟨rfl, nd, rfl⟩; have X1 := Lib.hid (And.intro X0.out.1 (And.intro (show (w0.drewN nd).heap[g0]? = _ from X0.out.2.1) (And.intro (pw_below_drewN X0.out.2.2 nd) (pw_below_drewN X0.out.2.2 nd).size))); clear X0; generalize w0.drewN nd = w1 at X1 ⊢) | ((with_reducible refine gate_dst (N := 4) rfl ?_); refine box_event ?hg (N := 4) ?hd (cs := (List.replicate 21 (Value.int .i64 0)).toArray) (t := 24) ?hr ?_; (case hd => rfl); (case hg => rfl); (case hr => first | (go_simp; done) | (go_simp; rfl)); intro g2 hg_ w2 hbox hb; have X4 := Lib.hid (And.intro hg_ (And.intro hbox hb)); clear hg_ hbox hb) | (refine wpList_store_row rfl 24 (.tmp 4) (.tmp 16) rfl g2 (List.replicate 21 (Value.int .i64 0)).toArray rfl rfl 24 _ X4.out.2.1 (by kernel_rfl) (by rfl) zero_one ?_; have HG := Lib.hid (RS.zero (l := l) X1.out X4.out); clear X1 X4))
    obtain ⟨W3, hW3⟩ : ∃ W, World.setRow w2 g2 #[.int .i64 0, .int .i64 0, .int .i64 0, .int .i64 0, .int .i64 0, .int .i64 0, .int .i64 0, .int .i64 0, .int .i64 0, .int .i64 0, .int .i64 0, .int .i64 0, .int .i64 0, .int .i64 0, .int .i64 0, .int .i64 0, .int .i64 0, .int .i64 0, .int .i64 0, .int .i64 0, .int .i64 0] = W := ⟨_, rfl⟩
    rw [hW3]
    have t_ : Hid (RS wd g0 g2 l 0 W3) := by rw [← hW3]; exact HG
    clear hW3 HG; have HG := t_; clear t_
    refine (rget_at 0 K A c l 0 1 _ (by first | rfl | (unfold offs; omega) | (unfold offs; rw [if_neg (by omega), if_neg (by omega), if_neg (by omega)]; omega)) (by first | rfl | (unfold wid; rw [if_neg (by omega), if_neg (by omega)])) 56 HL.out (Kd.C_below HC.out HG.out.below) HCC.out (HGF.out 0 (by omega))).mono ?_
    rintro e w3 ⟨b_, rfl, nd, rfl⟩
    obtain ⟨y, hy⟩ : ∃ y, fv l (0) = y := ⟨_, rfl⟩
    have HY := Lib.hid hy
    have HT := Lib.hid (RS.drewN HG.out nd)
    have hz := HT.out.cell (by omega)
    have hf := HT.out.frz (0)
    rw [hy]
    clear hy HG
    go_wp2_with fail
    have HG := Lib.hid (HT.out.store HY.out)
    clear HT hz hf HY
    refine (rget_at 1 K A c l 1 2 _ (by first | rfl | (unfold offs; omega) | (unfold offs; rw [if_neg (by omega), if_neg (by omega), if_neg (by omega)]; omega)) (by first | rfl | (unfold wid; rw [if_neg (by omega), if_neg (by omega)])) 56 HL.out (Kd.C_below HC.out HG.out.below) HCC.out (HGF.out 1 (by omega))).mono ?_
    rintro e w4 ⟨b_, rfl, nd, rfl⟩
    obtain ⟨y, hy⟩ : ∃ y, fv l (1) = y := ⟨_, rfl⟩
    have HY := Lib.hid hy
    have HT := Lib.hid (RS.drewN HG.out nd)
    have hz := HT.out.cell (by omega)
    have hf := HT.out.frz (1)
    rw [hy]
    clear hy HG
    go_wp2_with fail
    have HG := Lib.hid (HT.out.store HY.out)
    clear HT hz hf HY
    refine (rget_at 2 K A c l 3 4 _ (by first | rfl | (unfold offs; omega) | (unfold offs; rw [if_neg (by omega), if_neg (by omega), if_neg (by omega)]; omega)) (by first | rfl | (unfold wid; rw [if_neg (by omega), if_neg (by omega)])) 56 HL.out (Kd.C_below HC.out HG.out.below) HCC.out (HGF.out 2 (by omega))).mono ?_
    rintro e w5 ⟨b_, rfl, nd, rfl⟩
    obtain ⟨y, hy⟩ : ∃ y, fv l (2) = y := ⟨_, rfl⟩
    have HY := Lib.hid hy
    have HT := Lib.hid (RS.drewN HG.out nd)
    have hz := HT.out.cell (by omega)
    have hf := HT.out.frz (2)
    rw [hy]
    clear hy HG
    go_wp2_with fail
    have HG := Lib.hid (HT.out.store HY.out)
    clear HT hz hf HY
    have HL3 : Hid (RS wd g0 g2 l 3 _) := HG
    clear HG
    go_loopw [5] (fun i wr => ∃ k : Nat, k ≤ 16 ∧ i = .int .i64 k ∧ Hid (RS wd g0 g2 l (3 + k) wr)) (fun i _ => 16 - (intOf i).toNat)
    case atStart => exact ⟨0, Nat.zero_le _, rfl, HL3⟩
    case round =>
      clear HL3
      obtain ⟨k, hk, rfl, HG⟩ := hrel
      by_cases hlt : k < 16
      · go_wp2_with fail
        refine (rget_at (3 + k) K A c l (7 + 2 * (k : Int)) 2 _ (by first | rfl | (unfold offs; omega) | (unfold offs; rw [if_neg (by omega), if_neg (by omega), if_neg (by omega)]; omega)) (by first | rfl | (unfold wid; rw [if_neg (by omega), if_neg (by omega)])) 56 HL.out (Kd.C_below HC.out HG.out.below) HCC.out (HGF.out (3 + k) (by omega))).mono ?_
        rintro e w6 ⟨b_, rfl, nd, rfl⟩
        obtain ⟨y, hy⟩ : ∃ y, fv l ((3 + k)) = y := ⟨_, rfl⟩
        have HY := Lib.hid hy
        have HT := Lib.hid (RS.drewN HG.out nd)
        have hz := HT.out.cell (by omega)
        have hf := HT.out.frz ((3 + k))
        rw [hy]
        clear hy HG
        go_wp2
        go_roundw
        case rel => exact ⟨k + 1, by omega, by go_num, HT.out.store HY.out⟩
        case measure => simp [intOf]; omega
      · have hk16 : k = 16 := by omega
        subst hk16
        go_wp2_with fail
        have t_ : Hid (RS wd g0 g2 l 19 wr) := HG
        clear HG; have HG := t_; clear t_
        refine (rget_at 19 K A c l 39 2 _ (by first | rfl | (unfold offs; omega) | (unfold offs; rw [if_neg (by omega), if_neg (by omega), if_neg (by omega)]; omega)) (by first | rfl | (unfold wid; rw [if_neg (by omega), if_neg (by omega)])) 56 HL.out (Kd.C_below HC.out HG.out.below) HCC.out (HGF.out 19 (by omega))).mono ?_
        rintro e w8 ⟨b_, rfl, nd, rfl⟩
        obtain ⟨y, hy⟩ : ∃ y, fv l (19) = y := ⟨_, rfl⟩
        have HY := Lib.hid hy
        have HT := Lib.hid (RS.drewN HG.out nd)
        have hz := HT.out.cell (by omega)
        have hf := HT.out.frz (19)
        rw [hy]
        clear hy HG
        go_wp2_with fail
        have HG := Lib.hid (HT.out.store HY.out)
        clear HT hz hf HY
        refine (rget_at 20 K A c l 41 2 _ (by first | rfl | (unfold offs; omega) | (unfold offs; rw [if_neg (by omega), if_neg (by omega), if_neg (by omega)]; omega)) (by first | rfl | (unfold wid; rw [if_neg (by omega), if_neg (by omega)])) 56 HL.out (Kd.C_below HC.out HG.out.below) HCC.out (HGF.out 20 (by omega))).mono ?_
        rintro e w9 ⟨b_, rfl, nd, rfl⟩
        obtain ⟨y, hy⟩ : ∃ y, fv l (20) = y := ⟨_, rfl⟩
        have HY := Lib.hid hy
        have HT := Lib.hid (RS.drewN HG.out nd)
        have hz := HT.out.cell (by omega)
        have hf := HT.out.frz (20)
        rw [hy]
        clear hy HG
        have HG := Lib.hid (HT.out.store HY.out)
        obtain ⟨R, hR⟩ : ∃ R, gl l 21 = R := ⟨_, rfl⟩
        have HR := Lib.hid hR
        have HRL : Hid (R.length = 21) := by rw [← hR]; exact gl_len l 21
        have HSZ := Lib.hid (rhsz R HRL.out)
        have HC2 : Hid (∀ w, RS wd g0 g2 l 21 w → w.heap[g2]? = some (.cells (encs (Value.int .i64) R).toArray 24 (0, 0))) := fun w h => by rw [← hR]; exact h.c2
        have HB : Hid (okRec R = b) := by rw [← hR]; exact HBB.out
        clear hR HT HY
        cases b with
        | false =>
          go_wp2_with (first | ((with_reducible refine gate_dst (N := 62) rfl ?_); refine wpList_load_row rfl 24 (.tmp 4) rfl g2 rfl 24 (encs (Value.int .i64) R).toArray (0, 0) _ (HC2.out _ HG.out) Tryd.underlying24 rfl HSZ.out ?_) | (go_at_call 22; refine (moraineref14_Right.calls R HRL.out _).mono ?_; rintro e w10 ⟨rfl, hB⟩; have t_ := Lib.hid (RS.step HG.out hB); clear HG; have HG := t_; clear t_ hB; rw [HB.out]) | (refine wpList_store_row rfl 24 (.tmp 2) (.tmp 65) rfl g0 (List.replicate 21 (Value.int .i64 0)).toArray rfl rfl 24 _ HG.out.c0 (by kernel_rfl) (by rw [List.size_toArray, encs_length, gl_len]; rfl) zero_one ?_))
          refine bodyPost_ret (results_ct rfl _ _ g0 24 (List.replicate 21 (Value.int .i64 0)).toArray (0, 0) _ rfl (setRow_heap _ g0 _ _ _ _ HG.out.c0) Tryd.underlying24 rfl (by kernel_rfl)) rfl ?_
          exact ⟨rfl, below_setRow HG.out.below HG.out.lt0 _⟩
        | true =>
          go_wp2_with (first | ((with_reducible refine gate_dst (N := 62) rfl ?_); refine wpList_load_row rfl 24 (.tmp 4) rfl g2 rfl 24 (encs (Value.int .i64) R).toArray (0, 0) _ (HC2.out _ HG.out) Tryd.underlying24 rfl HSZ.out ?_) | (go_at_call 22; refine (moraineref14_Right.calls R HRL.out _).mono ?_; rintro e w10 ⟨rfl, hB⟩; have t_ := Lib.hid (RS.step HG.out hB); clear HG; have HG := t_; clear t_ hB; rw [HB.out]) | ((with_reducible refine gate_dst (N := 66) rfl ?_); refine wpList_load_row rfl 24 (.tmp 4) rfl g2 rfl 24 (encs (Value.int .i64) R).toArray (0, 0) _ (HC2.out _ HG.out) Tryd.underlying24 rfl HSZ.out ?_) | (refine wpList_store_row rfl 24 (.tmp 2) (.tmp 66) rfl g0 (encs (Value.int .i64) R).toArray rfl rfl 24 _ HG.out.c0 HSZ.out (by rw [List.size_toArray, encs_length, gl_len, List.size_toArray, encs_length, HRL.out]) (encs_one R) ?_))
          refine bodyPost_ret (results_ct rfl _ _ g0 24 (encs (Value.int .i64) R).toArray (0, 0) _ rfl (setRow_heap _ g0 _ _ _ _ HG.out.c0) Tryd.underlying24 rfl HSZ.out) rfl ?_
          refine ⟨?_, below_setRow HG.out.below HG.out.lt0 _⟩
          show _ = Ending.returned (.tuple #[recV (gl l 21), .bool true])
          rw [HR.out]; rfl
theorem moraineref14_Get.calls (K : Nat) (A : Option Addr) (c : Nat) (l R : List Int) (ok : Bool) (w : World) (hr : Kd.C (Kd.int .u8) w A l.length l) (hc : l.length ≤ c) (h : inode_Get.f l = (R, ok))
    (hgf : l.length = 56 → ∀ i, i < 21 → ∃ b, moraineref01_Get.f K l ((offs i : Nat) : Int) (wid i) = some (fv l i, b)) (hnf : l.length = 56 → moraineref01_Nought.f K (l.drop 43) = some (decide (tl (l.drop 43) (l.drop 43).length = 0))) :
    Calls Tryd.prog 11 #[.slice A l.length c] w fun e w' => e = .returned (.tuple #[recV R, .bool ok]) ∧ Below w.heap.size w w' := by
  unfold inode_Get.f getOk at h
  by_cases hl : l.length = 56
  · obtain ⟨b, hb⟩ : ∃ b, okRec (gl l 21) = b := ⟨_, rfl⟩
    obtain ⟨q, hq⟩ : ∃ q, decide (tl (l.drop 43) (l.drop 43).length = 0) = q := ⟨_, rfl⟩
    rw [decide_eq_true hl, hb, hq, Bool.true_and] at h
    refine (rget_yes K A c l w hr hc hl b q hb (by rw [hnf hl, hq]) (hgf hl)).mono ?_
    rintro e w' ⟨rfl, hB⟩
    refine ⟨?_, hB⟩
    unfold gout
    cases hbq : (b && q) with
    | true => rw [hbq] at h; cases h; rfl
    | false => rw [hbq] at h; cases h; rfl
  · rw [decide_eq_false hl] at h
    cases h
    exact rget_no A _ c w hl
end Go.Proofs.YthmfhhkedmloeaaDoor.Given
