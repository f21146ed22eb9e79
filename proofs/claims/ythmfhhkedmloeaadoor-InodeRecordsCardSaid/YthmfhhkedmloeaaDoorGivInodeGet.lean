/- The contract of inode.Get: by hand. -/
import Derived.Test.YthmfhhkedmloeaaDoorGivInodePut
import Derived.Test.YthmfhhkedmloeaaDoorGivTake
import Derived.Test.YthmfhhkedmloeaaDoorGivNought
import Derived.Laws.Tables
import Derived.Laws.CopyOwn
namespace Go.Proofs.YthmfhhkedmloeaaDoor.Given
open Go.RowKit Go.Proofs.YthmfhhkedmloeaaDoorW.PrintWords Go.Proofs.YthmfhhkedmloeaaDoorW.PrintLast Go.Proofs.YthmfhhkedmloeaaDoorW.PrintMore
set_option linter.unusedVariables false
set_option linter.unusedSimpArgs false

/-- Where the field i of a record begins, and how wide it is. -/
def offs (i : Nat) : Nat := if i = 0 then 0 else if i = 1 then 1 else if i = 2 then 3 else 2 * i + 1
def wid (i : Nat) : Int := if i = 0 then 1 else if i = 2 then 4 else 2
theorem offs_succ (i : Nat) : ((offs i : Nat) : Int) + wid i = ((offs (i + 1) : Nat) : Int) := by
  unfold offs wid
  rcases (by omega : i = 0 ∨ i = 1 ∨ i = 2 ∨ 3 ≤ i) with rfl | rfl | rfl | h
  · rfl
  · rfl
  · rfl
  · rw [if_neg (by omega), if_neg (by omega), if_neg (by omega), if_neg (by omega), if_neg (by omega), if_neg (by omega), if_neg (by omega), if_neg (by omega)]; omega
def fv (l : List Int) (i : Nat) : Int := tv l ((offs i : Nat) : Int) (wid i)
/-- The record when n fields are read. -/
def gl (l : List Int) (n : Nat) : List Int := (List.range 21).map fun i => if i < n then fv l i else 0
theorem gl_len (l : List Int) (n : Nat) : (gl l n).length = 21 := by simp [gl]
theorem gl_get (l : List Int) (n i : Nat) (h : i < 21) : (gl l n)[i]? = some (if i < n then fv l i else 0) := by
  unfold gl; rw [List.getElem?_map, List.getElem?_range h]; rfl
theorem gl_set (l : List Int) (n : Nat) : (gl l n).set n (fv l n) = gl l (n + 1) := by
  refine List.ext_getElem? fun i => ?_
  rw [List.getElem?_set]
  by_cases hi : i < 21
  · rw [gl_get _ _ _ hi, gl_get _ _ _ hi]
    by_cases e : n = i
    · subst e
      rw [if_pos rfl, if_pos (by rw [gl_len]; exact hi), if_pos (by omega)]
    · rw [if_neg e]
      by_cases h2 : i < n
      · rw [if_pos h2, if_pos (by omega)]
      · rw [if_neg h2, if_neg (by omega)]
  · rw [List.getElem?_eq_none (l := gl l (n + 1)) (by rw [gl_len]; omega), List.getElem?_eq_none (l := gl l n) (by rw [gl_len]; omega)]
    by_cases e : n = i
    · rw [if_pos e, if_neg (by rw [gl_len]; omega)]
    · rw [if_neg e]
def recBox (L : List Int) : Obj := .cells (encs (Value.int .i64) L).toArray 24 (0, 0)
theorem encs_set (L : List Int) (i : Nat) (x : Int) : (encs (Value.int .i64) L).toArray.setIfInBounds i (.int .i64 x) = (encs (Value.int .i64) (L.set i x)).toArray := by
  simp [encs, List.map_set]
/-- What the walk of Get keeps of the world: m fields taken, n fields stored. -/
structure GS (wd : World) (g0 g1 g2 : Nat) (A : Option Addr) (c : Nat) (l : List Int) (m n : Nat) (w : World) : Prop where
  lt0 : wd.heap.size ≤ g0
  lt1 : g0 < g1
  lt2 : g1 < g2
  c0 : w.heap[g0]? = some (recBox (gl l 0))
  c1 : w.heap[g1]? = some (takeBox A l.length c ((offs m : Nat) : Int))
  c2 : w.heap[g2]? = some (recBox (gl l n))
  below : Below wd.heap.size wd w
theorem GS.step {wd w w1 : World} {g0 g1 g2 c m n : Nat} {A : Option Addr} {l : List Int} (h : GS wd g0 g1 g2 A c l m n w) (hB : Below w.heap.size w w1) : GS wd g0 g1 g2 A c l m n w1 :=
  ⟨h.lt0, h.lt1, h.lt2, blk_below h.c0 hB, blk_below h.c1 hB, blk_below h.c2 hB, h.below.trans (hB.mono h.below.size)⟩
theorem GS.lt {wd w : World} {g0 g1 g2 c m n : Nat} {A : Option Addr} {l : List Int} (h : GS wd g0 g1 g2 A c l m n w) : g2 < w.heap.size := (Array.getElem?_eq_some_iff.1 h.c2).1
theorem GS.take {wd w w1 : World} {g0 g1 g2 c m n : Nat} {A : Option Addr} {l : List Int} (h : GS wd g0 g1 g2 A c l m n w) (hb : w1.heap[g1]? = some (takeBox A l.length c (((offs m : Nat) : Int) + wid m))) (hg : w.grownBy w1 (some g1)) : GS wd g0 g1 g2 A c l (m + 1) n w1 := by
  have hl := h.lt
  have a := h.lt0; have b := h.lt1; have d := h.lt2
  obtain ⟨e0, e1, e2, e3, e4⟩ := hg
  exact ⟨a, b, d, (e4 g0 (by omega) (fun e => by cases e; omega)).trans h.c0, by rw [hb, offs_succ], (e4 g2 (by omega) (fun e => by cases e; omega)).trans h.c2,
    h.below.trans ((Below.refl wd.heap.size w).grown ⟨e0, e1, e2, e3, e4⟩ (by omega) (fun j hj => by cases hj; omega))⟩
theorem GS.store {wd w : World} {g0 g1 g2 c m n : Nat} {A : Option Addr} {l : List Int} (h : GS wd g0 g1 g2 A c l m n w) {y : Int} (hy : fv l n = y) : GS wd g0 g1 g2 A c l m (n + 1) (w.setCell ⟨g2, n, none⟩ (.int .i64 y)) := by
  have hl := h.lt
  have a := h.lt0; have b := h.lt1; have d := h.lt2
  refine ⟨a, b, d, ?_, ?_, ?_, ?_⟩
  · rw [heap_setCell_other _ _ _ _ (show g0 ≠ g2 by omega)]; exact h.c0
  · rw [heap_setCell_other _ _ _ _ (show g1 ≠ g2 by omega)]; exact h.c1
  · rw [heap_setCell_same w g2 n _ _ _ h.c2, encs_set, ← hy, gl_set]; rfl
  · exact below_set h.below (by show wd.heap.size ≤ g2; omega)
theorem GS.cell {wd w : World} {g0 g1 g2 c m n : Nat} {A : Option Addr} {l : List Int} (h : GS wd g0 g1 g2 A c l m n w) (hn : n < 21) : w.cell? ⟨g2, n, none⟩ = some (.int .i64 0) := by
  rw [cell_of_row w g2 n _ _ _ h.c2]
  simp only [List.getElem?_toArray, encs, List.getElem?_map, gl_get l n n hn, Nat.lt_irrefl, if_false, Option.map_some]
theorem GS.frz {wd w : World} {g0 g1 g2 c m n : Nat} {A : Option Addr} {l : List Int} (h : GS wd g0 g1 g2 A c l m n w) (j : Nat) : w.frozen? ⟨g2, j, none⟩ = false := frozen_of_row w g2 j _ _ h.c2
theorem gl_zero (l : List Int) : encs (Value.int .i64) (gl l 0) = List.replicate 21 (Value.int .i64 0) := by
  simp [gl, encs, List.range_succ]
theorem GS.start {wd w0 w1 w2 : World} {g0 g1 g2 c : Nat} {A : Option Addr} {l : List Int} (e0 : g0 = wd.heap.size) (e1 : g1 = w0.heap.size) (e2 : g2 = w1.heap.size)
    (h0 : w0.heap[g0]? = some (.cells (List.replicate 21 (Value.int .i64 0)).toArray 24 (0, 0))) (h1 : w1.heap[g1]? = some (.cells #[.slice A l.length c, .int .i64 0] 51 (0, 0))) (h2 : w2.heap[g2]? = some (.cells (List.replicate 21 (Value.int .i64 0)).toArray 24 (0, 0)))
    (b0 : Below wd.heap.size wd w0) (b1 : Below w0.heap.size w0 w1) (b2 : Below w1.heap.size w1 w2) : GS wd g0 g1 g2 A c l 0 0 w2 := by
  have s0 := (Array.getElem?_eq_some_iff.1 h0).1
  have s1 := (Array.getElem?_eq_some_iff.1 h1).1
  refine ⟨by omega, by omega, by omega, ?_, ?_, ?_, ?_⟩
  · unfold recBox; rw [gl_zero]; exact blk_below (blk_below h0 b1) b2
  · exact blk_below h1 b2
  · unfold recBox; rw [gl_zero]; exact h2
  · exact below_then (below_then b0 b0.size b1) (below_then b0 b0.size b1).size b2
theorem replicate_def : (List.replicate 21 (Value.int .i64 0)).toArray = #[.int .i64 0, .int .i64 0, .int .i64 0, .int .i64 0, .int .i64 0, .int .i64 0, .int .i64 0, .int .i64 0, .int .i64 0, .int .i64 0, .int .i64 0, .int .i64 0, .int .i64 0, .int .i64 0, .int .i64 0, .int .i64 0, .int .i64 0, .int .i64 0, .int .i64 0, .int .i64 0, .int .i64 0] := rfl

theorem GS.drewN {wd w : World} {g0 g1 g2 c m n : Nat} {A : Option Addr} {l : List Int} (h : GS wd g0 g1 g2 A c l m n w) (k : Nat) : GS wd g0 g1 g2 A c l m n (w.drewN k) :=
  ⟨h.lt0, h.lt1, h.lt2, h.c0, h.c1, h.c2, pw_below_drewN h.below k⟩
theorem encs_one (R : List Int) : (encs (Value.int .i64) R).toArray.all (·.oneCell') = true := by
  rw [List.all_toArray, List.all_eq_true]
  intro v hv
  simp only [encs, List.mem_map] at hv
  obtain ⟨x, _, rfl⟩ := hv
  rfl
theorem zero_one : (List.replicate 21 (Value.int .i64 0)).toArray.all (·.oneCell') = true := by
  have h := encs_one (List.replicate 21 0)
  rw [show encs (Value.int .i64) (List.replicate 21 0) = List.replicate 21 (Value.int .i64 0) from by simp [encs]] at h
  exact h
theorem nought_at (n : Nat) (A0 : Option Addr) (c0 : Nat) (l0 : List Int) (r : Bool) (w : World) (hn : l0.length = n) (hr0 : Kd.C (Kd.int .u8) w A0 l0.length l0) (hc0 : l0.length ≤ c0) (h : bits_Nought.f l0 = some r) :
    Calls Tryd.prog 25 #[.slice A0 n c0] w fun e w' => e = .returned (.bool r) ∧ Drawn0 w w' := by
  subst hn; exact bits_Nought.calls A0 c0 l0 r w hr0 hc0 h
/-- What Get answers. -/
def gout (l : List Int) (ok : Bool) : Value := .tuple #[recV (if ok then gl l 21 else List.replicate 21 0), .bool ok]
set_option maxHeartbeats 2000000 in
theorem get_yes (A : Option Addr) (c : Nat) (l : List Int) (wd : World) (hC : Kd.C (Kd.int .u8) wd A l.length l) (hc : l.length ≤ c) (hl : l.length = 56) (b q : Bool) (hb : okRec (gl l 21) = b) (hq : bits_Nought.f (l.drop 43) = some q) :
    Calls Tryd.prog 10 #[.slice A l.length c] wd fun e w' => e = .returned (gout l (b && q)) ∧ Below wd.heap.size wd w' := by
  have HC := Lib.hid hC
  have HL := Lib.hid hl
  have HCC := Lib.hid hc
  rw [hl]
  clear hC hl hc
  go_enter Tryd.func10, Tryd.ntmps10
  go_wp2_with (first | ((with_reducible refine gate_dst (N := 2) rfl ?_); refine box_event ?hg (N := 2) ?hd (cs := (List.replicate 21 (Value.int .i64 0)).toArray) (t := 24) ?hr ?_; (case hd => rfl); (case hg => rfl); (case hr => first | (go_simp; done) | (go_simp; rfl)); intro g0 hg0 w0 hbox0 hb0; have X0 := Lib.hid (And.intro hg0 (And.intro hbox0 hb0)); clear hg0 hbox0 hb0) | ((with_reducible refine gate_dst (N := 13) rfl ?_); refine box_event ?hg (N := 13) ?hd (cs := #[.slice A 56 c, .int .i64 0]) (t := 51) ?hr ?_; (case hd => rfl); (case hg => rfl); (case hr => first | (go_simp; done) | (go_simp; rfl)); intro g1 hg1 w1 hbox1 hb1; have X1 := Lib.hid (And.intro hg1 (And.intro hbox1 hb1)); clear hg1 hbox1 hb1) | ((with_reducible refine gate_dst (N := 5) rfl ?_); refine box_event ?hg (N := 5) ?hd (cs := (List.replicate 21 (Value.int .i64 0)).toArray) (t := 24) ?hr ?_; (case hd => rfl); (case hg => rfl); (case hr => first | (go_simp; done) | (go_simp; rfl)); intro g2 hg2 w2 hbox2 hb2; have HG : Hid (GS wd g0 g1 g2 A c l 0 0 w2) := GS.start X0.out.1 X1.out.1 hg2 X0.out.2.1 (by rw [HL.out]; exact X1.out.2.1) hbox2 X0.out.2.2 X1.out.2.2 hb2; clear hg2 hbox2 hb2 X0 X1))
  refine (take_calls g1 A c l ((offs 0 : Nat) : Int) (wid 0) _ HG.out.c1 (Kd.C_below HC.out HG.out.below) HCC.out (by rw [HL.out]; decide) (by decide) (by decide) (by decide) (by decide)).mono ?_
  rintro e w3 ⟨rfl, hbox, hg⟩
  obtain ⟨y, hy⟩ : ∃ y, fv l 0 = y := ⟨_, rfl⟩
  have HT := Lib.hid (GS.take HG.out hbox hg)
  have HY := Lib.hid hy
  have hz := HT.out.cell (by decide)
  have hf := HT.out.frz 0
  have hy' : tv l ((offs 0 : Nat) : Int) (wid 0) = y := hy
  rw [hy']
  clear hbox hg hy hy' HG
  go_wp2_with fail
  have HG := Lib.hid (HT.out.store HY.out)
  clear HT hz hf HY
  refine (take_calls g1 A c l ((offs 1 : Nat) : Int) (wid 1) _ HG.out.c1 (Kd.C_below HC.out HG.out.below) HCC.out (by rw [HL.out]; decide) (by decide) (by decide) (by decide) (by decide)).mono ?_
  rintro e w4 ⟨rfl, hbox, hg⟩
  obtain ⟨y, hy⟩ : ∃ y, fv l 1 = y := ⟨_, rfl⟩
  have HT := Lib.hid (GS.take HG.out hbox hg)
  have HY := Lib.hid hy
  have hz := HT.out.cell (by decide)
  have hf := HT.out.frz 1
  have hy' : tv l ((offs 1 : Nat) : Int) (wid 1) = y := hy
  rw [hy']
  clear hbox hg hy hy' HG
  go_wp2_with fail
  have HG := Lib.hid (HT.out.store HY.out)
  clear HT hz hf HY
  refine (take_calls g1 A c l ((offs 2 : Nat) : Int) (wid 2) _ HG.out.c1 (Kd.C_below HC.out HG.out.below) HCC.out (by rw [HL.out]; decide) (by decide) (by decide) (by decide) (by decide)).mono ?_
  rintro e w5 ⟨rfl, hbox, hg⟩
  obtain ⟨y, hy⟩ : ∃ y, fv l 2 = y := ⟨_, rfl⟩
  have HT := Lib.hid (GS.take HG.out hbox hg)
  have HY := Lib.hid hy
  have hz := HT.out.cell (by decide)
  have hf := HT.out.frz 2
  have hy' : tv l ((offs 2 : Nat) : Int) (wid 2) = y := hy
  rw [hy']
  clear hbox hg hy hy' HG
  go_wp2_with fail
  have HG := Lib.hid (HT.out.store HY.out)
  clear HT hz hf HY
  have HL3 : Hid (GS wd g0 g1 g2 A c l 3 3 (w5.setCell ⟨g2, 2, none⟩ (.int .i64 y))) := HG
  clear HG
  generalize w5.setCell ⟨g2, 2, none⟩ (.int .i64 y) = W5 at HL3 ⊢
  go_loopw [6, 23] (fun _ i wr => ∃ k : Nat, k ≤ 16 ∧ i = .int .i64 k ∧ Hid (GS wd g0 g1 g2 A c l (3 + k) (3 + k) wr)) (fun _ i _ => 16 - (intOf i).toNat)
  case atStart => exact ⟨0, Nat.zero_le _, rfl, HL3⟩
  case round =>
    clear HL3
    obtain ⟨k, hk, rfl, HG⟩ := hrel
    by_cases hlt : k < 16
    · go_wp2_with fail
      have ho : ((offs (3 + k) : Nat) : Int) ≤ 140737488355328 := by unfold offs; rw [if_neg (by omega), if_neg (by omega), if_neg (by omega)]; omega
      have hw : wid (3 + k) = 2 := by unfold wid; rw [if_neg (by omega), if_neg (by omega)]
      refine (take_calls g1 A c l ((offs (3 + k) : Nat) : Int) 2 _ HG.out.c1 (Kd.C_below HC.out HG.out.below) HCC.out (by rw [HL.out]; decide) (by omega) ho (by decide) (by decide)).mono ?_
      rintro e w6 ⟨rfl, hbox, hg⟩
      rw [← hw] at hbox
      obtain ⟨y, hy⟩ : ∃ y, fv l (3 + k) = y := ⟨_, rfl⟩
      have HT := Lib.hid (GS.take HG.out hbox hg)
      have HY := Lib.hid hy
      have hz := HT.out.cell (by omega)
      have hf := HT.out.frz (3 + k)
      have hy' : tv l ((offs (3 + k) : Nat) : Int) 2 = y := by rw [← hy, ← hw]; rfl
      rw [hy']
      clear hbox hg hy hy' HG ho hw
      go_wp2
      go_roundw
      case rel => exact ⟨k + 1, by omega, by go_num, HT.out.store HY.out⟩
      case measure => simp [intOf]; omega
    · have hk16 : k = 16 := by omega
      subst hk16
      go_wp2_with fail
      have t_ : Hid (GS wd g0 g1 g2 A c l 19 19 wr) := HG
      clear HG; have HG := t_; clear t_
      refine (take_calls g1 A c l ((offs 19 : Nat) : Int) (wid 19) _ HG.out.c1 (Kd.C_below HC.out HG.out.below) HCC.out (by rw [HL.out]; decide) (by decide) (by decide) (by decide) (by decide)).mono ?_
      rintro e w8 ⟨rfl, hbox, hg⟩
      obtain ⟨y, hy⟩ : ∃ y, fv l 19 = y := ⟨_, rfl⟩
      have HT := Lib.hid (GS.take HG.out hbox hg)
      have HY := Lib.hid hy
      have hz := HT.out.cell (by decide)
      have hf := HT.out.frz 19
      have hy' : tv l ((offs 19 : Nat) : Int) (wid 19) = y := hy
      rw [hy']
      clear hbox hg hy hy' HG
      go_wp2_with fail
      have HG := Lib.hid (HT.out.store HY.out)
      clear HT hz hf HY
      refine (take_calls g1 A c l ((offs 20 : Nat) : Int) (wid 20) _ HG.out.c1 (Kd.C_below HC.out HG.out.below) HCC.out (by rw [HL.out]; decide) (by decide) (by decide) (by decide) (by decide)).mono ?_
      rintro e w9 ⟨rfl, hbox, hg⟩
      obtain ⟨y, hy⟩ : ∃ y, fv l 20 = y := ⟨_, rfl⟩
      have HT := Lib.hid (GS.take HG.out hbox hg)
      have HY := Lib.hid hy
      have hz := HT.out.cell (by decide)
      have hf := HT.out.frz 20
      have hy' : tv l ((offs 20 : Nat) : Int) (wid 20) = y := hy
      rw [hy']
      clear hbox hg hy hy' HG
      have HG := Lib.hid (HT.out.store HY.out)
      clear HT HY
      obtain ⟨R, hR⟩ : ∃ R, gl l 21 = R := ⟨_, rfl⟩
      have HR := Lib.hid hR
      have HRL : Hid (R.length = 21) := by rw [← hR]; exact gl_len l 21
      have HC2 : Hid ((w9.setCell ⟨g2, 20, none⟩ (.int .i64 y)).heap[g2]? = some (.cells (encs (Value.int .i64) R).toArray 24 (0, 0))) := by rw [← hR]; exact HG.out.c2
      have hsz : (Tryd.prog.info? 24).map (·.size) = some (encs (Value.int .i64) R).toArray.size := by
        rw [show (encs (Value.int .i64) R).toArray.size = 21 from by rw [List.size_toArray, encs_length]; exact HRL.out]
        kernel_rfl
      have HSZ := Lib.hid hsz
      clear hsz
      rw [hR] at hb
      have HB := Lib.hid hb
      clear hR hb
      have hz2 : ∀ w, GS wd g0 g1 g2 A c l 21 21 w → w.cell? ⟨g1, 1, none⟩ = some (.int .i64 43) := fun w h => (blk_cell h.c1 1).trans rfl
      have HZ2 := Lib.hid hz2
      clear hz2
      obtain ⟨D, hD⟩ : ∃ D, l.drop 43 = D := ⟨_, rfl⟩
      have HD : Hid (D.length = 13) := by show D.length = 13; rw [← hD, List.length_drop, HL.out]
      obtain ⟨i0, hi0, _, hsz0, _⟩ := info_parts infoU8e
      obtain ⟨A', hcut, hA, hM⟩ := print_drop_of (P := Tryd.prog) (Value.int .u8) 0 25 5 .i64 Tryd.underlying25 hi0 hsz0 A c l 43 (by decide) (by rw [HL.out]; decide) HCC.out
      obtain ⟨c', hc'⟩ : ∃ c', c - (43 : Int).toNat = c' := ⟨_, rfl⟩
      rw [hc', show l.drop (43 : Int).toNat = D from hD, HD.out, HL.out] at hcut
      rw [show l.drop (43 : Int).toNat = D from hD] at hA
      rw [hc', show l.drop (43 : Int).toNat = D from hD] at hM
      rw [hD] at hq
      have HDC : Hid (∀ w, Below wd.heap.size wd w → Kd.C (Kd.int .u8) w A' D.length D) := fun w h => Kd.C_of_reads (h1 := fun _ => rfl) (hA _ (Kd.reads_of_C (Kd.C_below HC.out h)))
      have HDM := Lib.hid hM
      have HQ := Lib.hid hq
      clear hi0 hsz0 hA hM hq hD hc'
      cases b with
      | false =>
        go_wp2_with (first | ((with_reducible refine gate_dst (N := 38) rfl ?_); refine wpList_load_row rfl 24 (.tmp 5) rfl g2 rfl 24 (encs (Value.int .i64) R).toArray (0, 0) _ HC2.out Tryd.underlying24 rfl HSZ.out ?_) | (go_at_call 18; refine (inode_right.calls R HRL.out _).mono ?_; rintro e w10 ⟨rfl, hB⟩; have t_ := Lib.hid (GS.step HG.out hB); clear HG; have HG := t_; clear t_ hB; have hat := HZ2.out _ HG.out; rw [HB.out]) | (refine wpList_store_row rfl 24 (.tmp 2) (.tmp 51) rfl g0 (List.replicate 21 (Value.int .i64 0)).toArray rfl rfl 24 _ HG.out.c0 (by kernel_rfl) (by rw [List.size_toArray, encs_length, gl_len]; rfl) zero_one ?_))
        refine bodyPost_ret (results_ct rfl _ _ g0 24 (List.replicate 21 (Value.int .i64 0)).toArray (0, 0) _ rfl (setRow_heap _ g0 _ _ _ _ HG.out.c0) Tryd.underlying24 rfl (by kernel_rfl)) rfl ?_
        exact ⟨rfl, below_setRow HG.out.below HG.out.lt0 _⟩

      | true =>
        cases q with
        | false =>
          go_wp2_with (first | ((with_reducible refine gate_dst (N := 38) rfl ?_); refine wpList_load_row rfl 24 (.tmp 5) rfl g2 rfl 24 (encs (Value.int .i64) R).toArray (0, 0) _ HC2.out Tryd.underlying24 rfl HSZ.out ?_) | (go_at_call 18; refine (inode_right.calls R HRL.out _).mono ?_; rintro e w10 ⟨rfl, hB⟩; have t_ := Lib.hid (GS.step HG.out hB); clear HG; have HG := t_; clear t_ hB; have hat := HZ2.out _ HG.out; rw [HB.out]) | (go_at_call 25; refine (nought_at 13 A' c' D false _ HD.out (HDC.out _ HG.out.below) HDM.out HQ.out).mono ?_; rintro e w11 ⟨rfl, nd, rfl⟩; have t_ := Lib.hid (GS.drewN HG.out nd); clear HG; have HG := t_; clear t_; clear hat) | (refine wpList_store_row rfl 24 (.tmp 2) (.tmp 51) rfl g0 (List.replicate 21 (Value.int .i64 0)).toArray rfl rfl 24 _ HG.out.c0 (by kernel_rfl) (by rw [List.size_toArray, encs_length, gl_len]; rfl) zero_one ?_))
          refine bodyPost_ret (results_ct rfl _ _ g0 24 (List.replicate 21 (Value.int .i64 0)).toArray (0, 0) _ rfl (setRow_heap _ g0 _ _ _ _ HG.out.c0) Tryd.underlying24 rfl (by kernel_rfl)) rfl ?_
          exact ⟨rfl, below_setRow HG.out.below HG.out.lt0 _⟩

        | true =>
          go_wp2_with (first | ((with_reducible refine gate_dst (N := 38) rfl ?_); refine wpList_load_row rfl 24 (.tmp 5) rfl g2 rfl 24 (encs (Value.int .i64) R).toArray (0, 0) _ HC2.out Tryd.underlying24 rfl HSZ.out ?_) | (go_at_call 18; refine (inode_right.calls R HRL.out _).mono ?_; rintro e w10 ⟨rfl, hB⟩; have t_ := Lib.hid (GS.step HG.out hB); clear HG; have HG := t_; clear t_ hB; have hat := HZ2.out _ HG.out; rw [HB.out]) | (go_at_call 25; refine (nought_at 13 A' c' D true _ HD.out (HDC.out _ HG.out.below) HDM.out HQ.out).mono ?_; rintro e w11 ⟨rfl, nd, rfl⟩; have t_ := Lib.hid (GS.drewN HG.out nd); clear HG; have HG := t_; clear t_; clear hat) | ((with_reducible refine gate_dst (N := 52) rfl ?_); refine wpList_load_row rfl 24 (.tmp 5) rfl g2 rfl 24 (encs (Value.int .i64) R).toArray (0, 0) _ (by have h_ := HG.out.c2; rw [HR.out] at h_; exact h_) Tryd.underlying24 rfl HSZ.out ?_) | (refine wpList_store_row rfl 24 (.tmp 2) (.tmp 52) rfl g0 (encs (Value.int .i64) R).toArray rfl rfl 24 _ HG.out.c0 HSZ.out (by rw [List.size_toArray, encs_length, gl_len, List.size_toArray, encs_length, HRL.out]) (encs_one R) ?_))
          refine bodyPost_ret (results_ct rfl _ _ g0 24 (encs (Value.int .i64) R).toArray (0, 0) _ rfl (setRow_heap _ g0 _ _ _ _ HG.out.c0) Tryd.underlying24 rfl HSZ.out) rfl ?_
          refine ⟨?_, below_setRow HG.out.below HG.out.lt0 _⟩
          show _ = Ending.returned (.tuple #[recV (gl l 21), .bool true])
          rw [HR.out]; rfl

set_option maxHeartbeats 1000000 in
theorem get_no (A : Option Addr) (n c : Nat) (wd : World) (h : n ≠ 56) :
    Calls Tryd.prog 10 #[.slice A n c] wd fun e w' => e = .returned (.tuple #[recV (List.replicate 21 0), .bool false]) ∧ Below wd.heap.size wd w' := by
  have hb : ((n : Int) != 56) = true := by rw [bne_iff_ne]; omega
  go_enter Tryd.func10, Tryd.ntmps10
  go_wp2_with (first | ((with_reducible refine gate_dst (N := 2) rfl ?_); refine box_event ?hg (N := 2) ?hd (cs := (List.replicate 21 (Value.int .i64 0)).toArray) (t := 24) ?hr ?_; (case hd => rfl); (case hg => rfl); (case hr => first | (go_simp; done) | (go_simp; rfl)); intro g0 hg0 w0 hbox0 hb0; have X0 := Lib.hid (And.intro hg0 (And.intro hbox0 hb0)); clear hg0 hbox0 hb0) | (refine wpList_store_row rfl 24 (.tmp 2) (.tmp 10) rfl g0 (List.replicate 21 (Value.int .i64 0)).toArray rfl rfl 24 _ X0.out.2.1 (by kernel_rfl) (by rfl) zero_one ?_))
  refine bodyPost_ret (results_ct rfl _ _ g0 24 (List.replicate 21 (Value.int .i64 0)).toArray (0, 0) _ rfl (setRow_heap _ g0 _ _ _ _ X0.out.2.1) Tryd.underlying24 rfl (by kernel_rfl)) rfl ?_
  exact ⟨rfl, below_setRow X0.out.2.2 (Nat.le_of_eq X0.out.1.symm) _⟩
def getOk (l : List Int) : Bool := decide (l.length = 56) && (okRec (gl l 21) && decide (tl (l.drop 43) (l.drop 43).length = 0))
def inode_Get.f (l : List Int) : List Int × Bool := if getOk l then (gl l 21, true) else (List.replicate 21 0, false)
theorem inode_Get.calls (A : Option Addr) (c : Nat) (l R : List Int) (ok : Bool) (w : World) (hr : Kd.C (Kd.int .u8) w A l.length l) (hc : l.length ≤ c) (h : inode_Get.f l = (R, ok)) :
    Calls Tryd.prog 10 #[.slice A l.length c] w fun e w' => e = .returned (.tuple #[recV R, .bool ok]) ∧ Below w.heap.size w w' := by
  unfold inode_Get.f getOk at h
  by_cases hl : l.length = 56
  · obtain ⟨b, hb⟩ : ∃ b, okRec (gl l 21) = b := ⟨_, rfl⟩
    obtain ⟨q, hq⟩ : ∃ q, decide (tl (l.drop 43) (l.drop 43).length = 0) = q := ⟨_, rfl⟩
    rw [decide_eq_true hl, hb, hq, Bool.true_and] at h
    refine (get_yes A c l w hr hc hl b q hb (by unfold bits_Nought.f; rw [hq])).mono ?_
    rintro e w' ⟨rfl, hB⟩
    refine ⟨?_, hB⟩
    unfold gout
    cases hbq : (b && q) with
    | true => rw [hbq] at h; cases h; rfl
    | false => rw [hbq] at h; cases h; rfl
  · rw [decide_eq_false hl] at h
    cases h
    exact get_no A _ c w hl
end Go.Proofs.YthmfhhkedmloeaaDoor.Given
