/- source: a store of rows; a file over a store; by hand. -/
import Derived.Test.YthahdombnmkokaaDoorGivSto1
namespace Go.Proofs.YthahdombnmkokaaDoor.Given
open Go.RowKit Go.Maps Go.Sort Go.Shelf Go.Proofs.YthahdombnmkokaaDoorW.PrintWords Go.Proofs.YthahdombnmkokaaDoorW.PrintLast Go.Proofs.YthahdombnmkokaaDoorW.PrintMore Go.Proofs.YthahdombnmkokaaDoor.Base
set_option linter.unusedVariables false
set_option linter.unusedSimpArgs false
theorem infoI64 : (Tryd.prog.info? 3).map (fun i => (i.zero, i.size, i.bytes)) = some (some (.int .i64 0), (Kd.int .i64).sz, 8) := by kernel_rfl
/-- The first n numbers. -/
def ones (n : Nat) : List Int := (List.range n).map fun i => ((i + 1 : Nat) : Int)
theorem ones_succ (n : Nat) : ones (n + 1) = ones n ++ [((n + 1 : Nat) : Int)] := by
  unfold ones
  rw [List.range_succ, List.map_append]
  rfl
theorem ones_len (n : Nat) : (ones n).length = n := by simp [ones]
/-- A row made 56 long. -/
def row56 (r : List Int) : List Int := splice zrow 0 (r.take 56)
theorem row56_len (r : List Int) : (row56 r).length = 56 := by
  unfold row56
  rw [splice_len _ _ _ (by rw [List.length_take]; simp [zrow]; omega)]
  rfl
theorem rowsT (R : List (List Int)) (j : Nat) (h : j < R.length) : (R.take (j + 1)).map row56 = (R.take j).map row56 ++ [row56 (R[j])] := by
  rw [List.take_succ_eq_append_getElem h, List.map_append]
  rfl
/-- What a block's type says: another type's block is none of it. -/
theorem R_ne {α : Type} {d : Kd α} {e : Nat} {w : World} {base : Nat} {ok : Nat → Prop} {v : Value} {xs : List α} (h : d.R e w base ok v xs) {g : Nat} {cs : Array Value} {t : TypeId} (hg : w.heap[g]? = some (.cells cs t (0, 0))) (ht : ∀ q, q ∈ e :: d.E → q ≠ t) : some g ≠ v.ownBlock := fun he => by
  obtain ⟨_, _, _, q, hq, cells, hc⟩ := (Kd.R_bound h).1 g he.symm
  rw [hc] at hg
  injection hg with hg
  injection hg with _ hg
  exact ht q hq hg
theorem R_apart {α β : Type} {d : Kd α} {d' : Kd β} {e e' : Nat} {w w1 : World} {base base' : Nat} {ok ok' : Nat → Prop} {v v' : Value} {xs : List α} {ys : List β} (h : d.R e w base ok v xs) (h' : d'.R e' w base' ok' v' ys) (hne : ∀ q, q ∈ e :: d.E → ∀ q', q' ∈ e' :: d'.E → q ≠ q') (hg : w.grownBy w1 v'.ownBlock) : d.R e w1 base ok v xs :=
  Kd.R_mono (Kd.R_move (Kd.R_bound h) (fun i hi => hg.block i hi.2.2.1 (fun he => by
    obtain ⟨_, _, _, q, hq, cs, hc⟩ := hi
    obtain ⟨_, _, _, q', hq', cs', hc'⟩ := (Kd.R_bound h').1 i he.symm
    rw [hc] at hc'
    injection hc' with hc'
    injection hc' with _ hc'
    exact hne q hq q' hq' hc'))) (fun _ hi => hi.1)
theorem R_setBlk {α : Type} {d : Kd α} {e : Nat} {w : World} {base : Nat} {ok : Nat → Prop} {v : Value} {xs : List α} (h : d.R e w base ok v xs) {g : Nat} {cs : Array Value} {t : TypeId} (hg : w.heap[g]? = some (.cells cs t (0, 0))) (ht : ∀ q, q ∈ e :: d.E → q ≠ t) (k : Nat) (u : Value) : d.R e (w.setCell ⟨g, k, none⟩ u) base ok v xs :=
  Kd.R_mono (Kd.R_far (Kd.R_types h hg ht) (fun _ hk => hk.2) u) (fun _ hk => hk.1)
theorem R_okne {α β : Type} {d : Kd α} {d' : Kd β} {e e' : Nat} {w : World} {base base' : Nat} {ok ok' : Nat → Prop} {v v' : Value} {xs : List α} {ys : List β} (h : d.R e w base ok v xs) (h' : d'.R e' w base' ok' v' ys) (hne : ∀ q, q ∈ e :: d.E → ∀ q', q' ∈ e' :: d'.E → q ≠ q') : d.R e w base (fun i => some i ≠ v'.ownBlock) v xs :=
  Kd.R_mono (Kd.R_bound h) (fun i hi he => by
    obtain ⟨_, _, _, q, hq, cs, hc⟩ := hi
    obtain ⟨_, _, _, q', hq', cs', hc'⟩ := (Kd.R_bound h').1 i he.symm
    rw [hc] at hc'
    injection hc' with hc'
    injection hc' with _ hc'
    exact hne q hq q' hq' hc')
theorem kRowE (q : Nat) (h : q ∈ 34 :: kRow.E) : q = 34 ∨ q = 5 := by simpa [Kd.slice, Kd.int, Kd.scalar] using h
theorem kIntE (q : Nat) (h : q ∈ 3 :: (Kd.int .i64).E) : q = 3 := by simpa [Kd.int, Kd.scalar] using h
theorem k8E (q : Nat) (h : q ∈ 5 :: (Kd.int .u8).E) : q = 5 := by simpa [Kd.int, Kd.scalar] using h
theorem ne_8i (q : Nat) (h : q ∈ 5 :: (Kd.int .u8).E) (q' : Nat) (h' : q' ∈ 3 :: (Kd.int .i64).E) : q ≠ q' := by rw [k8E q h, kIntE q' h']; decide
theorem ne_ri (q : Nat) (h : q ∈ 34 :: kRow.E) (q' : Nat) (h' : q' ∈ 3 :: (Kd.int .i64).E) : q ≠ q' := by rcases kRowE q h with e | e <;> rw [e, kIntE q' h'] <;> decide
theorem ne_ir (q : Nat) (h : q ∈ 3 :: (Kd.int .i64).E) (q' : Nat) (h' : q' ∈ 34 :: kRow.E) : q ≠ q' := fun e => ne_ri q' h' q h e.symm
theorem st_i (q : Nat) (h : q ∈ 3 :: (Kd.int .i64).E) : q ≠ 33 := by rw [kIntE q h]; decide
theorem st_r (q : Nat) (h : q ∈ 34 :: kRow.E) : q ≠ 33 := by rcases kRowE q h with e | e <;> rw [e] <;> decide
theorem st_8 (q : Nat) (h : q ∈ 5 :: (Kd.int .u8).E) : q ≠ 33 := by rw [k8E q h]; decide
theorem own_8r {w : World} {base base' : Nat} {ok ok' : Nat → Prop} {A : Option Addr} {n c : Nat} {v' : Value} {xs : List Int} {ys : List (List Int)} (h : Kd.R (Kd.int .u8) 5 w base ok (.slice A n c) xs) (h' : kRow.R 34 w base' ok' v' ys) : Kd.R (Kd.int .u8) 5 w base (fun i => some i ≠ v'.ownBlock) (.slice A n c) xs :=
  Kd.R_mono (Kd.R_bound h) (fun i hi he => by
    obtain ⟨_, _, _, q, hq, cs, hc⟩ := hi
    obtain ⟨cs', hc'⟩ := own_typed h'.2.choose_spec.1 i he.symm
    rw [hc] at hc'
    injection hc' with hc'
    injection hc' with _ hc'
    rw [k8E q hq] at hc'
    exact absurd hc' (by decide))
theorem src_cells {w W : World} {Ad : Option Addr} {r : List Int} (hC : Kd.C (Kd.int .u8) w Ad r.length r) (hb : Below w.heap.size w W) (cs : List Value) (hcs : cs = encs (Value.int .u8) (r.take 56)) : 0 < cs.length → ∃ ad, Ad = some ad ∧ ∀ (i : Nat) (u : Value), cs[i]? = some u → W.cell? (ad.add i) = some u := by
  intro h0
  have hr0 : 0 < r.length := by rw [hcs, encs_length, List.length_take] at h0; omega
  obtain ⟨ad, had, hrd⟩ := (Kd.reads_of_C (d := (0 : Int)) hC).2.2 hr0
  refine ⟨ad, had, fun i u hu => ?_⟩
  rw [hcs] at hu
  have hi : i < (r.take 56).length := by have := (List.getElem?_eq_some_iff.1 hu).1; rwa [encs_length] at this
  rw [encs_get (d := (0 : Int)) _ i hi] at hu
  cases hu
  rw [List.length_take] at hi
  rw [pw_cell_below hb (hrd i (by omega))]
  congr 2
  rw [List.getD_eq_getElem?_getD, List.getD_eq_getElem?_getD, List.getElem?_take, if_pos (by omega)]
set_option maxRecDepth 100000 in
set_option maxHeartbeats 8000000 in
theorem source_calls (A0 : Option Addr) (c0 : Nat) (R : List (List Int)) (w : World) (hC : Kd.C kRow w A0 R.length R) (hc : R.length ≤ c0) (hl : R.length ≤ 5000) (hb : ∀ r ∈ R, r.length ≤ 5000) :
    Calls Tryd.prog 18 #[.slice A0 R.length c0] w fun e w' => ∃ ps, e = .returned (.pointer (some ⟨ps, 0, none⟩)) ∧ SX w' ps (ones R.length) (R.map row56) ∧ Below w.heap.size w w' := by
  have HC := Lib.hid hC
  have HBB := Lib.hid hb
  have hl2 : (R.length : Int) ≤ 5000 := by omega
  have hu := Tryd.underlying33
  have HP0 : Hid ((w.alloc (.cells #[.slice none 0 0, .slice none 0 0] 33)).heap[w.heap.size]? = some (.cells #[.slice none 0 0, .slice none 0 0] 33 (0, 0))) := heap_alloc_new w _
  have HB0 : Hid (Below w.heap.size w (w.alloc (.cells #[.slice none 0 0, .slice none 0 0] 33))) := (Below.refl _ w).alloc (Nat.le_refl _) _
  clear hC hb hl
  go_enter Tryd.func18, Tryd.ntmps18
  go_wp2
  go_loopw [4] (fun i wr => ∃ (j : Nat) (v1 v2 : Value), j ≤ R.length ∧ i = .int .i64 j ∧ Hid (wr.heap[w.heap.size]? = some (.cells #[v1, v2] 33 (0, 0))) ∧ Hid (Kd.R (Kd.int .i64) 3 wr w.heap.size (fun _ => True) v1 (ones j)) ∧ Hid (Kd.R kRow 34 wr w.heap.size (fun _ => True) v2 ((R.take j).map row56)) ∧ Hid (Below w.heap.size w wr)) (fun i _ => R.length - (intOf i).toNat)
  case atStart => exact ⟨0, _, _, Nat.zero_le _, rfl, HP0, Lib.hid (Kd.R_nil _ _ _ _ _), Lib.hid (Kd.R_nil _ _ _ _ _), HB0⟩
  case round =>
    clear HP0 HB0
    obtain ⟨j, v1, v2, hj, rfl, HP, H1, H2, HB⟩ := hrel
    rcases Nat.lt_or_ge j R.length with hlt | hge
    · have hlt2 : (j : Int) < (R.length : Int) := by omega
      obtain ⟨b, off, rfl, hrow⟩ := row_of_C HC.out (by omega)
      have hjl := List.getElem?_eq_getElem hlt
      obtain ⟨r, hr⟩ : ∃ r, R[j] = r := ⟨_, rfl⟩
      rw [hr] at hjl
      obtain ⟨Ad, cd, hcell, hcd, hCd⟩ := hrow j r hjl
      have hrl := HBB.out r (hr ▸ List.getElem_mem hlt)
      have hcell := pw_cell_below HB.out hcell
      have HTK : Hid ((R.take (j + 1)).map row56 = (R.take j).map row56 ++ [row56 r]) := by show _ = _; rw [rowsT R j hlt, hr]
      have HLT := Lib.hid hlt
      have HCD := Lib.hid hCd
      have HRL := Lib.hid hrl
      have hrl2 : (r.length : Int) ≤ 5000 := by omega
      clear hjl hr hrow hcd hCd hrl hlt
      obtain ⟨M2, hM2⟩ : ∃ M, M = (R.take j).map row56 := ⟨_, rfl⟩
      have hM2l : M2.length ≤ 5000 := by rw [hM2, List.length_map, List.length_take]; omega
      rw [← hM2] at H2 HTK
      have HM2 := Lib.hid hM2
      have HML := Lib.hid hM2l
      clear hM2 hM2l
      obtain ⟨A1, k1, rfl⟩ := Kd.R_slice H1.out
      obtain ⟨A2, k2, rfl⟩ := Kd.R_slice H2.out
      obtain ⟨cs, hcs⟩ : ∃ cs, cs = encs (Value.int .u8) (r.take 56) := ⟨_, rfl⟩
      have HEL : Hid (cs.length = min r.length 56) := by show _ = _; rw [hcs, encs_length, List.length_take, Nat.min_comm]
      have HCS := Lib.hid hcs
      have HJ5 : Hid (j ≤ 5000) := by show _ ≤ _; omega
      obtain ⟨O1, hO1⟩ : ∃ O, O = ones j ++ [(j : Int) + 1] := ⟨_, rfl⟩
      obtain ⟨O2, hO2⟩ : ∃ O, O = M2 ++ [row56 r] := ⟨_, rfl⟩
      have HO1 := Lib.hid hO1
      have HO2 := Lib.hid hO2
      clear hcs hO1 hO2
      go_wp2_with (first
        | ((with_reducible refine gate_dst (N := 14) rfl ?_); refine Kd.R_make (Kd.int .u8) (w0 := wr) wr.heap.size 5 rfl (N := 14) rfl 34 (.const (.int .i64 56)) (.const (.int .i64 56)) rfl 56 rfl rfl Tryd.underlying34 (.int .u8 0) 1 infoB1 rfl (by decide) (by decide) 0 (ok := fun _ => True) (okp := fun _ => True) rfl (fun _ h => h) trivial (by decide) (by decide) (Below.refl _ _) (Nat.le_refl _) ?_; intro v5 w1 hR hB _ _; obtain ⟨A5, c5, rfl⟩ := Kd.R_slice hR; rw [show (List.replicate (Int.toNat 56) (0 : Int)).length = 56 from rfl] at hR ⊢; have HR5 := Lib.hid hR; have HW1 := Lib.hid hB; have hcell1 := pw_cell_below hB hcell; clear hR hB; obtain ⟨g, cur, rfl, _, hc5, hg, hheap, hcurl, hshut⟩ := R_open HR5.out (by decide); have HG5 := Lib.hid hheap; have HGB := Lib.hid hg; have HC5 := Lib.hid hc5; have HCU := Lib.hid hcurl; have HSH := Lib.hid hshut; have HSRC := Lib.hid (src_cells HCD.out (HB.out.trans (HW1.out.mono HB.out.size)) cs HCS.out); clear hc5 hg hheap hcurl hshut)
        | (refine wpList_copy_splice rfl (.tmp 15) (.tmp 19) 34 34 rfl 5 Tryd.underlying34 (by kernel_rfl) (some ⟨g, 0, none⟩) Ad 56 c5 r.length cd rfl rfl g 0 cur 5 HG5.out cs HEL.out (fun h0 => ⟨rfl, HSRC.out h0⟩) (by rw [HEL.out, HCU.out]; have := HC5.out; omega) (by rw [HCS.out]; intro u hu; obtain ⟨y, _, rfl⟩ := List.mem_map.1 hu; rfl) wr.heap.size wr HW1.out HGB.out ?_; intro w2 hg2 hb2; have HW2 := Lib.hid hb2; have HB2 : Hid (Below w.heap.size w w2) := HB.out.trans (hb2.mono HB.out.size); have HRW : Hid (Kd.R (Kd.int .u8) 5 w2 wr.heap.size (fun _ => True) (.slice (some ⟨g, 0, none⟩) 56 c5) (row56 r)) := HSH.out w2 0 (r.take 56) (by rw [← HCS.out]; exact hg2.out) (by rw [List.length_take]; simp; omega); have HP2 := Lib.hid (blk_below HP.out hb2); have H12 := Lib.hid (Kd.R_below H1.out hb2); have H22 := Lib.hid (Kd.R_below H2.out hb2); have c20 := (blk_cell HP2.out 0).trans (rfl : _ = some (Value.slice A1 (ones j).length k1)); clear hg2 hb2)
        | ((with_reducible refine gate_builtin (b := .append) (xs := #[.tmp 25, .tmp 28]) rfl ?_); at_builtin; refine Kd.R_append (Kd.int .i64) (w0 := w) w.heap.size rfl (.tmp 25) (.tmp 28) 30 3 (.int .i64 0) 8 rfl Tryd.underlying30 infoI64 rfl (by decide) (by decide) _ (ones j) ((j : Int) + 1) [.int .i64 ((j : Int) + 1)] (fun _ => True) (fun _ => False) rfl rfl ?aP (fun _ hk => hk.elim) ?aF ?aO ?aB ?aS ?aL ?_; (case aP => exact rfl); (case aF => exact (fun _ _ => trivial)); (case aO => exact H12.out); (case aB => exact HB2.out); (case aS => exact HB2.out.size); (case aL => rw [ones_len]; have := HJ5.out; omega); intro v18 w18 ho hb hg hat; rw [← HO1.out] at ho; have H118 := Lib.hid ho; have HB18 := Lib.hid hb; have HP18 := Lib.hid (blk_grown HP2.out hg (R_ne H12.out HP2.out st_i)); have H218 := Lib.hid (R_apart H22.out H12.out ne_ri hg); have HRW18 := Lib.hid (R_apart HRW.out H12.out ne_8i hg); clear ho hb hg hat; obtain ⟨A18, k18, rfl⟩ := Kd.R_slice H118.out; have c180 := (blk_cell HP18.out 0).trans (rfl : _ = some (Value.slice A1 (ones j).length k1)); have z180 := blk_thaw HP18.out 0; have HP19 := Lib.hid (blk_put HP18.out 0 (.slice A18 O1.length k18) rfl); have H119 := Lib.hid (R_setBlk H118.out HP18.out st_i 0 (.slice A18 O1.length k18)); have H219 := Lib.hid (R_setBlk H218.out HP18.out st_r 0 (.slice A18 O1.length k18)); have HRW19 := Lib.hid (R_setBlk HRW18.out HP18.out st_8 0 (.slice A18 O1.length k18)); have HB19 : Hid (Below w.heap.size w (w18.setCell ⟨w.heap.size, 0, none⟩ (.slice A18 O1.length k18))) := HB18.out.grown (grown_set _ _ _ _) HB18.out.size (fun q e => by cases e; exact Nat.le_refl _); have c191 := (blk_cell HP19.out 1).trans (rfl : _ = some (Value.slice A2 M2.length k2)))
        | ((with_reducible refine gate_builtin (b := .append) (xs := #[.tmp 36, .tmp 38]) rfl ?_); at_builtin; go_loud (refine Kd.R_append kRow (w0 := w) w.heap.size rfl (.tmp 36) (.tmp 38) 31 34 (.slice none 0 0) 24 rfl Tryd.underlying31 infoRS rfl (by decide) (by decide) _ M2 (row56 r) [.slice (some ⟨g, 0, none⟩) 56 c5] (fun _ => True) (fun i => some i ≠ (Value.slice A2 M2.length k2).ownBlock) rfl (by rw [show (w18.setCell ⟨w.heap.size, 0, none⟩ (.slice A18 O1.length k18)).heap.size = w18.heap.size by simp [World.setCell]]; rfl) ?aP ?aK ?aF ?aO ?aB ?aS ?aL ?_); (case aP => exact Kd.M_row (Kd.R_lower (own_8r HRW19.out H219.out) HB.out.size)); (case aK => exact fun i hi => ⟨trivial, hi⟩); (case aF => exact fun _ _ => trivial); (case aO => exact H219.out); (case aB => exact HB19.out); (case aS => exact HB19.out.size); (case aL => have := HML.out; omega); intro v20 w20 ho hb hg hat; rw [← HO2.out] at ho; have H220 := Lib.hid ho; have HB20 := Lib.hid hb; have HP20 := Lib.hid (blk_grown HP19.out hg (R_ne H219.out HP19.out st_r)); have H120 := Lib.hid (R_apart H119.out H219.out ne_ir hg); clear ho hb hg hat; obtain ⟨A20, k20, rfl⟩ := Kd.R_slice H220.out; have c201 := (blk_cell HP20.out 1).trans (rfl : _ = some (Value.slice A2 M2.length k2)); have z201 := blk_thaw HP20.out 1; have HP21 := Lib.hid (blk_put HP20.out 1 (.slice A20 O2.length k20) rfl); have H121 := Lib.hid (R_setBlk H120.out HP20.out st_i 1 (.slice A20 O2.length k20)); have H221 := Lib.hid (R_setBlk H220.out HP20.out st_r 1 (.slice A20 O2.length k20)); have HB21 : Hid (Below w.heap.size w (w20.setCell ⟨w.heap.size, 1, none⟩ (.slice A20 O2.length k20))) := HB20.out.grown (grown_set _ _ _ _) HB20.out.size (fun q e => by cases e; exact Nat.le_refl _)))
      go_roundw
      case rel => exact ⟨j + 1, _, _, HLT.out, by go_num, HP21, by rw [ones_succ, show ((j + 1 : Nat) : Int) = (j : Int) + 1 by omega, ← HO1.out]; exact H121, by rw [HTK.out, ← HO2.out]; exact H221, HB21⟩
      case measure => have := HLT.out; simp [intOf]; omega
    · obtain rfl : j = R.length := by omega
      obtain ⟨A1, k1, rfl⟩ := Kd.R_slice H1.out
      obtain ⟨A2, k2, rfl⟩ := Kd.R_slice H2.out
      have r1 := Kd.R_reads' H1.out
      have r2 := Kd.R_reads' H2.out
      have HSX : Hid (SX wr w.heap.size (ones R.length) (R.map row56)) := by
        rw [List.take_length] at r2 HP
        exact ⟨A1, A2, k1, k2, HP.out, r1.2.1, r1.2.2, r2.2.1, r2.2.2⟩
      clear r1 r2
      go_wp2
      go_ret
      exact ⟨_, rfl, HSX.out, HB.out⟩
end Go.Proofs.YthahdombnmkokaaDoor.Given
