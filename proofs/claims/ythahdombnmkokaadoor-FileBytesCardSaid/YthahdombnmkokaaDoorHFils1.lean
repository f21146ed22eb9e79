/- HFils1: HivFil1, HivFil2, HivFil3, HivFil4, HivFil5. -/
import Derived.Test.YthahdombnmkokaaDoorHMaps1
import Derived.Laws.CopyOwn
import Derived.Deep.RegionLaw
/- file.File: its state; Size, Blocks, block; by hand. -/
namespace Go.Proofs.YthahdombnmkokaaDoor.Given
open Go.RowKit Go.Maps Go.Sort Go.Shelf Go.Proofs.YthahdombnmkokaaDoorW.PrintWords Go.Proofs.YthahdombnmkokaaDoorW.PrintLast Go.Proofs.YthahdombnmkokaaDoorW.PrintMore Go.Proofs.YthahdombnmkokaaDoor.Base
set_option linter.unusedVariables false
set_option linter.unusedSimpArgs false
variable {G : Nat → Prop}
/-- A file: its block q, its map's blocks, its size, what it tells. -/
structure FX (G : Nat → Prop) (w : World) (q p bA bF N : Nat) (n : Int) (a : Int → Option Int) (f : Int → Option (List Int)) (fr : Value) : Prop where
  hq : w.heap[q]? = some (.cells #[.int .i64 n, .pointer (some ⟨p, 0, none⟩), fr] 61 (0, 0))
  bx : BX G w p bA bF N a f
  nf : ∀ x, fr ≠ .int .u8 x
theorem FX.below {w w1 : World} {q p bA bF N : Nat} {n : Int} {a : Int → Option Int} {f : Int → Option (List Int)} {fr : Value} (h : FX G w q p bA bF N n a f fr) (hb : Below w.heap.size w w1) : FX G w1 q p bA bF N n a f fr :=
  ⟨blk_below h.hq hb, h.bx.below hb, h.nf⟩
theorem FX.mono {w : World} {q p bA bF N N1 : Nat} {n : Int} {a : Int → Option Int} {f : Int → Option (List Int)} {fr : Value} (h : FX G w q p bA bF N n a f fr) (hN : N ≤ N1) : FX G w q p bA bF N1 n a f fr := ⟨h.hq, h.bx.mono hN, h.nf⟩
theorem FX.turns {S : Nat → Prop} {w w1 : World} {q p bA bF N : Nat} {n : Int} {a : Int → Option Int} {f : Int → Option (List Int)} {fr : Value} (h : FX G w q p bA bF N n a f fr) (ht : Turns S w w1) (hk : Cells w w1) (hA : ¬ S bA) (hF : ¬ S bF) : FX G w1 q p bA bF N n a f fr :=
  ⟨(hk _ _ _ _ h.hq).trans h.hq, h.bx.turns ht hk hA hF, h.nf⟩
/-- Of its own map turned: the file's state. -/
theorem FX.map {w w1 : World} {q p bA bF N N1 : Nat} {n : Int} {a a1 : Int → Option Int} {f f1 : Int → Option (List Int)} {fr : Value} (h : FX G w q p bA bF N n a f fr) (ht : Turns (Two bA bF) w w1) (hx : BX G w1 p bA bF N1 a1 f1) : FX G w1 q p bA bF N1 n a1 f1 fr :=
  ⟨(ht.cells h.bx.two _ _ _ _ h.hq).trans h.hq, hx, h.nf⟩
theorem FX.qlt {w : World} {q p bA bF N : Nat} {n : Int} {a : Int → Option Int} {f : Int → Option (List Int)} {fr : Value} (h : FX G w q p bA bF N n a f fr) : q < w.heap.size := blk_lt h.hq
/-- What a row of 56 bytes has come to, or the error 14. -/
def Got (o : Option (List Int)) (w w' : World) (e : Ending) : Prop := Below w.heap.size w w' ∧
  match o with
  | some r => r.length = 56 ∧ ∃ A c, e = .returned (.tuple #[.slice A 56 c, .int .i64 0]) ∧ 56 ≤ c ∧ Kd.C (Kd.int .u8) w' A 56 r
  | none => e = .returned (.tuple #[.slice none 0 0, .int .i64 14])
theorem size_calls {w : World} {q p bA bF N : Nat} {n : Int} {a : Int → Option Int} {f : Int → Option (List Int)} {fr : Value} (h : FX G w q p bA bF N n a f fr) :
    Calls Tryd.prog 14 #[.pointer (some ⟨q, 0, none⟩)] w fun e w' => e = .returned (.int .i64 n) ∧ w = w' := by
  have c0 : w.cell? ⟨q, 0, none⟩ = some (.int .i64 n) := (blk_cell h.hq 0).trans rfl
  have hu := Tryd.underlying61
  go_enter Tryd.func14, Tryd.ntmps14
  go_wp2
  go_ret
  exact ⟨rfl, rfl⟩
theorem blocks_calls {w : World} {q p bA bF N : Nat} {n : Int} {a : Int → Option Int} {f : Int → Option (List Int)} {fr : Value} (h : FX G w q p bA bF N n a f fr) :
    Calls Tryd.prog 15 #[.pointer (some ⟨q, 0, none⟩)] w fun e w' => e = .returned (.pointer (some ⟨p, 0, none⟩)) ∧ w = w' := by
  have c0 : w.cell? ⟨q, 1, none⟩ = some (.pointer (some ⟨p, 0, none⟩)) := (blk_cell h.hq 1).trans rfl
  have hu := Tryd.underlying61
  go_enter Tryd.func15, Tryd.ntmps15
  go_wp2
  go_ret
  exact ⟨rfl, rfl⟩
theorem infoB1 : (Tryd.prog.info? 5).map (fun i => (i.zero, i.size, i.bytes)) = some (some (.int .u8 0), (Kd.int .u8).sz, 1) := by kernel_rfl
theorem BX.len56 {w : World} {p bA bF N : Nat} {a : Int → Option Int} {f : Int → Option (List Int)} (h : BX G w p bA bF N a f) {k : Int} {r : List Int} (hf : f k = some r) : r.length = 56 := by
  obtain ⟨DA, DF, mF, hB⟩ := h
  obtain ⟨u, _, A, c, _, _, h3, _⟩ := (hB.el k).2 r hf
  exact h3
set_option maxRecDepth 100000 in
set_option maxHeartbeats 2000000 in
theorem block_fresh {w : World} {q p bA bF N : Nat} {n : Int} {a : Int → Option Int} {f : Int → Option (List Int)} {fr : Value} (h : FX G w q p bA bF N n a f fr) (k : Int) (hk : (Lit.int .i64 k).wf = true) (r : List Int) (hr : f k = some r) :
    Calls Tryd.prog 28 #[.pointer (some ⟨q, 0, none⟩), .int .i64 k] w fun e w' => Got (some r) w w' e := by
  have c0 : w.cell? ⟨q, 1, none⟩ = some (.pointer (some ⟨p, 0, none⟩)) := (blk_cell h.hq 1).trans rfl
  have hu := Tryd.underlying61
  have HB := Lib.hid h.bx
  have HK := Lib.hid hk
  have HR := Lib.hid hr
  have H56 := Lib.hid (h.bx.len56 hr)
  clear h hk hr
  go_enter Tryd.func28, Tryd.ntmps28
  go_wp2_with fail
  refine (bytes_some HB.out.bm k HK.out r HR.out).mono ?_
  rintro e w1 ⟨v, rfl, hR, hB⟩
  obtain ⟨A, c, rfl⟩ := Kd.R_slice hR
  have HS := Lib.hid (Kd.R_reads' hR)
  have HB1 := Lib.hid hB
  clear hR hB
  go_wp2
  go_ret2
  refine ⟨HB1.out, H56.out, A, c, by rw [H56.out]; rfl, ?_, ?_⟩
  · have := HS.out.2.1; rw [H56.out] at this; exact this
  · have := HS.out.2.2; rw [H56.out] at this; exact this
set_option maxRecDepth 100000 in
set_option maxHeartbeats 2000000 in
theorem block_zero {w : World} {q p bA bF N : Nat} {n : Int} {a : Int → Option Int} {f : Int → Option (List Int)} {fr : Value} (h : FX G w q p bA bF N n a f fr) (k : Int) (hk : (Lit.int .i64 k).wf = true) (hf : f k = none) (ha : a k = none) :
    Calls Tryd.prog 28 #[.pointer (some ⟨q, 0, none⟩), .int .i64 k] w fun e w' => Got (some (List.replicate 56 0)) w w' e := by
  have c0 : w.cell? ⟨q, 1, none⟩ = some (.pointer (some ⟨p, 0, none⟩)) := (blk_cell h.hq 1).trans rfl
  have hu := Tryd.underlying61
  have HB := Lib.hid h.bx
  have HK := Lib.hid hk
  have HF := Lib.hid hf
  have HA := Lib.hid ha
  clear h hk hf ha
  go_enter Tryd.func28, Tryd.ntmps28
  go_wp2_with fail
  refine (bytes_none HB.out.bm k HK.out HF.out).mono ?_
  rintro e w1 ⟨rfl, rfl⟩
  go_wp2_with fail
  refine (at_calls HB.out.bm k HK.out).mono ?_
  rintro e w1 ⟨rfl, rfl⟩
  rw [HA.out]
  go_wp2_with ((with_reducible refine gate_dst (N := 36) rfl ?_); refine Kd.R_make (Kd.int .u8) (w0 := w) w.heap.size 5 rfl (N := 36) rfl 34 (.const (.int .i64 56)) (.const (.int .i64 56)) rfl 56 rfl rfl Tryd.underlying34 (.int .u8 0) 1 infoB1 rfl (by decide) (by decide) 0 (ok := fun _ => True) (okp := fun _ => True) rfl (fun _ h => h) trivial (by decide) (by decide) (Below.refl _ _) (Nat.le_refl _) ?_; intro v5 w4 hR hB _ _; obtain ⟨A5, c5, rfl⟩ := Kd.R_slice hR; rw [show (List.replicate (Int.toNat 56) (0 : Int)).length = 56 from rfl] at hR ⊢; have HR5 := Lib.hid hR; have H34 := Lib.hid hB; clear hR hB)
  go_ret2
  exact ⟨H34.out, by simp, A5, c5, rfl, (Kd.R_reads' HR5.out).2.1, (Kd.R_reads' HR5.out).2.2⟩
end Go.Proofs.YthahdombnmkokaaDoor.Given

/- file.File: what parted makes, in plain lists; by hand. -/
namespace Go.Proofs.YthahdombnmkokaaDoor.Given
open Go.RowKit Go.Maps Go.Sort Go.Shelf Go.Proofs.YthahdombnmkokaaDoorW.PrintWords Go.Proofs.YthahdombnmkokaaDoorW.PrintLast Go.Proofs.YthahdombnmkokaaDoorW.PrintMore Go.Proofs.YthahdombnmkokaaDoor.Base
set_option linter.unusedVariables false
set_option linter.unusedSimpArgs false
variable {G : Nat → Prop}
/-- What a file's block tells, behind w, as long as nothing that was there turns. -/
def Tells (w : World) (q : Nat) (o : Int → Option (List Int)) : Prop := ∀ w', Below w.heap.size w w' → ∀ k, (Lit.int .i64 k).wf = true →
  Calls Tryd.prog 28 #[.pointer (some ⟨q, 0, none⟩), .int .i64 k] w' fun e w'' => Got (o k) w' w'' e
theorem Tells.below {w w1 : World} {q : Nat} {o : Int → Option (List Int)} (h : Tells w q o) (hb : Below w.heap.size w w1) : Tells w1 q o := fun w' hb' => h w' (hb.trans (hb'.mono hb.size))
def zrow : List Int := List.replicate 56 0
/-- A block's bytes behind bytes d at a place. -/
def rowF (at0 : Nat) (d old : List Int) (k : Nat) : List Int := (List.range 56).map fun i => if at0 ≤ k * 56 + i ∧ k * 56 + i < at0 + d.length then d.getD (k * 56 + i - at0) 0 else old.getD i 0
theorem rowF_len (at0 : Nat) (d old : List Int) (k : Nat) : (rowF at0 d old k).length = 56 := by simp [rowF]
theorem rowF_at (at0 : Nat) (d old : List Int) (k i : Nat) (hi : i < 56) : (rowF at0 d old k).getD i 0 = if at0 ≤ k * 56 + i ∧ k * 56 + i < at0 + d.length then d.getD (k * 56 + i - at0) 0 else old.getD i 0 := by
  simp only [rowF, List.getD_eq_getElem?_getD, List.getElem?_map, List.getElem?_range hi, Option.map_some, Option.getD_some]
theorem rowF_whole (at0 : Nat) (d old old' : List Int) (k : Nat) (h : ∀ i, i < 56 → at0 ≤ k * 56 + i ∧ k * 56 + i < at0 + d.length) : rowF at0 d old k = rowF at0 d old' k := by
  refine List.map_congr_left fun i hi => ?_
  rw [if_pos (h i (List.mem_range.1 hi)), if_pos (h i (List.mem_range.1 hi))]
theorem splice_len {α : Type} (L : List α) (off : Nat) (cs : List α) (h : off + cs.length ≤ L.length) : (splice L off cs).length = L.length := length_splice L off cs h
theorem splice_get {α : Type} (L : List α) (off : Nat) (cs : List α) (h : off + cs.length ≤ L.length) (i : Nat) : (splice L off cs)[i]? = if i < off then L[i]? else if i < off + cs.length then cs[i - off]? else L[i]? := by
  have hl : (L.take off).length = off := by rw [List.length_take]; omega
  unfold splice
  by_cases h1 : i < off
  · rw [if_pos h1, List.getElem?_append_left (by omega), List.getElem?_take, if_pos h1]
  · rw [if_neg h1, List.getElem?_append_right (by omega), hl]
    by_cases h2 : i < off + cs.length
    · rw [if_pos h2, List.getElem?_append_left (by omega)]
    · rw [if_neg h2, List.getElem?_append_right (by omega), List.getElem?_drop]
      congr 1
      omega
theorem splice_row (at0 m k fo mn : Nat) (d old : List Int) (ho : old.length = 56) (e : at0 + m = k * 56 + fo) (hf : fo < 56) (h0 : m = 0 ∨ fo = 0) (hm : m < d.length) (hmn : mn = min (d.length - m) (56 - fo)) :
    splice old fo ((d.drop m).take mn) = rowF at0 d old k := by
  have hc : ((d.drop m).take mn).length = mn := by rw [List.length_take, List.length_drop]; omega
  refine List.ext_getElem? fun i => ?_
  rw [splice_get _ _ _ (by omega), hc]
  by_cases hi : i < 56
  · have hr : (rowF at0 d old k)[i]? = some (if at0 ≤ k * 56 + i ∧ k * 56 + i < at0 + d.length then d.getD (k * 56 + i - at0) 0 else old.getD i 0) := by
      simp only [rowF, List.getElem?_map, List.getElem?_range hi, Option.map_some]
    have hol : old[i]? = some (old.getD i 0) := by rw [List.getD_eq_getElem?_getD, List.getElem?_eq_getElem (by omega)]; rfl
    rw [hr]
    by_cases h1 : i < fo
    · rw [if_pos h1, if_neg (by omega), hol]
    · rw [if_neg h1]
      by_cases h2 : i < fo + mn
      · rw [if_pos h2, if_pos (by omega), List.getElem?_take, if_pos (by omega), List.getElem?_drop, List.getD_eq_getElem?_getD, show k * 56 + i - at0 = m + (i - fo) by omega, List.getElem?_eq_getElem (by omega)]
        rfl
      · rw [if_neg h2, if_neg (by omega), hol]
  · rw [if_neg (by omega), if_neg (by omega), List.getElem?_eq_none (by omega), List.getElem?_eq_none (by rw [rowF_len]; omega)]
def rowsF (o : Int → Option (List Int)) (at0 : Nat) (d : List Int) (j : Nat) : List (List Int) := (List.range j).map fun i => rowF at0 d ((o ((at0 / 56 + i : Nat) : Int)).getD zrow) (at0 / 56 + i)
theorem rowsF_succ (o : Int → Option (List Int)) (at0 : Nat) (d : List Int) (j : Nat) : rowsF o at0 d (j + 1) = rowsF o at0 d j ++ [rowF at0 d ((o ((at0 / 56 + j : Nat) : Int)).getD zrow) (at0 / 56 + j)] := by
  unfold rowsF
  rw [List.range_succ, List.map_append]
  rfl
theorem rowsF_len (o : Int → Option (List Int)) (at0 : Nat) (d : List Int) (j : Nat) : (rowsF o at0 d j).length = j := by simp [rowsF]
theorem take_splice {α : Type} (L : List α) (off : Nat) (cs : List α) (n : Nat) (h : off + cs.length ≤ n) (hn : n ≤ L.length) : (splice L off cs).take n = splice (L.take n) off cs := by
  refine List.ext_getElem? fun i => ?_
  rw [splice_get _ _ _ (by rw [List.length_take]; omega), List.getElem?_take]
  by_cases hi : i < n
  · rw [if_pos hi, splice_get _ _ _ (by omega), List.getElem?_take, if_pos hi]
  · rw [if_neg hi, if_neg (by omega), if_neg (by omega), List.getElem?_take, if_neg hi]
theorem encs_splice (xs : List Int) (off : Nat) (ys : List Int) : splice (encs (Value.int .u8) xs) off (encs (Value.int .u8) ys) = encs (Value.int .u8) (splice xs off ys) := by
  unfold splice encs
  rw [List.map_append, List.map_append, List.map_take, List.map_drop, List.length_map]
/-- A row of bytes of the call's own, its block laid open; and shut again, spliced. -/
theorem R_open {w : World} {base : Nat} {ok : Nat → Prop} {A : Option Addr} {n c : Nat} {xs : List Int} (h : Kd.R (Kd.int .u8) 5 w base ok (.slice A n c) xs) (h0 : 0 < xs.length) :
    ∃ g cur, A = some ⟨g, 0, none⟩ ∧ n = xs.length ∧ n ≤ c ∧ base ≤ g ∧ w.heap[g]? = some (.cells cur.toArray 5 (0, 0)) ∧ cur.length = c ∧
      ∀ (w1 : World) (off : Nat) (ys : List Int), w1.heap[g]? = some (.cells (splice cur off (encs (Value.int .u8) ys)).toArray 5 (0, 0)) → off + ys.length ≤ xs.length → Kd.R (Kd.int .u8) 5 w1 base ok (.slice A n c) (splice xs off ys) := by
  have hok := h.1
  have hown := Kd.own_of_R h
  rcases hown.2 with ⟨e, hn⟩ | ⟨g, cap, cur, e, hbg, hg, hnc, hcm, hcs, htake⟩
  · omega
  · injection e with e1 e2 e3
    subst e1 e2 e3
    have hcl : cur.toList.length = c := by rw [Array.length_toList, hcs, Nat.mul_one]
    refine ⟨g, cur.toList, rfl, rfl, hnc, hbg, by simpa using hg, hcl, fun w1 off ys hw hf => ?_⟩
    have hyl : (encs (Value.int .u8) ys).length = ys.length := encs_length _
    have hxl : (encs (Value.int .u8) xs).length = xs.length := encs_length _
    have hsl : (splice xs off ys).length = xs.length := splice_len _ _ _ (by omega)
    refine Kd.R_of_own ?_ hok
    rw [hsl]
    refine ⟨by rw [encs_length, hsl]; omega, .inr ⟨g, c, _, rfl, hbg, hw, hnc, hcm, ?_, ?_⟩⟩
    · rw [List.size_toArray, splice_len _ _ _ (by omega)]; omega
    · show List.take (xs.length * 1) (splice cur.toList off (encs (Value.int .u8) ys)) = _
      rw [Nat.mul_one] at htake ⊢
      rw [take_splice _ _ _ _ (by omega) (by omega), htake, encs_splice]
theorem info8 : ∃ i, Tryd.prog.info? 5 = some i ∧ i.size = 1 := by
  have h := infoB
  cases hq : Tryd.prog.info? 5 with
  | none => rw [hq] at h; cases h
  | some i =>
    rw [hq] at h
    have h := Option.some.inj h
    exact ⟨i, rfl, (congrArg (fun x => x.2.1) h)⟩
theorem cut_own (g n c m : Nat) (hm : m ≤ n) (hc : m < c) : ∀ W : World, (Instr.slice 34 (.slice (some ⟨g, 0, none⟩) n c) (some (.int .i64 (m : Int))) none none).run Tryd.prog W = .ok (.slice (some ⟨g, m, none⟩) (n - m) (c - m)) W := by
  intro W
  have hel : Tryd.prog.elem 34 = 5 := by kernel_rfl
  have hu : Tryd.prog.underlying 34 = some (.slice (Tryd.prog.elem 34)) := by rw [hel]; exact Tryd.underlying34
  rw [run_slice_l W 34 (some ⟨g, 0, none⟩) n c hu .i64 (m : Int) (Int.natCast_nonneg _) (by omega), hel]
  obtain ⟨i, hi, hsz⟩ := info8
  simp [sizeOf, typeInfo, hi, hsz, sliced, Result.andThen]
  rw [if_neg (by omega), addr_add, Nat.zero_add]
theorem cut_hi (A : Option Addr) (n c m : Nat) (hm : m ≤ n) (hc : n ≤ c) : ∀ W : World, (Instr.slice 34 (.slice A n c) none (some (.int .i64 (m : Int))) none).run Tryd.prog W = .ok (.slice A m c) W := by
  intro W
  have hel : Tryd.prog.elem 34 = 5 := by kernel_rfl
  have hu : Tryd.prog.underlying 34 = some (.slice (Tryd.prog.elem 34)) := by rw [hel]; exact Tryd.underlying34
  rw [run_slice_h W 34 A n c hu .i64 (m : Int) (Int.natCast_nonneg _) (by omega), hel]
  obtain ⟨i, hi, hsz⟩ := info8
  simp [sizeOf, typeInfo, hi, hsz, sliced, Result.andThen]
  intro _
  cases A with
  | none => rfl
  | some a => simp [Addr.add]
/-- 'xs[m:]' of bytes that are read. -/
theorem cut_read {w : World} {A : Option Addr} {c : Nat} {xs : List Int} (h : Kd.C (Kd.int .u8) w A xs.length xs) (hc : xs.length ≤ c) (m : Nat) (hm : m ≤ xs.length) :
    ∃ A', (∀ W : World, (Instr.slice 34 (.slice A xs.length c) (some (.int .i64 (m : Int))) none none).run Tryd.prog W = .ok (.slice A' (xs.drop m).length (c - m)) W) ∧ Kd.C (Kd.int .u8) w A' (xs.drop m).length (xs.drop m) ∧ (xs.drop m).length ≤ c - m := by
  obtain ⟨i, hi, hsz⟩ := info8
  obtain ⟨A', h1, h2⟩ := print_cut (P := Tryd.prog) 34 5 .i64 Tryd.underlying34 hi hsz A xs.length c m hm
  refine ⟨A', fun W => by rw [List.length_drop]; exact h1 W, ?_, by rw [List.length_drop]; omega⟩
  have hq := h2 w .u8 xs hc (Kd.reads_of_C (d := (0 : Int)) h)
  have hl : (xs.drop m).length = xs.length - m := List.length_drop
  exact Kd.C_of_reads (d := (0 : Int)) (h1 := fun _ => rfl) (hl ▸ hq)
end Go.Proofs.YthahdombnmkokaaDoor.Given

/- file.File: parted, the walk; by hand (genfil3.py). -/
namespace Go.Proofs.YthahdombnmkokaaDoor.Given
open Go.RowKit Go.Maps Go.Sort Go.Shelf Go.Proofs.YthahdombnmkokaaDoorW.PrintWords Go.Proofs.YthahdombnmkokaaDoorW.PrintLast Go.Proofs.YthahdombnmkokaaDoorW.PrintMore Go.Proofs.YthahdombnmkokaaDoor.Base
set_option linter.unusedVariables false
set_option linter.unusedSimpArgs false
variable {G : Nat → Prop}
theorem infoRS : (Tryd.prog.info? 34).map (fun i => (i.zero, i.size, i.bytes)) = some (some (.slice none 0 0), (Kd.slice 5 (Kd.int .u8)).sz, 24) := by kernel_rfl
abbrev kRow : Kd (List Int) := Kd.slice 5 (Kd.int .u8)
/-- How many blocks bytes at a place come to. -/
def cntF (at0 n : Nat) : Nat := (at0 + n - 1) / 56 + 1 - at0 / 56
def Parted (o : Int → Option (List Int)) (at0 : Nat) (d : List Int) (w w' : World) (e : Ending) : Prop := Below w.heap.size w w' ∧
  ((e = .returned (.tuple #[.int .i64 0, .slice none 0 0, .int .i64 14]) ∧ ∃ k : Nat, o (k : Int) = none) ∨
   ∃ A c, e = .returned (.tuple #[.int .i64 ((at0 / 56 : Nat) : Int), .slice A (rowsF o at0 d (cntF at0 d.length)).length c, .int .i64 0]) ∧ (rowsF o at0 d (cntF at0 d.length)).length ≤ c ∧ Kd.C kRow w' A (rowsF o at0 d (cntF at0 d.length)).length (rowsF o at0 d (cntF at0 d.length)))
/-- Where a round stands: m bytes are told, in j blocks. -/
def At3 (at0 n m j : Nat) : Prop := (m = 0 ∧ j = 0) ∨ (0 < j ∧ m < n ∧ at0 + m = (at0 / 56 + j) * 56) ∨ (0 < j ∧ m = n ∧ at0 + n ≤ (at0 / 56 + j) * 56 ∧ (at0 / 56 + j) * 56 < at0 + n + 56)
theorem At3.spot {at0 n m j : Nat} (h : At3 at0 n m j) (hm : m < n) : ∃ fo, at0 + m = (at0 / 56 + j) * 56 + fo ∧ fo < 56 ∧ (m = 0 ∨ fo = 0) := by
  rcases h with ⟨rfl, rfl⟩ | ⟨h1, h2, h3⟩ | ⟨h1, h2, h3, h4⟩
  · exact ⟨at0 % 56, by omega, by omega, Or.inl rfl⟩
  · exact ⟨0, by omega, by omega, Or.inr rfl⟩
  · omega
theorem At3.next {at0 n m j fo mn : Nat} (hm : m < n) (h : at0 + m = (at0 / 56 + j) * 56 + fo) (hf : fo < 56) (hmn : mn = min (n - m) (56 - fo)) : At3 at0 n (m + mn) (j + 1) := by
  have e : (at0 / 56 + (j + 1)) * 56 = (at0 / 56 + j) * 56 + 56 := by omega
  by_cases h1 : n - m ≤ 56 - fo
  · have : mn = n - m := by omega
    exact Or.inr (Or.inr ⟨by omega, by omega, by omega, by omega⟩)
  · have : mn = 56 - fo := by omega
    exact Or.inr (Or.inl ⟨by omega, by omega, by omega⟩)
theorem At3.done {at0 n j : Nat} (h : At3 at0 n n j) (hn : 0 < n) : j = cntF at0 n := by
  unfold cntF
  rcases h with ⟨h1, h2⟩ | ⟨h1, h2, h3⟩ | ⟨h1, h2, h3, h4⟩ <;> omega
theorem At3.room {at0 n m j : Nat} (h : At3 at0 n m j) (hm : m ≤ n) (hl : at0 + n ≤ 46368) : j ≤ 829 := by
  rcases h with ⟨h1, h2⟩ | ⟨h1, h2, h3⟩ | ⟨h1, h2, h3, h4⟩ <;> omega
set_option maxRecDepth 100000 in
set_option maxHeartbeats 16000000 in
theorem parted_calls {w : World} {q : Nat} {o : Int → Option (List Int)} (hT : Tells w q o) (at0 : Nat) (A : Option Addr) (c : Nat) (d : List Int) (hC : Kd.C (Kd.int .u8) w A d.length d) (hc : d.length ≤ c) (h0 : 0 < d.length) (hl : at0 + d.length ≤ 46368) :
    Calls Tryd.prog 26 #[.pointer (some ⟨q, 0, none⟩), .int .i64 (at0 : Int), .slice A d.length c] w fun e w' => Parted o at0 d w w' e := by
  have HT := Lib.hid hT
  have HC := Lib.hid hC
  have HCC := Lib.hid hc
  have HB0 := Lib.hid (Below.refl w.heap.size w)
  have HL := Lib.hid hl
  have H0 := Lib.hid h0
  have eT : Int.tdiv (at0 : Int) 56 = ((at0 / 56 : Nat) : Int) := by rw [Int.tdiv_eq_ediv_of_nonneg (by omega)]; omega
  obtain ⟨F, hF⟩ : ∃ F : Nat, F = at0 / 56 := ⟨_, rfl⟩
  have HF := Lib.hid hF
  rw [← hF] at eT
  have eF : wrap64 (F : Int) = (F : Int) := w64 (by omega) (by omega)
  clear hT hC hc hF
  go_enter Tryd.func26, Tryd.ntmps26
  go_wp2
  rw [eF]
  go_loopw [1, 2, 10, 11] (fun t x v kk wr => ∃ (m j : Nat) (A2 : Option Addr) (c2 : Nat) (D : List Int), m ≤ d.length ∧ t = .int .i64 ((at0 + m : Nat) : Int) ∧ x = .slice A2 D.length c2 ∧ kk = .int .i64 ((F + j : Nat) : Int) ∧ Hid (D = d.drop m) ∧ Hid (At3 at0 d.length m j) ∧ Hid (D.length ≤ c2) ∧ Hid (Kd.C (Kd.int .u8) w A2 D.length D) ∧ Hid (kRow.R 34 wr w.heap.size (fun _ => True) v (rowsF o at0 d j)) ∧ Hid (Below w.heap.size w wr)) (fun t _ _ _ _ => (100000 - intOf t).toNat)
  case atStart => exact ⟨0, 0, A, c, d, by omega, rfl, rfl, rfl, Lib.hid rfl, Lib.hid (Or.inl ⟨rfl, rfl⟩), HCC, HC, Lib.hid (Kd.R_nil _ _ _ _ _), HB0⟩
  case round =>
    obtain ⟨m, j, A2, c2, D, hm, rfl, rfl, rfl, HD, HA, HR2, HC2, HO, HB⟩ := hrel
    rename_i v _
    have hDl : D.length = d.length - m := by rw [HD.out, List.length_drop]
    rcases Nat.lt_or_ge m d.length with hlt | hge
    · have hk828 := HA.out.room hm hl
      obtain ⟨fo, hfo, hfo56, hz⟩ := HA.out.spot hlt
      obtain ⟨t, ht⟩ : ∃ t : Nat, t = at0 + m := ⟨_, rfl⟩
      obtain ⟨k, hk⟩ : ∃ k : Nat, k = F + j := ⟨_, rfl⟩
      rw [← ht, ← HF.out, ← hk] at hfo
      have hFo := HF.out
      rw [← ht, ← hk]
      obtain ⟨mn, hmn⟩ : ∃ mn : Nat, mn = min (d.length - m) (56 - fo) := ⟨_, rfl⟩
      have ek : IntKind.i64.wrap ((k : Int) * 56) = (k : Int) * 56 := IntWalk.i64_in _ (by omega)
      have efo : (t : Int) - (k : Int) * 56 = (fo : Int) := by omega
      have emn : min (D.length : Int) (56 - (fo : Int)) = (mn : Int) := by omega
      have hD0 : (0 : Int) < (D.length : Int) := by omega
      have hDm : (D.length : Int) ≤ 46368 := by omega
      have htm : (t : Int) ≤ 46368 := by omega
      have hkm : (k : Int) ≤ 829 := by omega
      have hff : (fo : Int) ≤ 55 := by omega
      have hmn0 : 0 < mn := by omega
      have hmn1 : (mn : Int) ≤ 56 := by omega
      have hmnD : mn ≤ D.length := by omega
      have HROW : Hid (∀ old : List Int, old.length = 56 → splice old fo (D.take mn) = rowF at0 d old k) := fun old ho => by rw [HD.out]; exact splice_row at0 m k fo mn d old ho (by omega) hfo56 hz hlt hmn
      have HNX : Hid (At3 at0 d.length (m + mn) (j + 1)) := At3.next hlt (by rw [← HF.out, ← hk, ← ht]; exact hfo) hfo56 hmn
      have HWH : Hid (¬ mn < 56 → ∀ old old' : List Int, rowF at0 d old k = rowF at0 d old' k) := fun hw old old' => rowF_whole at0 d old old' k (fun i hi => by omega)
      have HKF : Hid (k = at0 / 56 + j) := by rw [← HF.out]; exact hk
      have HKJ : Hid (k = F + j) := hk
      have HTM : Hid (t = at0 + m) := ht
      have HLT : Hid (m + mn ≤ d.length) := by show _ ≤ _; omega
      have HDD : Hid (D.drop mn = d.drop (m + mn)) := by show _ = _; rw [HD.out, List.drop_drop]
      obtain ⟨A3, hcut, hC3, hc3⟩ := cut_read HC2.out HR2.out mn hmnD
      have HC3 := Lib.hid hC3
      have HR3 := Lib.hid hc3
      have HMM := Lib.hid hmnD
      have HFO := Lib.hid hfo56
      have HM0 := Lib.hid hmn0
      have HPZ : Hid (fo = 0 ∨ mn < 56) := by show _ ∨ _; omega
      have HJ := Lib.hid hk828
      clear hDl hlt hfo hz ht hk hFo hmn hm hC3 hc3 hmnD hfo56 hmn0 hk828 h0 hl
      by_cases hp : mn < 56
      · have dp : decide ((mn : Int) < 56) = true := decide_eq_true (by omega)
        have hkw : (Lit.int .i64 (k : Int)).wf = true := wf_i (by omega) (by omega)
        have HKW := Lib.hid hkw
        clear hp hkw
        go_wp2_with (((with_reducible refine gate_dst (N := 34) rfl ?_); refine Kd.R_make (Kd.int .u8) (w0 := wr) wr.heap.size 5 rfl (N := 34) rfl 34 (.const (.int .i64 56)) (.const (.int .i64 56)) rfl 56 rfl rfl Tryd.underlying34 (.int .u8 0) 1 infoB1 rfl (by decide) (by decide) 0 (ok := fun _ => True) (okp := fun _ => True) rfl (fun _ h => h) trivial (by decide) (by decide) (Below.refl _ _) (Nat.le_refl _) ?_; intro v5 w1 hR hB _ _; obtain ⟨A5, c5, rfl⟩ := Kd.R_slice hR; rw [show (List.replicate (Int.toNat 56) (0 : Int)).length = 56 from rfl] at hR ⊢; have HR5 := Lib.hid hR; have H1 := Lib.hid hB; clear hR hB))
        refine (HT.out w1 (HB.out.trans (H1.out.mono HB.out.size)) (k : Int) HKW.out).mono ?_
        rintro e w2 ⟨hB, hG⟩
        have HB2 := Lib.hid hB
        clear hB
        cases ho : o (k : Int) with
        | none =>
          rw [ho] at hG
          obtain rfl := hG
          have HNO := Lib.hid ho
          clear ho
          go_wp2
          go_ret3
          exact ⟨(HB.out.trans (H1.out.mono HB.out.size)).trans (HB2.out.mono (Nat.le_trans HB.out.size H1.out.size)), Or.inl ⟨rfl, k, HNO.out⟩⟩
        | some old =>
          rw [ho] at hG
          obtain ⟨h56, A6, c6, rfl, hc6, hC6⟩ := hG
          obtain ⟨ad6, rfl, _⟩ := hC6.2.2 (by decide)
          have hcl := clone_some ad6 c6 old w2 (by rw [h56]; exact hC6) (by omega)
          rw [h56] at hcl
          have HCL := Lib.hid hcl
          have H56 := Lib.hid h56
          have HOO := Lib.hid ho
          clear hC6 hcl h56 ho
          go_wp2_with fail
          refine HCL.out.mono ?_
          clear HCL
          rintro e w3 ⟨v3, rfl, hR3, hB3⟩
          obtain ⟨A7, c7, rfl⟩ := Kd.R_slice hR3
          obtain ⟨g, cur, rfl, _, hc7, hg, hheap, hcurl, hshut⟩ := R_open hR3 (by rw [H56.out]; decide)
          have HXS := H56
          have HRO : Hid ((o (k : Int)).getD zrow = old) := by show _ = _; rw [HOO.out]; rfl
          have HB3 : Hid (Below wr.heap.size wr w3) := H1.out.trans ((HB2.out.mono H1.out.size).trans (hB3.mono (Nat.le_trans H1.out.size HB2.out.size)))
          have HGW : Hid (wr.heap.size ≤ g) := Nat.le_trans H1.out.size (Nat.le_trans HB2.out.size hg)
          have HBB : Hid (wr.heap.size ≤ w2.heap.size) := Nat.le_trans H1.out.size HB2.out.size
          have HRR : Hid (rowF at0 d old k = rowF at0 d ((o (k : Int)).getD zrow) k) := by show _ = _; rw [HRO.out]
          obtain ⟨xs, hxs⟩ : ∃ xs, xs = old := ⟨_, rfl⟩
          rw [← hxs] at HXS HRR hshut hc7
          rw [HXS.out] at hc7 hshut
          rw [H56.out]
          have HXX := Lib.hid hxs
          clear hR3 hB3 hg hxs
          have HC7 := Lib.hid hc7
          have HHE := Lib.hid hheap
          have HCU := Lib.hid hcurl
          have HSH := Lib.hid hshut
          have hcutb := cut_own g 56 c7 fo (by have := HFO.out; omega) (by have := HFO.out; have := HC7.out; omega)
          have hcuth := cut_hi A2 D.length c2 mn HMM.out HR2.out
          obtain ⟨ad2, hA2, hsrc⟩ := (Kd.reads_of_C (d := (0 : Int)) HC2.out).2.2 (by omega)
          have HSRC : Hid (∀ W : World, Below w.heap.size w W → ∀ (i : Nat) (u : Value), (encs (Value.int .u8) (D.take mn))[i]? = some u → W.cell? (ad2.add i) = some u) := by
            intro W hW i u hu
            have hi : i < (D.take mn).length := by have := (List.getElem?_eq_some_iff.1 hu).1; rwa [encs_length] at this
            rw [encs_get (d := (0 : Int)) _ i hi] at hu
            cases hu
            rw [List.length_take] at hi
            have h := pw_cell_below hW (hsrc i (by omega))
            rw [h]
            congr 2
            rw [List.getD_eq_getElem?_getD, List.getD_eq_getElem?_getD, List.getElem?_take, if_pos (by omega)]
          have HEL : Hid ((encs (Value.int .u8) (D.take mn)).length = mn) := by show _ = _; rw [encs_length, List.length_take]; have := HMM.out; omega
          have HA2 := Lib.hid hA2
          obtain ⟨cs, hcs⟩ : ∃ cs, cs = encs (Value.int .u8) (D.take mn) := ⟨_, rfl⟩
          rw [← hcs] at HSRC HEL
          have HCS := Lib.hid hcs
          have HMF : Hid (mn ≤ 56 - fo) := by show _ ≤ _; have := HFO.out; omega
          clear hc7 hheap hcurl hshut hA2 hsrc hcs
          go_wp2_with fail
          go_region_law (refine step_copy_splice rfl (.tmp 50) (.tmp 53) 34 34 rfl 5 Tryd.underlying34 (by kernel_rfl) (some ⟨g, fo, none⟩) A2 (56 - fo) (c7 - fo) mn c2 (by simp [Act.eval, Act.put]) (by simp [Act.eval, Act.put]) g fo cur 5 HHE.out cs (by rw [HEL.out]; exact (Nat.min_eq_left HMF.out).symm) (fun _ => ⟨rfl, ad2, HA2.out, HSRC.out _ (HB.out.trans ((below_drew HB3.out).mono HB.out.size))⟩) (by rw [HEL.out, HCU.out]; have := HMF.out; have := HC7.out; have := HFO.out; omega) (by rw [HCS.out]; intro u hu; obtain ⟨y, _, rfl⟩ := List.mem_map.1 hu; rfl) wr.heap.size wr (below_drew HB3.out) HGW.out ?_; intro w4 hg4 hb4)
          all_goals
            have hRW := HSH.out w4 fo (D.take mn) (by rw [← HCS.out]; exact hg4.out) (by rw [List.length_take]; have := HMM.out; have := HMF.out; have := HFO.out; omega)
            rw [HROW.out xs HXS.out, HRR.out] at hRW
            have HRW := Lib.hid (Kd.R_lower (Kd.R_mono (ok' := fun i => wr.heap.size ≤ i) (Kd.R_bound hRW) (fun i hi => Nat.le_trans HBB.out hi.2.1)) (Nat.le_trans HB.out.size HBB.out))
            have HVO : Hid (∀ i, u10.ownBlock = some i → i < wr.heap.size) := fun i hi => ((Kd.R_bound HO.out).1 i hi).2.2.1
            have HO4 := Lib.hid (Kd.R_below HO.out hb4)
            have HB4 : Hid (Below w.heap.size w w4) := HB.out.trans (hb4.mono HB.out.size)
            clear hRW hg4 hb4 HSH HCS HSRC HEL HCU HHE hcutb hcuth
            go_wp2_with ((with_reducible refine gate_builtin (b := .append) (xs := #[.tmp 55, .tmp 57]) rfl ?_); at_builtin; refine Kd.R_append kRow (w0 := w) w.heap.size rfl (.tmp 55) (.tmp 57) 31 34 (.slice none 0 0) 24 rfl Tryd.underlying31 infoRS rfl (by decide) (by decide) _ (rowsF o at0 d j) (rowF at0 d ((o (k : Int)).getD zrow) k) [.slice (some ⟨g, 0, none⟩) 56 c7] (fun _ => True) (fun i => wr.heap.size ≤ i) rfl rfl ?aP ?aK ?aF ?aO ?aB ?aS ?aL ?_; (case aP => exact Kd.M_row HRW.out); (case aK => exact fun i hi => ⟨trivial, fun e => by have := HVO.out i e.symm; omega⟩); (case aF => exact fun _ _ => trivial); (case aO => exact HO4.out); (case aB => exact HB4.out); (case aS => exact HB4.out.size); (case aL => rw [rowsF_len]; have := HJ.out; omega); intro v1 w5 hO5 hB5 hg5 hat5; have HO5 := Lib.hid hO5; have HB5 := Lib.hid hB5; clear hO5 hB5 hg5 hat5)
            go_roundw
            case rel => exact ⟨m + mn, j + 1, A3, c2 - mn, D.drop mn, HLT.out, by rw [HTM.out]; go_num, by rw [List.length_drop], by rw [HKJ.out]; go_num, HDD, HNX, HR3, HC3, by rw [rowsF_succ, ← HKF.out]; exact HO5, HB5⟩
            case measure => have := HM0.out; simp [intOf]; omega
      · have dp : decide ((mn : Int) < 56) = false := decide_eq_false (by omega)
        go_wp2_with ((with_reducible refine gate_dst (N := 34) rfl ?_); refine Kd.R_make (Kd.int .u8) (w0 := wr) wr.heap.size 5 rfl (N := 34) rfl 34 (.const (.int .i64 56)) (.const (.int .i64 56)) rfl 56 rfl rfl Tryd.underlying34 (.int .u8 0) 1 infoB1 rfl (by decide) (by decide) 0 (ok := fun _ => True) (okp := fun _ => True) rfl (fun _ h => h) trivial (by decide) (by decide) (Below.refl _ _) (Nat.le_refl _) ?_; intro v5 w1 hR hB _ _; obtain ⟨A5, c5, rfl⟩ := Kd.R_slice hR; rw [show (List.replicate (Int.toNat 56) (0 : Int)).length = 56 from rfl] at hR ⊢; have HR5 := Lib.hid hR; have H1 := Lib.hid hB; clear hR hB)
        obtain ⟨g, cur, rfl, _, hc7, hg, hheap, hcurl, hshut⟩ := R_open HR5.out (by decide)
        have HXS : Hid ((List.replicate (Int.toNat 56) (0 : Int)).length = 56) := rfl
        have HB3 := H1
        have HGW := Lib.hid hg
        have HBB : Hid (wr.heap.size ≤ wr.heap.size) := Nat.le_refl _
        have HRR : Hid (rowF at0 d (List.replicate (Int.toNat 56) 0) k = rowF at0 d ((o (k : Int)).getD zrow) k) := HWH.out hp _ _
        obtain ⟨xs, hxs⟩ : ∃ xs, xs = List.replicate (Int.toNat 56) (0 : Int) := ⟨_, rfl⟩
        rw [← hxs] at HXS HRR hshut
        rw [HXS.out] at hshut
        have hc7 : 56 ≤ c5 := by have := (Kd.R_reads' HR5.out).2.1; exact this
        have HXX := Lib.hid hxs
        clear hg hxs hp
        have HC7 := Lib.hid hc7
        have HHE := Lib.hid hheap
        have HCU := Lib.hid hcurl
        have HSH := Lib.hid hshut
        have hcutb := cut_own g 56 c5 fo (by have := HFO.out; omega) (by have := HFO.out; have := HC7.out; omega)
        have hcuth := cut_hi A2 D.length c2 mn HMM.out HR2.out
        obtain ⟨ad2, hA2, hsrc⟩ := (Kd.reads_of_C (d := (0 : Int)) HC2.out).2.2 (by omega)
        have HSRC : Hid (∀ W : World, Below w.heap.size w W → ∀ (i : Nat) (u : Value), (encs (Value.int .u8) (D.take mn))[i]? = some u → W.cell? (ad2.add i) = some u) := by
          intro W hW i u hu
          have hi : i < (D.take mn).length := by have := (List.getElem?_eq_some_iff.1 hu).1; rwa [encs_length] at this
          rw [encs_get (d := (0 : Int)) _ i hi] at hu
          cases hu
          rw [List.length_take] at hi
          have h := pw_cell_below hW (hsrc i (by omega))
          rw [h]
          congr 2
          rw [List.getD_eq_getElem?_getD, List.getD_eq_getElem?_getD, List.getElem?_take, if_pos (by omega)]
        have HEL : Hid ((encs (Value.int .u8) (D.take mn)).length = mn) := by show _ = _; rw [encs_length, List.length_take]; have := HMM.out; omega
        have HA2 := Lib.hid hA2
        obtain ⟨cs, hcs⟩ : ∃ cs, cs = encs (Value.int .u8) (D.take mn) := ⟨_, rfl⟩
        rw [← hcs] at HSRC HEL
        have HCS := Lib.hid hcs
        have HMF : Hid (mn ≤ 56 - fo) := by show _ ≤ _; have := HFO.out; omega
        clear hc7 hheap hcurl hshut hA2 hsrc hcs
        go_wp2_with fail
        go_region_law (refine step_copy_splice rfl (.tmp 50) (.tmp 53) 34 34 rfl 5 Tryd.underlying34 (by kernel_rfl) (some ⟨g, fo, none⟩) A2 (56 - fo) (c5 - fo) mn c2 (by simp [Act.eval, Act.put]) (by simp [Act.eval, Act.put]) g fo cur 5 HHE.out cs (by rw [HEL.out]; exact (Nat.min_eq_left HMF.out).symm) (fun _ => ⟨rfl, ad2, HA2.out, HSRC.out _ (HB.out.trans ((below_drew HB3.out).mono HB.out.size))⟩) (by rw [HEL.out, HCU.out]; have := HMF.out; have := HC7.out; have := HFO.out; omega) (by rw [HCS.out]; intro u hu; obtain ⟨y, _, rfl⟩ := List.mem_map.1 hu; rfl) wr.heap.size wr (below_drew HB3.out) HGW.out ?_; intro w4 hg4 hb4)
        all_goals
          have hRW := HSH.out w4 fo (D.take mn) (by rw [← HCS.out]; exact hg4.out) (by rw [List.length_take]; have := HMM.out; have := HMF.out; have := HFO.out; omega)
          rw [HROW.out xs HXS.out, HRR.out] at hRW
          have HRW := Lib.hid (Kd.R_lower (Kd.R_mono (ok' := fun i => wr.heap.size ≤ i) (Kd.R_bound hRW) (fun i hi => Nat.le_trans HBB.out hi.2.1)) (Nat.le_trans HB.out.size HBB.out))
          have HVO : Hid (∀ i, u10.ownBlock = some i → i < wr.heap.size) := fun i hi => ((Kd.R_bound HO.out).1 i hi).2.2.1
          have HO4 := Lib.hid (Kd.R_below HO.out hb4)
          have HB4 : Hid (Below w.heap.size w w4) := HB.out.trans (hb4.mono HB.out.size)
          clear hRW hg4 hb4 HSH HCS HSRC HEL HCU HHE hcutb hcuth
          go_wp2_with ((with_reducible refine gate_builtin (b := .append) (xs := #[.tmp 55, .tmp 57]) rfl ?_); at_builtin; refine Kd.R_append kRow (w0 := w) w.heap.size rfl (.tmp 55) (.tmp 57) 31 34 (.slice none 0 0) 24 rfl Tryd.underlying31 infoRS rfl (by decide) (by decide) _ (rowsF o at0 d j) (rowF at0 d ((o (k : Int)).getD zrow) k) [.slice (some ⟨g, 0, none⟩) 56 c5] (fun _ => True) (fun i => wr.heap.size ≤ i) rfl rfl ?aP ?aK ?aF ?aO ?aB ?aS ?aL ?_; (case aP => exact Kd.M_row HRW.out); (case aK => exact fun i hi => ⟨trivial, fun e => by have := HVO.out i e.symm; omega⟩); (case aF => exact fun _ _ => trivial); (case aO => exact HO4.out); (case aB => exact HB4.out); (case aS => exact HB4.out.size); (case aL => rw [rowsF_len]; have := HJ.out; omega); intro v1 w5 hO5 hB5 hg5 hat5; have HO5 := Lib.hid hO5; have HB5 := Lib.hid hB5; clear hO5 hB5 hg5 hat5)
          go_roundw
          case rel => exact ⟨m + mn, j + 1, A3, c2 - mn, D.drop mn, HLT.out, by rw [HTM.out]; go_num, by rw [List.length_drop], by rw [HKJ.out]; go_num, HDD, HNX, HR3, HC3, by rw [rowsF_succ, ← HKF.out]; exact HO5, HB5⟩
          case measure => have := HM0.out; simp [intOf]; omega
    · obtain rfl : m = d.length := by omega
      have hj := HA.out.done h0
      have hz : D.length = 0 := by omega
      obtain ⟨A', c', rfl⟩ := Kd.R_slice HO.out
      have hrr := Kd.R_reads' HO.out
      rw [hj] at hrr ⊢
      have HRR := Lib.hid hrr
      clear hrr hj hDl HD
      go_wp2
      go_ret3
      exact ⟨HB.out, Or.inr ⟨A', c', by rw [← HF.out]; rfl, HRR.out.2.1, HRR.out.2.2⟩⟩
end Go.Proofs.YthahdombnmkokaaDoor.Given

/- file.File: what a Write or a Trunc turns; by hand. -/
namespace Go.Proofs.YthahdombnmkokaaDoor.Given
open Go.RowKit Go.Maps Go.Sort Go.Shelf Go.Proofs.YthahdombnmkokaaDoorW.PrintWords Go.Proofs.YthahdombnmkokaaDoorW.PrintLast Go.Proofs.YthahdombnmkokaaDoorW.PrintMore Go.Proofs.YthahdombnmkokaaDoor.Base
set_option linter.unusedVariables false
set_option linter.unusedSimpArgs false
variable {G : Nat → Prop}
theorem blk_thaw {w : World} {g : Nat} {t : TypeId} {cs : Array Value} (h : w.heap[g]? = some (.cells cs t (0, 0))) (k : Nat) : w.frozen? ⟨g, k, none⟩ = false := by simp [World.frozen?, h]
theorem addr_of_C8 {w : World} {k : IntKind} {A : Option Addr} {n : Nat} {xs : List Int} (h : Kd.C (Kd.int k) w A n xs) (h0 : 0 < n) : ∃ b off, A = some ⟨b, off, none⟩ ∧ ∀ j, j < n → w.cell? ⟨b, off + j, none⟩ = some (.int k (xs.getD j 0)) := by
  obtain ⟨ad, e, hc⟩ := (Kd.reads_of_C (d := (0 : Int)) h).2.2 h0
  have hs : ad.spot = none := by
    have h1 := hc 0 h0
    cases hsp : ad.spot with
    | none => rfl
    | some s =>
      exfalso
      have a0 : ad.add 0 = ad := by simp [Addr.add]
      rw [a0] at h1
      unfold World.cell? at h1
      split at h1
      · rw [hsp] at h1; simp at h1
      · cases h1
  obtain ⟨b, off, sp⟩ := ad
  simp only at hs
  subst hs
  exact ⟨b, off, e, fun j hj => by have := hc j hj; rwa [addr_add] at this⟩
theorem grown_set (W : World) (b k : Nat) (v : Value) : W.grownBy (W.setCell ⟨b, k, none⟩ v) (some b) :=
  ⟨rfl, rfl, rfl, by simp [World.setCell], fun i _ hne => Below.heap_setCell W ⟨b, k, none⟩ v i (fun e => hne (by rw [e]))⟩
/-- A slice of bytes is as it was, where no byte lies in the block that turned. -/
theorem C_but {w w1 : World} {pr : Nat} {cs : Array Value} {t : TypeId} (hp : w.heap[pr]? = some (.cells cs t (0, 0))) (hno : ∀ (i : Nat) (x : Int), cs[i]? ≠ some (Value.int .u8 x)) (hg : w.grownBy w1 (some pr)) {A : Option Addr} {n : Nat} {xs : List Int} (h : Kd.C (Kd.int .u8) w A n xs) : Kd.C (Kd.int .u8) w1 A n xs := by
  rcases Nat.eq_zero_or_pos n with h0 | h0
  · subst h0
    exact ⟨h.1, h.2.1, fun hn => absurd hn (by omega)⟩
  · obtain ⟨b, off, rfl, hcl⟩ := addr_of_C8 h h0
    refine Kd.C_of_reads (d := (0 : Int)) (h1 := fun _ => rfl) ⟨h.1, h.2.1, fun _ => ⟨_, rfl, fun j hj => ?_⟩⟩
    rw [addr_add]
    have hj' := hcl j hj
    by_cases e : b = pr
    · subst e
      exact absurd ((blk_cell hp (off + j)).symm.trans hj') (hno _ _)
    · rw [← hj']
      refine cell_block (p := ⟨b, off + j, none⟩) ?_
      cases hb : w.heap[b]? with
      | none => unfold World.cell? at hj'; rw [hb] at hj'; simp at hj'
      | some o => rw [← hb]; exact hg.block b (Array.getElem?_eq_some_iff.1 hb).1 (fun q => e (Option.some.inj q))
theorem FX.no8 {w : World} {q p bA bF N : Nat} {n : Int} {a : Int → Option Int} {f : Int → Option (List Int)} {fr : Value} (h : FX G w q p bA bF N n a f fr) (i : Nat) (x : Int) : (#[.int .i64 n, .pointer (some ⟨p, 0, none⟩), fr] : Array Value)[i]? ≠ some (Value.int .u8 x) := by
  rcases i with _ | _ | _ | i
  · intro h; cases h
  · intro h; cases h
  · intro e; exact h.nf x (Option.some.inj e)
  · intro h; simp at h
/-- What a call on a file turns. -/
def S3 (q bA bF : Nat) : Nat → Prop := fun i => i = bA ∨ i = bF ∨ i = q
structure FT (q bA bF : Nat) (w w' : World) : Prop where
  tr : Turns (S3 q bA bF) w w'
  c8 : ∀ {A : Option Addr} {n : Nat} {xs : List Int}, Kd.C (Kd.int .u8) w A n xs → Kd.C (Kd.int .u8) w' A n xs
theorem FT.refl (q bA bF : Nat) (w : World) : FT q bA bF w w := ⟨.refl w, fun h => h⟩
theorem FT.trans {q bA bF : Nat} {w w1 w2 : World} (h : FT q bA bF w w1) (k : FT q bA bF w1 w2) : FT q bA bF w w2 := ⟨h.tr.trans k.tr, fun c => k.c8 (h.c8 c)⟩
theorem FT.below {q bA bF : Nat} {w w1 : World} (hb : Below w.heap.size w w1) : FT q bA bF w w1 := ⟨Turns.of_below hb, fun c => Kd.C_below c hb⟩
theorem FT.map {w w1 : World} {q p bA bF N : Nat} {a : Int → Option Int} {f : Int → Option (List Int)} (h : BX G w p bA bF N a f) (ht : Turns (Two bA bF) w w1) : FT q bA bF w w1 :=
  ⟨ht.or (fun b h => h.elim Or.inl (fun h => Or.inr (Or.inl h))), fun c => (ht.cells h.two).C c⟩
theorem FT.set {w : World} {q p bA bF N : Nat} {n n1 : Int} {a : Int → Option Int} {f : Int → Option (List Int)} {fr : Value} (h : FX G w q p bA bF N n a f fr) : FT q bA bF w (w.setCell ⟨q, 0, none⟩ (.int .i64 n1)) :=
  ⟨Turns.one (grown_set _ _ _ _) (Or.inr (Or.inr rfl)), fun c => C_but h.hq h.no8 (grown_set _ _ _ _) c⟩
/-- A block of cells of another type is none of these. -/
theorem FX.off {w : World} {q p bA bF N : Nat} {n : Int} {a : Int → Option Int} {f : Int → Option (List Int)} {fr : Value} (h : FX G w q p bA bF N n a f fr) {i : Nat} {cs : Array Value} {t : TypeId} {z : Nat × Nat} (hi : w.heap[i]? = some (.cells cs t z)) (ht : t ≠ 61) : ¬ S3 q bA bF i := by
  have htw := h.bx.two
  rintro (e | e | e)
  · obtain ⟨es, ck, h1⟩ := htw i (Or.inl e); rw [h1] at hi; cases hi
  · obtain ⟨es, ck, h1⟩ := htw i (Or.inr e); rw [h1] at hi; cases hi
  · subst e; rw [h.hq] at hi; injection hi with hi; injection hi with _ hi; exact ht hi.symm
theorem FT.blk {w w1 : World} {q p bA bF N : Nat} {n : Int} {a : Int → Option Int} {f : Int → Option (List Int)} {fr : Value} (k : FT q bA bF w w1) (h : FX G w q p bA bF N n a f fr) {i : Nat} {cs : Array Value} {t : TypeId} {z : Nat × Nat} (hi : w.heap[i]? = some (.cells cs t z)) (ht : t ≠ 61) : w1.heap[i]? = some (.cells cs t z) :=
  (k.tr.block (blk_lt hi) (h.off hi ht)).trans hi
/-- Bytes of the law's own are as they were. -/
theorem FT.R8 {w w1 : World} {q p bA bF N : Nat} {n : Int} {a : Int → Option Int} {f : Int → Option (List Int)} {fr : Value} (k : FT q bA bF w w1) (h : FX G w q p bA bF N n a f fr) {base : Nat} {ok : Nat → Prop} {v : Value} {xs : List Int} (hR : Kd.R (Kd.int .u8) 5 w base ok v xs) : Kd.R (Kd.int .u8) 5 w1 base ok v xs :=
  Kd.R_mono (Kd.R_move (Kd.R_bound hR) (fun i hi => by
    obtain ⟨_, _, hlt, t, ht, cs, hc⟩ := hi
    refine k.tr.block hlt (h.off hc ?_)
    have : t = 5 := by simpa [Kd.int, Kd.scalar] using ht
    rw [this]
    decide)) (fun _ hi => hi.1)
/-- Another file is as it was. -/
theorem FT.other {w w1 : World} {q p bA bF N : Nat} {n : Int} {a : Int → Option Int} {f : Int → Option (List Int)} {fr : Value} (k : FT q bA bF w w1) (h : FX G w q p bA bF N n a f fr) {q2 p2 bA2 bF2 N2 : Nat} {n2 : Int} {a2 : Int → Option Int} {f2 : Int → Option (List Int)} {fr2 : Value} (h2 : FX G w q2 p2 bA2 bF2 N2 n2 a2 f2 fr2) (hq : q2 ≠ q) (hA : ¬ S3 q bA bF bA2) (hF : ¬ S3 q bA bF bF2) : FX G w1 q2 p2 bA2 bF2 N2 n2 a2 f2 fr2 := by
  have hq2 : ¬ S3 q bA bF q2 := by
    have htw := h.bx.two
    rintro (e | e | e)
    · obtain ⟨es, ck, h1⟩ := htw q2 (Or.inl e); rw [h2.hq] at h1; cases h1
    · obtain ⟨es, ck, h1⟩ := htw q2 (Or.inr e); rw [h2.hq] at h1; cases h1
    · exact hq e
  refine ⟨(k.tr.block (blk_lt h2.hq) hq2).trans h2.hq, ?_, h2.nf⟩
  obtain ⟨DA, DF, mF, hB⟩ := h2.bx
  refine ⟨DA, DF, mF, ⟨(k.tr.block (blk_lt hB.hp) (h.off hB.hp (by decide))).trans hB.hp, hB.bp, hB.ba, hB.bf, hB.ne, k.tr.owns hB.oA hA, hB.hA, k.tr.owns hB.oF hF, hB.hF, fun i => ⟨(hB.el i).1, fun r hr => ?_⟩⟩⟩
  obtain ⟨u, hu, A, c, rfl, h3, h4, h5⟩ := (hB.el i).2 r hr
  exact ⟨_, hu, A, c, rfl, h3, h4, k.c8 h5.1, h5.2⟩
/-- The file's size set. -/
theorem FX.sized {w : World} {q p bA bF N : Nat} {n : Int} {a : Int → Option Int} {f : Int → Option (List Int)} {fr : Value} (h : FX G w q p bA bF N n a f fr) (n1 : Int) : FX G (w.setCell ⟨q, 0, none⟩ (.int .i64 n1)) q p bA bF N n1 a f fr := by
  refine ⟨blk_put h.hq 0 _ rfl, ?_, h.nf⟩
  have hg : w.grownBy (w.setCell ⟨q, 0, none⟩ (.int .i64 n1)) (some q) := grown_set _ _ _ _
  obtain ⟨DA, DF, mF, hB⟩ := h.bx
  have hm : ∀ {b m : Nat} {D : DataW Value}, w.ownsMap Tryd.prog 3 tokR b m D → some b ≠ some q := fun {b m D} o e => by
    obtain ⟨es, ck, hb, _⟩ := o
    rw [Option.some.inj e, h.hq] at hb
    cases hb
  refine ⟨DA, DF, mF, ⟨blk_far hB.hp (blk_ne hB.hp h.hq (by decide)) _, hB.bp, hB.ba, hB.bf, hB.ne, hB.oA.kept hg (hm hB.oA), hB.hA, hB.oF.kept hg (hm hB.oF), hB.hF, fun k => ⟨(hB.el k).1, fun r hr => ?_⟩⟩⟩
  obtain ⟨u, hu, A, c, rfl, h1, h2, h3⟩ := (hB.el k).2 r hr
  exact ⟨_, hu, A, c, rfl, h1, h2, C_but h.hq h.no8 hg h3.1, h3.2⟩
/-- A block's bytes, none where they are noughts. -/
def nrm (r : List Int) : Option (List Int) := if someB r 56 then some r else none
theorem put_allT {w : World} {p bA bF N : Nat} {a : Int → Option Int} {f : Int → Option (List Int)} (h : BX G w p bA bF N a f) (hN : N < 1000000) (k : Int) (h0 : 0 ≤ k) (h1 : k < 828) (A : Option Addr) (c : Nat) (b : List Int) (hb : b.length = 56) (hc : 56 ≤ c) (hC : Kd.C (Kd.int .u8) w A b.length b) (hG : ∀ b, w.heap.size ≤ b → G b) :
    Calls Tryd.prog 27 #[.pointer (some ⟨p, 0, none⟩), .int .i64 k, .slice A 56 c] w fun e w' => e = .returned (.int .i64 0) ∧ BX G w' p bA bF (N + 1) (setF a k none) (setF f k (nrm b)) ∧ Turns (Two bA bF) w w' := by
  unfold nrm
  cases hz : someB b 56 with
  | false =>
    refine (put_zeroT h k h0 h1 A c b hb hc hC ?_).mono ?_
    · unfold bits_Nought.f; rw [hb]; unfold someB at hz; simpa using hz
    · rintro e w' ⟨rfl, hM, hB⟩
      exact ⟨rfl, hM.mono (by omega), hB⟩
  | true =>
    refine (put_someT h hN k h0 h1 A c b hb hc hC ?_ hG).mono ?_
    · unfold bits_Nought.f; rw [hb]; unfold someB at hz; simpa using hz
    · rintro e w' ⟨rfl, hM, hB⟩
      exact ⟨rfl, hM, hB⟩
/-- A map behind rows that were put. -/
def putsF (F : Nat) (L : List (List Int)) (f : Int → Option (List Int)) : Int → Option (List Int) := fun k => if (F : Int) ≤ k ∧ k < F + L.length then nrm (L.getD (k - F).toNat []) else f k
def cutsA (F n : Nat) (a : Int → Option Int) : Int → Option Int := fun k => if (F : Int) ≤ k ∧ k < F + n then none else a k
theorem putsF_nil (F : Nat) (f : Int → Option (List Int)) : putsF F [] f = f := by
  funext k
  unfold putsF
  rw [if_neg (by simp)]
theorem cutsA_nil (F : Nat) (a : Int → Option Int) : cutsA F 0 a = a := by
  funext k
  unfold cutsA
  rw [if_neg (by omega)]
theorem putsF_snoc (F : Nat) (L : List (List Int)) (r : List Int) (f : Int → Option (List Int)) : putsF F (L ++ [r]) f = setF (putsF F L f) (F + L.length : Nat) (nrm r) := by
  funext k
  unfold putsF setF
  dsimp only
  rw [List.length_append, List.length_singleton]
  by_cases e : k = ((F + L.length : Nat) : Int)
  · rw [if_pos (by omega), if_pos e, List.getD_eq_getElem?_getD, show (k - F).toNat = L.length by omega, List.getElem?_append_right (Nat.le_refl _)]
    simp
  · rw [if_neg e]
    by_cases h : (F : Int) ≤ k ∧ k < F + L.length
    · rw [if_pos (by omega), if_pos h, List.getD_eq_getElem?_getD, List.getD_eq_getElem?_getD, List.getElem?_append_left (by omega)]
    · rw [if_neg (by omega), if_neg h]
theorem cutsA_snoc (F n : Nat) (a : Int → Option Int) : cutsA F (n + 1) a = setF (cutsA F n a) (F + n : Nat) none := by
  funext k
  unfold cutsA setF
  dsimp only
  by_cases e : k = ((F + n : Nat) : Int)
  · rw [if_pos (by omega), if_pos e]
  · rw [if_neg e]
    by_cases h : (F : Int) ≤ k ∧ k < F + n
    · rw [if_pos (by omega), if_pos h]
    · rw [if_neg (by omega), if_neg h]
theorem row_of_C {w : World} {A : Option Addr} {n : Nat} {xs : List (List Int)} (h : Kd.C kRow w A n xs) (h0 : 0 < n) :
    ∃ b off, A = some ⟨b, off, none⟩ ∧ ∀ (j : Nat) (r : List Int), xs[j]? = some r → ∃ Ad c, w.cell? ⟨b, off + j, none⟩ = some (.slice Ad r.length c) ∧ r.length ≤ c ∧ Kd.C (Kd.int .u8) w Ad r.length r := by
  obtain ⟨hl, hm, hc⟩ := h
  obtain ⟨ad, e, hcl⟩ := hc h0
  have each : ∀ (j : Nat) (r : List Int), xs[j]? = some r → ∃ Ad c, w.cell? (ad.add j) = some (.slice Ad r.length c) ∧ r.length ≤ c ∧ Kd.C (Kd.int .u8) w Ad r.length r := by
    intro j r hj
    obtain ⟨c, hs, hr, hcell⟩ := hcl j r hj
    obtain ⟨Ad, cd, rfl, g1, g2⟩ := hr
    have := hcell 0 _ rfl
    exact ⟨Ad, cd, by simpa [Kd.slice] using this, g1, g2⟩
  have hs : ad.spot = none := by
    have hx : 0 < xs.length := by omega
    obtain ⟨_, _, h1, _⟩ := each 0 _ (List.getElem?_eq_getElem hx)
    have a0 : ad.add 0 = ad := by simp [Addr.add]
    rw [a0] at h1
    cases hsp : ad.spot with
    | none => rfl
    | some s =>
      exfalso
      unfold World.cell? at h1
      split at h1
      · rw [hsp] at h1; simp at h1
      · cases h1
  obtain ⟨b, off, sp⟩ := ad
  simp only at hs
  subst hs
  refine ⟨b, off, e, fun j r hj => ?_⟩
  obtain ⟨Ad, c, h1, h2, h3⟩ := each j r hj
  rw [addr_add] at h1
  exact ⟨Ad, c, h1, h2, h3⟩
end Go.Proofs.YthahdombnmkokaaDoor.Given

/- file.File: Write; by hand. -/
namespace Go.Proofs.YthahdombnmkokaaDoor.Given
open Go.RowKit Go.Maps Go.Sort Go.Shelf Go.Proofs.YthahdombnmkokaaDoorW.PrintWords Go.Proofs.YthahdombnmkokaaDoorW.PrintLast Go.Proofs.YthahdombnmkokaaDoorW.PrintMore Go.Proofs.YthahdombnmkokaaDoor.Base
set_option linter.unusedVariables false
set_option linter.unusedSimpArgs false
variable {G : Nat → Prop}
set_option maxRecDepth 100000 in
set_option maxHeartbeats 4000000 in
theorem write_bad (q : Nat) (at_ : Int) (A : Option Addr) (n c : Nat) (w : World) (hn : n ≤ 140737488355328) (h : at_ < 0 ∨ 46368 < at_ ∨ 46368 - at_ < n) :
    Calls Tryd.prog 10 #[.pointer (some ⟨q, 0, none⟩), .int .i64 at_, .slice A n c] w fun e w' => e = .returned (.int .i64 28) ∧ w = w' := by
  by_cases h1 : at_ < 0
  · have d0 : decide (at_ < 0) = true := decide_eq_true h1
    clear h h1
    go_enter Tryd.func10, Tryd.ntmps10
    go_wp2
    go_ret
    exact ⟨rfl, rfl⟩
  · have d0 : decide (at_ < 0) = false := decide_eq_false h1
    by_cases h2 : 46368 < at_
    · have d1 : decide (46368 < at_) = true := decide_eq_true h2
      clear h h1 h2
      go_enter Tryd.func10, Tryd.ntmps10
      go_wp2
      go_ret
      exact ⟨rfl, rfl⟩
    · have d1 : decide (46368 < at_) = false := decide_eq_false h2
      have d2 : decide (46368 - at_ < (n : Int)) = true := decide_eq_true (by omega)
      have hn2 : (n : Int) ≤ 140737488355328 := by omega
      have g0 : (0 : Int) ≤ at_ := by omega
      have g1 : at_ ≤ 46368 := by omega
      clear h h1 h2
      go_enter Tryd.func10, Tryd.ntmps10
      go_wp2
      go_ret
      exact ⟨rfl, rfl⟩
set_option maxRecDepth 100000 in
set_option maxHeartbeats 4000000 in
theorem write_none (q : Nat) (at_ : Int) (A : Option Addr) (c : Nat) (w : World) (h0 : 0 ≤ at_) (h1 : at_ ≤ 46368) :
    Calls Tryd.prog 10 #[.pointer (some ⟨q, 0, none⟩), .int .i64 at_, .slice A 0 c] w fun e w' => e = .returned (.int .i64 0) ∧ w = w' := by
  have d0 : decide (at_ < 0) = false := decide_eq_false (by omega)
  have d1 : decide (46368 < at_) = false := decide_eq_false (by omega)
  have d2 : decide (46368 - at_ < (0 : Int)) = false := decide_eq_false (by omega)
  go_enter Tryd.func10, Tryd.ntmps10
  go_wp2
  go_ret
  exact ⟨rfl, rfl⟩
/-- What a Write of bytes leaves. -/
def Wrote (G : Nat → Prop) (q p bA bF N : Nat) (n : Int) (a : Int → Option Int) (f : Int → Option (List Int)) (fr : Value) (o : Int → Option (List Int)) (at0 : Nat) (d : List Int) (w w' : World) (e : Ending) : Prop :=
  (e = .returned (.int .i64 14) ∧ (∃ k : Nat, o (k : Int) = none) ∧ Below w.heap.size w w') ∨
  (e = .returned (.int .i64 0) ∧ FX G w' q p bA bF (N + 829) (max n ((at0 + d.length : Nat) : Int)) (cutsA (at0 / 56) (cntF at0 d.length) a) (putsF (at0 / 56) (rowsF o at0 d (cntF at0 d.length)) f) fr ∧ FT q bA bF w w')
set_option maxRecDepth 100000 in
set_option maxHeartbeats 8000000 in
theorem write_some {w : World} {q p bA bF N : Nat} {n : Int} {a : Int → Option Int} {f : Int → Option (List Int)} {fr : Value} (h : FX G w q p bA bF N n a f fr) (hN : N < 900000) (hn0 : 0 ≤ n) (hn1 : n ≤ 46368) {o : Int → Option (List Int)} (hT : Tells w q o) (at0 : Nat) (A : Option Addr) (c : Nat) (d : List Int) (hC : Kd.C (Kd.int .u8) w A d.length d) (hc : d.length ≤ c) (h0 : 0 < d.length) (hl : at0 + d.length ≤ 46368) (hG : ∀ b, w.heap.size ≤ b → G b) :
    Calls Tryd.prog 10 #[.pointer (some ⟨q, 0, none⟩), .int .i64 (at0 : Int), .slice A d.length c] w fun e w' => Wrote G q p bA bF N n a f fr o at0 d w w' e := by
  have d0 : decide ((at0 : Int) < 0) = false := decide_eq_false (by omega)
  have d1 : decide (46368 < (at0 : Int)) = false := decide_eq_false (by omega)
  have d2 : decide (46368 - (at0 : Int) < (d.length : Int)) = false := decide_eq_false (by omega)
  have hz : ((d.length : Int) == 0) = false := beq_eq_false_iff_ne.2 (by omega)
  have hx1 : (at0 : Int) ≤ 46368 := by omega
  have hx2 : (d.length : Int) ≤ 46368 := by omega
  have hcn : cntF at0 d.length ≤ 828 := by unfold cntF; omega
  have hcn0 : 0 < cntF at0 d.length := by unfold cntF; omega
  have hcF : at0 / 56 + cntF at0 d.length ≤ 828 := by unfold cntF; omega
  have HX := Lib.hid h
  have HGG := Lib.hid hG
  have HT := Lib.hid hT
  have HC := Lib.hid hC
  have HCC := Lib.hid hc
  have H0 := Lib.hid h0
  have HL := Lib.hid hl
  have HCN := Lib.hid hcn
  have HC0 := Lib.hid hcn0
  have HCF := Lib.hid hcF
  clear h hT hC hc hcn hcn0 hcF hG
  go_enter Tryd.func10, Tryd.ntmps10
  go_wp2_with fail
  refine (parted_calls HT.out at0 A c d HC.out HCC.out H0.out HL.out).mono ?_
  rintro e w1 ⟨hB, hP⟩
  have HB1 := Lib.hid hB
  clear hB
  rcases hP with ⟨rfl, hk⟩ | ⟨A1, c1, rfl, hc1, hC1⟩
  · have HK := Lib.hid hk
    clear hk
    go_wp2
    go_ret
    exact Or.inl ⟨rfl, HK.out, HB1.out⟩
  · obtain ⟨L, hL⟩ : ∃ L, L = rowsF o at0 d (cntF at0 d.length) := ⟨_, rfl⟩
    have hLl : L.length = cntF at0 d.length := by rw [hL, rowsF_len]
    rw [← hL] at hc1 hC1 ⊢
    have HLL := Lib.hid hLl
    have hlen1 : (L.length : Int) ≤ 828 := by have := HCN.out; omega
    have H56 : Hid (∀ (j : Nat) (r : List Int), L[j]? = some r → r.length = 56) := by
      intro j r hr
      rw [hL] at hr
      unfold rowsF at hr
      have hj : j < cntF at0 d.length := by have := (List.getElem?_eq_some_iff.1 hr).1; simpa using this
      rw [List.getElem?_map, List.getElem?_range hj] at hr
      cases hr
      exact rowF_len _ _ _ _
    have HLQ := Lib.hid hL
    obtain ⟨b, off, rfl, hrow⟩ := row_of_C hC1 (by have := HC0.out; omega)
    have HRO := Lib.hid hrow
    have HX1 := Lib.hid (HX.out.below HB1.out)
    obtain ⟨F, hF⟩ : ∃ F : Nat, F = at0 / 56 := ⟨_, rfl⟩
    rw [← hF]
    have HF := Lib.hid hF
    clear hL hLl hC1 hc1 hrow hF
    go_wp2
    go_loopw [41] (fun i wr => ∃ j : Nat, j ≤ L.length ∧ i = .int .i64 j ∧ Hid (FX G wr q p bA bF (N + j) n (cutsA F j a) (putsF F (L.take j) f) fr) ∧ Hid (Turns (Two bA bF) w1 wr)) (fun i _ => L.length - (intOf i).toNat)
    case atStart => exact ⟨0, Nat.zero_le _, rfl, Lib.hid (by rw [cutsA_nil, List.take_zero, putsF_nil]; exact HX1.out), Lib.hid (.refl w1)⟩
    case round =>
      obtain ⟨j, hj, rfl, HXr, HTr⟩ := hrel
      have c1 : wr.cell? ⟨q, 1, none⟩ = some (.pointer (some ⟨p, 0, none⟩)) := (blk_cell HXr.out.hq 1).trans rfl
      have hu := Tryd.underlying61
      by_cases hlt : j < L.length
      · have hjl := List.getElem?_eq_getElem hlt
        obtain ⟨r, hr⟩ : ∃ r, L[j] = r := ⟨_, rfl⟩
        rw [hr] at hjl
        obtain ⟨Ad, cd, hcell, hcd, hCd⟩ := HRO.out j r hjl
        have h56 := H56.out j r hjl
        have hk1 := HTr.out.cells HX1.out.bx.two
        have hcell2 := hk1.cell hcell
        have HCd := Lib.hid (hk1.C hCd)
        rw [h56] at hcell2 hcd
        have HCD := Lib.hid hcd
        have H56r := Lib.hid h56
        have HJF : Hid (F + j < 828) := by have e1 := HCF.out; have e2 := HF.out; have e3 := HLL.out; show _ < _; omega
        have hfj : (F : Int) + (j : Int) ≤ 828 := by have := HJF.out; omega
        have HTK : Hid (L.take (j + 1) = L.take j ++ [r]) := by show _ = _; rw [List.take_succ_eq_append_getElem hlt, hr]
        have HJL := Lib.hid hlt
        clear hjl hr hcell hcd hCd h56 hk1
        go_wp2_with fail
        refine (put_allT HXr.out.bx (by have := HJF.out; omega) ((F : Int) + (j : Int)) (by omega) (by have := HJF.out; omega) Ad cd r H56r.out HCD.out HCd.out (fun b hb => HGG.out b (Nat.le_trans HB1.out.size (Nat.le_trans HTr.out.size hb)))).mono ?_
        rintro e w3 ⟨rfl, hX, hTt⟩
        have HX3 := Lib.hid (HXr.out.map hTt hX)
        have HT3 := Lib.hid (HTr.out.trans hTt)
        clear hX hTt
        go_wp2
        go_roundw
        case rel =>
          refine ⟨j + 1, HJL.out, by go_num, Lib.hid ?_, HT3⟩
          have e1 := cutsA_snoc F j a
          have e2 := putsF_snoc F (L.take j) r f
          rw [List.length_take, Nat.min_eq_left hj, ← HTK.out] at e2
          rw [e1, e2, Int.natCast_add]
          exact HX3.out
        case measure => simp [intOf]; have := HJL.out; omega
      · obtain rfl : j = L.length := by omega
        have c0 : wr.cell? ⟨q, 0, none⟩ = some (.int .i64 n) := (blk_cell HXr.out.hq 0).trans rfl
        have z0 := blk_thaw HXr.out.hq 0
        have HXs := Lib.hid (HXr.out.sized (max n ((at0 + d.length : Nat) : Int)))
        have HFs : Hid (FT q bA bF w (wr.setCell ⟨q, 0, none⟩ (.int .i64 (max n ((at0 + d.length : Nat) : Int))))) := (FT.below HB1.out).trans ((FT.map HX1.out.bx HTr.out).trans (FT.set HXr.out))
        have hmx : max n ((at0 : Int) + (d.length : Int)) = max n ((at0 + d.length : Nat) : Int) := by rw [Int.natCast_add]
        obtain ⟨M, hM⟩ : ∃ M, M = max n ((at0 + d.length : Nat) : Int) := ⟨_, rfl⟩
        rw [← hM] at HXs HFs hmx
        have HM := Lib.hid hM
        clear hM
        go_wp2
        go_ret
        refine Or.inr ⟨rfl, ?_, HFs.out⟩
        have hLe := HLL.out
        rw [← HM.out, ← HF.out, ← HLQ.out, ← hLe]
        have hx := HXs.out
        rw [List.take_length] at hx
        exact hx.mono (by have := HCN.out; omega)
end Go.Proofs.YthahdombnmkokaaDoor.Given
