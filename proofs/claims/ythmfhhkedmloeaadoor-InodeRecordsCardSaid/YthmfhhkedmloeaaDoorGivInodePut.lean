/- The contract of inode.Put: by hand. -/
import Derived.Test.YthmfhhkedmloeaaDoorGivRight
import Derived.Test.YthmfhhkedmloeaaDoorGivCommon
namespace Go.Proofs.YthmfhhkedmloeaaDoor.Given
open Go.RowKit Go.Proofs.YthmfhhkedmloeaaDoorW.PrintWords Go.Proofs.YthmfhhkedmloeaaDoorW.PrintLast Go.Proofs.YthmfhhkedmloeaaDoorW.PrintMore
set_option linter.unusedVariables false
set_option linter.unusedSimpArgs false

theorem Keep.at_ {wd w : World} {cs : Array Value} {t : Nat} (h : Keep wd cs t w) (i : Nat) {v : Value} (hv : cs[i]? = some v) : w.cell? ⟨wd.heap.size, i, none⟩ = some v := (blk_cell h.1 i).trans hv
def putHead (k ln sz : Int) : List (List Int) := [pv 1 k, pv 2 ln, pv 4 sz]
def putDir (xs : List Int) (j : Nat) : List (List Int) := (List.range j).map fun i => pv 2 (xs.getD i 0)
def recParts (l : List Int) : List (List Int) := putHead (l.getD 0 0) (l.getD 1 0) (l.getD 2 0) ++ putDir (l.drop 3) 16 ++ [pv 2 (l.getD 19 0), pv 2 (l.getD 20 0)]
def recBytes (l : List Int) : List Int := padL (recParts l).flatten 56

theorem run_loadVar_sub {P : Program} (w : World) (g off : Nat) (t ty : TypeId) (cs : Array Value) (vs : List Value) (fr : Nat × Nat) (d : TypeDesc) (hg : w.heap[g]? = some (.cells cs t fr)) (hvs : ∀ (j : Nat) v, vs[j]? = some v → cs[off + j]? = some v)
    (hu : P.underlying ty = some d) (hd : (match d with | .struct _ | .array _ _ => true | _ => false) = true) (hi : (P.info? ty).map (·.size) = some vs.length) : (loadVar ty ⟨g, off, none⟩).run P w = .ok (.agg vs.toArray) w := by
  have hl : (loadCells ⟨g, off, none⟩ vs.length).run P w = .ok vs.toArray w :=
    run_loadCells_list (P := P) w ⟨g, off, none⟩ vs (fun j v hv => by
      rw [add_two, cell_of_row w g (off + j) cs t fr hg]
      exact hvs j v hv)
  cases hq : P.info? ty with
  | none => simp [hq] at hi
  | some i =>
    have hs : i.size = vs.length := by simpa [hq] using hi
    have hagg : (isAgg ty).run P w = .ok true w := by
      unfold isAgg
      rw [Sem.run_bind, run_underlying hu w]
      cases d <;> simp_all
    simp [loadVar, Sem.run_bind, hagg, sizeOf, typeInfo, hq, hs, hl]
theorem wpList_load_sub {P : Program} {ops : Array Oper} {rest : List Oper} {o : Oper} {a : Act} {w : World} {Q : Exit → Act → World → Prop} (hgd : o.guard = none) (ty : TypeId) (x : Operand) (ho : o.op = .load ty x)
    (g off : Nat) (hx : a.eval x = .pointer (some ⟨g, off, none⟩)) (t : TypeId) (cs : Array Value) (vs : List Value) (fr : Nat × Nat) (d : TypeDesc) (hg : w.heap[g]? = some (.cells cs t fr)) (hvs : ∀ (j : Nat) v, vs[j]? = some v → cs[off + j]? = some v)
    (hu : P.underlying ty = some d) (hd : (match d with | .struct _ | .array _ _ => true | _ => false) = true) (hi : (P.info? ty).map (·.size) = some vs.length)
    (h : wpList P ops Q rest (a.put o.dst (.agg vs.toArray)) w) : wpList P ops Q (o :: rest) a w := by
  refine wpList_plain hgd fun _ hK => ?_
  unfold Oper.wp execOp
  simp only [ho, hx, Instr.loadAt, Instr.sureAddr, Sem.run_bind, Sem.run_pure, Result.andThen_ok, run_loadVar_sub w g off t ty cs vs fr d hg hvs hu hd hi]
  exact hK _ _ h
theorem dir_sub (k ln sz x0 x1 x2 x3 x4 x5 x6 x7 x8 x9 x10 x11 x12 x13 x14 x15 s d : Int) : ∀ (j : Nat) v, ([.int .i64 x0, .int .i64 x1, .int .i64 x2, .int .i64 x3, .int .i64 x4, .int .i64 x5, .int .i64 x6, .int .i64 x7, .int .i64 x8, .int .i64 x9, .int .i64 x10, .int .i64 x11, .int .i64 x12, .int .i64 x13, .int .i64 x14, .int .i64 x15] : List Value)[j]? = some v → (#[.int .i64 k, .int .i64 ln, .int .i64 sz, .int .i64 x0, .int .i64 x1, .int .i64 x2, .int .i64 x3, .int .i64 x4, .int .i64 x5, .int .i64 x6, .int .i64 x7, .int .i64 x8, .int .i64 x9, .int .i64 x10, .int .i64 x11, .int .i64 x12, .int .i64 x13, .int .i64 x14, .int .i64 x15, .int .i64 s, .int .i64 d] : Array Value)[3 + j]? = some v := by
  intro j v h
  have hj : j < 16 := (List.getElem?_eq_some_iff.1 h).1
  rcases (by omega : j = 0 ∨ j = 1 ∨ j = 2 ∨ j = 3 ∨ j = 4 ∨ j = 5 ∨ j = 6 ∨ j = 7 ∨ j = 8 ∨ j = 9 ∨ j = 10 ∨ j = 11 ∨ j = 12 ∨ j = 13 ∨ j = 14 ∨ j = 15) with rfl | rfl | rfl | rfl | rfl | rfl | rfl | rfl | rfl | rfl | rfl | rfl | rfl | rfl | rfl | rfl <;> exact h
/-- What the walk of Put keeps of the world. -/
structure PState (wd : World) (cs : Array Value) (hs : List Value) (ps : List (List Int)) (v : Value) (n : Nat) (w : World) : Prop where
  keep : Keep wd cs 24 w
  row : w.ownsRow (wd.heap.size + 1) 25 1 v n hs
  parts : PartsAt w (wd.heap.size + 1) hs ps
theorem PState.call {wd w w1 : World} {cs : Array Value} {hs : List Value} {ps : List (List Int)} {v : Value} {n : Nat} (h : PState wd cs hs ps v n w) (hB : Below w.heap.size w w1) : PState wd cs hs ps v n w1 :=
  ⟨h.keep.step hB, pw_own_below h.row hB, h.parts.step hB⟩
theorem PState.append {wd w w1 : World} {cs : Array Value} {hs hs2 : List Value} {ps ps2 : List (List Int)} {v v1 : Value} {n m : Nat} (h : PState wd cs hs ps v n w) (h2 : PartsAt w (wd.heap.size + 1) (hs ++ hs2) (ps ++ ps2))
    (hown : w1.ownsRow (wd.heap.size + 1) 25 1 v1 m (hs ++ hs2)) (hg : w.grownBy w1 v.ownBlock) : PState wd cs (hs ++ hs2) (ps ++ ps2) v1 m w1 := by
  have hlt : wd.heap.size < w.heap.size := (Array.getElem?_eq_some_iff.1 h.keep.1).1
  have hne : ∀ b, v.ownBlock = some b → wd.heap.size + 1 ≤ b := own_base h.row
  have hBel : Below (wd.heap.size + 1) w w1 := (Below.refl _ _).grown hg (by omega) hne
  refine ⟨⟨?_, h.keep.2.trans (hBel.mono (by omega))⟩, hown, h2.grown h.row hg⟩
  rw [hBel.block _ (by omega)]; exact h.keep.1
theorem PState.len {wd w : World} {cs : Array Value} {hs : List Value} {ps : List (List Int)} {v : Value} {n : Nat} (h : PState wd cs hs ps v n w) : hs.length = n := by have := h.row.1; omega
theorem PState.row' {wd w : World} {cs : Array Value} {hs : List Value} {ps : List (List Int)} {v : Value} {n : Nat} (h : PState wd cs hs ps v n w) : w.ownsRow (wd.heap.size + 1) 25 1 v hs.length hs := by rw [h.len]; exact h.row
theorem putDir_succ (xs : List Int) (j : Nat) : putDir xs (j + 1) = putDir xs j ++ [pv 2 (xs.getD j 0)] := by simp [putDir, List.range_succ]
theorem infoRow : (Tryd.prog.info? 25).map (fun i => (i.zero, i.size, i.bytes)) = some (some (.slice none 0 0), 1, 24) := by kernel_rfl
theorem RU.slice {w : World} {base : Nat} {v : Value} {xs : List Int} (h : RU w base v xs) : ∃ A c, v = .slice A xs.length c := Kd.R_slice h
theorem PState.start {wd w : World} {cs : Array Value} {x y z : Value} {p q r : List Int} (hk : Keep wd cs 24 w) (h0 : RU w (wd.heap.size + 1) x p) (h1 : RU w (wd.heap.size + 1) y q) (h2 : RU w (wd.heap.size + 1) z r) :
    PState wd cs [x, y, z] [p, q, r] (.slice (some ⟨w.heap.size, 0, none⟩) 3 3) 3 (w.alloc (.cells #[x, y, z] 25)) := by
  have hlt : wd.heap.size < w.heap.size := (Array.getElem?_eq_some_iff.1 hk.1).1
  have hb : Below w.heap.size w (w.alloc (.cells #[x, y, z] 25)) := (Below.refl _ _).alloc (Nat.le_refl _) _
  obtain ⟨A0, c0, e0⟩ := h0.slice
  obtain ⟨A1, c1, e1⟩ := h1.slice
  obtain ⟨A2, c2, e2⟩ := h2.slice
  exact ⟨hk.step hb, World.ownsRow_lit (base := wd.heap.size + 1) (e := 25) (size := 1) w #[x, y, z] 3 (by omega) (by decide) rfl,
    PartsAt.step ((((PartsAt.nil w _).snoc e0 h0).snoc e1 h1).snoc e2 h2) hb⟩

theorem right_agg (k ln sz x0 x1 x2 x3 x4 x5 x6 x7 x8 x9 x10 x11 x12 x13 x14 x15 s d : Int) (w : World) : Calls Tryd.prog 18 #[.agg #[.int .i64 k, .int .i64 ln, .int .i64 sz, .int .i64 x0, .int .i64 x1, .int .i64 x2, .int .i64 x3, .int .i64 x4, .int .i64 x5, .int .i64 x6, .int .i64 x7, .int .i64 x8, .int .i64 x9, .int .i64 x10, .int .i64 x11, .int .i64 x12, .int .i64 x13, .int .i64 x14, .int .i64 x15, .int .i64 s, .int .i64 d]] w fun e w' => e = .returned (.bool (okRec [k, ln, sz, x0, x1, x2, x3, x4, x5, x6, x7, x8, x9, x10, x11, x12, x13, x14, x15, s, d])) ∧ Below w.heap.size w w' := right_x k ln sz x0 x1 x2 x3 x4 x5 x6 x7 x8 x9 x10 x11 x12 x13 x14 x15 s d w

theorem PState.tail {wd w8 w9 : World} {cs : Array Value} {hs : List Value} {ps : List (List Int)} {v v1 : Value} {n m : Nat} {x y : Value} {p q : List Int} (h : PState wd cs hs ps v n w8) (h0 : RU w8 (wd.heap.size + 1) x p) (h1 : RU w8 (wd.heap.size + 1) y q)
    (hown : w9.ownsRow (wd.heap.size + 1) 25 1 v1 m (hs ++ [x, y])) (hg : (w8.alloc (.cells #[x, y] 25)).grownBy w9 v.ownBlock) : PState wd cs (hs ++ [x, y]) (ps ++ [p, q]) v1 m w9 := by
  have hb : Below w8.heap.size w8 (w8.alloc (.cells #[x, y] 25)) := (Below.refl _ _).alloc (Nat.le_refl _) _
  obtain ⟨A0, c0, e0⟩ := h0.slice
  obtain ⟨A1, c1, e1⟩ := h1.slice
  have hp : PartsAt w8 (wd.heap.size + 1) (hs ++ [x, y]) (ps ++ [p, q]) := by
    have := ((h.parts.snoc e0 h0).snoc e1 h1)
    simpa using this
  exact PState.append (ps2 := [p, q]) (h.call hb) (hp.step hb) hown hg

set_option maxHeartbeats 1000000 in
theorem put_no (k ln sz x0 x1 x2 x3 x4 x5 x6 x7 x8 x9 x10 x11 x12 x13 x14 x15 s d : Int) (wd : World) (h : okRec [k, ln, sz, x0, x1, x2, x3, x4, x5, x6, x7, x8, x9, x10, x11, x12, x13, x14, x15, s, d] = false) :
    Calls Tryd.prog 8 #[recV [k, ln, sz, x0, x1, x2, x3, x4, x5, x6, x7, x8, x9, x10, x11, x12, x13, x14, x15, s, d]] wd fun e w' => e = .returned (.tuple #[.slice none 0 0, .bool false]) ∧ Below wd.heap.size wd w' := by
  have H := Lib.hid h
  clear h
  show Calls Tryd.prog 8 #[.agg #[.int .i64 k, .int .i64 ln, .int .i64 sz, .int .i64 x0, .int .i64 x1, .int .i64 x2, .int .i64 x3, .int .i64 x4, .int .i64 x5, .int .i64 x6, .int .i64 x7, .int .i64 x8, .int .i64 x9, .int .i64 x10, .int .i64 x11, .int .i64 x12, .int .i64 x13, .int .i64 x14, .int .i64 x15, .int .i64 s, .int .i64 d]] wd _
  go_enter Tryd.func8, Tryd.ntmps8
  go_wp2_with (first | ((with_reducible refine gate_dst (N := 1) rfl ?_); refine box_event ?hg (N := 1) ?hd (cs := #[.int .i64 k, .int .i64 ln, .int .i64 sz, .int .i64 x0, .int .i64 x1, .int .i64 x2, .int .i64 x3, .int .i64 x4, .int .i64 x5, .int .i64 x6, .int .i64 x7, .int .i64 x8, .int .i64 x9, .int .i64 x10, .int .i64 x11, .int .i64 x12, .int .i64 x13, .int .i64 x14, .int .i64 x15, .int .i64 s, .int .i64 d]) (t := 24) ?hr ?_; (case hd => rfl); (case hg => rfl); (case hr => first | (go_simp; done) | (go_simp; rfl)); intro gb hgb w0 hbox hb; subst hgb; have HK : Hid (Keep wd #[.int .i64 k, .int .i64 ln, .int .i64 sz, .int .i64 x0, .int .i64 x1, .int .i64 x2, .int .i64 x3, .int .i64 x4, .int .i64 x5, .int .i64 x6, .int .i64 x7, .int .i64 x8, .int .i64 x9, .int .i64 x10, .int .i64 x11, .int .i64 x12, .int .i64 x13, .int .i64 x14, .int .i64 x15, .int .i64 s, .int .i64 d] 24 w0) := ⟨hbox, hb⟩; clear hbox hb) | ((with_reducible refine gate_dst (N := 7) rfl ?_); refine wpList_load_row rfl 24 (.tmp 1) rfl wd.heap.size rfl 24 #[.int .i64 k, .int .i64 ln, .int .i64 sz, .int .i64 x0, .int .i64 x1, .int .i64 x2, .int .i64 x3, .int .i64 x4, .int .i64 x5, .int .i64 x6, .int .i64 x7, .int .i64 x8, .int .i64 x9, .int .i64 x10, .int .i64 x11, .int .i64 x12, .int .i64 x13, .int .i64 x14, .int .i64 x15, .int .i64 s, .int .i64 d] (0, 0) _ HK.out.1 Tryd.underlying24 rfl (by kernel_rfl) ?_) | (go_at_call 18; refine (right_agg k ln sz x0 x1 x2 x3 x4 x5 x6 x7 x8 x9 x10 x11 x12 x13 x14 x15 s d _).mono ?_; rintro e w1 ⟨rfl, hB⟩; have t_ : Hid (Keep wd _ _ w1) := Keep.step HK.out hB; clear HK; have HK := t_; clear t_ hB; rw [H.out]))
  go_ret2
  exact ⟨rfl, HK.out.2⟩

theorem putDir_drop (k ln sz x0 x1 x2 x3 x4 x5 x6 x7 x8 x9 x10 x11 x12 x13 x14 x15 s d : Int) : putDir ([k, ln, sz, x0, x1, x2, x3, x4, x5, x6, x7, x8, x9, x10, x11, x12, x13, x14, x15, s, d].drop 3) 16 = putDir [x0, x1, x2, x3, x4, x5, x6, x7, x8, x9, x10, x11, x12, x13, x14, x15] 16 := rfl
theorem pv_exact {w n : Int} (h : okPut w n) : (pv w n).length = w.toNat := by unfold pv; rw [if_pos h, putAt_length]
theorem putDir_len (xs : List Int) (n : Nat) (h : ∀ j, j < n → 0 ≤ xs.getD j 0 ∧ xs.getD j 0 ≤ 65535) : (putDir xs n).flatten.length = 2 * n := by
  induction n with
  | zero => rfl
  | succ n ih =>
    have hx := h n (by omega)
    have hl : (pv 2 (xs.getD n 0)).length = 2 := pv_exact (by unfold okPut; omega)
    rw [putDir_succ, List.flatten_append, List.length_append, ih (fun j hj => h j (by omega))]
    simp only [List.flatten_cons, List.flatten_nil, List.append_nil, hl]; omega
theorem recParts_len {k ln sz x0 x1 x2 x3 x4 x5 x6 x7 x8 x9 x10 x11 x12 x13 x14 x15 s d : Int} (h : okRec [k, ln, sz, x0, x1, x2, x3, x4, x5, x6, x7, x8, x9, x10, x11, x12, x13, x14, x15, s, d] = true) : (recParts [k, ln, sz, x0, x1, x2, x3, x4, x5, x6, x7, x8, x9, x10, x11, x12, x13, x14, x15, s, d]).flatten.length = 43 := by
  obtain ⟨h0, h1, h2, h3, h4, h5⟩ := okRec_bd h
  have a0 : (pv 1 k).length = 1 := pv_exact (by unfold okPut; omega)
  have a1 : (pv 2 ln).length = 2 := pv_exact (by unfold okPut; omega)
  have a2 : (pv 4 sz).length = 4 := pv_exact (by unfold okPut; omega)
  have a3 : (pv 2 s).length = 2 := pv_exact (by unfold okPut; omega)
  have a4 : (pv 2 d).length = 2 := pv_exact (by unfold okPut; omega)
  have a5 := putDir_len [x0, x1, x2, x3, x4, x5, x6, x7, x8, x9, x10, x11, x12, x13, x14, x15] 16 h3
  have e : recParts [k, ln, sz, x0, x1, x2, x3, x4, x5, x6, x7, x8, x9, x10, x11, x12, x13, x14, x15, s, d] = putHead k ln sz ++ putDir [x0, x1, x2, x3, x4, x5, x6, x7, x8, x9, x10, x11, x12, x13, x14, x15] 16 ++ [pv 2 s, pv 2 d] := rfl
  rw [e]
  simp only [putHead, List.flatten_append, List.flatten_cons, List.flatten_nil, List.length_append, List.append_nil, List.length_nil, a0, a1, a2, a3, a4, a5]
theorem recParts_byt (l : List Int) : ∀ p ∈ recParts l, ∀ x ∈ p, 0 ≤ x ∧ x ≤ 255 := by
  intro p hp
  simp only [recParts, putHead, putDir, List.mem_append, List.mem_cons, List.not_mem_nil, or_false, List.mem_map] at hp
  rcases hp with (((rfl | rfl | rfl) | ⟨i, _, rfl⟩) | (rfl | rfl)) <;> exact pv_bd _ _

set_option maxHeartbeats 4000000 in
set_option maxRecDepth 100000 in
theorem put_yes (k ln sz x0 x1 x2 x3 x4 x5 x6 x7 x8 x9 x10 x11 x12 x13 x14 x15 s d : Int) (wd : World) (h : okRec [k, ln, sz, x0, x1, x2, x3, x4, x5, x6, x7, x8, x9, x10, x11, x12, x13, x14, x15, s, d] = true) (P : List Int) (hP : recBytes [k, ln, sz, x0, x1, x2, x3, x4, x5, x6, x7, x8, x9, x10, x11, x12, x13, x14, x15, s, d] = P) :
    Calls Tryd.prog 8 #[recV [k, ln, sz, x0, x1, x2, x3, x4, x5, x6, x7, x8, x9, x10, x11, x12, x13, x14, x15, s, d]] wd fun e w' => ∃ v0 : Value, e = .returned (.tuple #[v0, .bool true]) ∧ RU w' wd.heap.size v0 P ∧ Below wd.heap.size wd w' := by
  have HI := Lib.hid (index_dir x0 x1 x2 x3 x4 x5 x6 x7 x8 x9 x10 x11 x12 x13 x14 x15)
  have HP := Lib.hid hP
  have H := Lib.hid h
  clear h hP
  obtain ⟨p0, hp0⟩ : ∃ p, pv 1 k = p := ⟨_, rfl⟩
  obtain ⟨p1, hp1⟩ : ∃ p, pv 2 ln = p := ⟨_, rfl⟩
  obtain ⟨p2, hp2⟩ : ∃ p, pv 4 sz = p := ⟨_, rfl⟩
  have hb := okRec_bd H.out
  have P0 : Hid (bits_Put.f 1 k = some p0) := by rw [← hp0]; exact pv_some (by have := hb.1; omega)
  have P1 : Hid (bits_Put.f 2 ln = some p1) := by rw [← hp1]; exact pv_some (by have := hb.2.1; omega)
  have P2 : Hid (bits_Put.f 4 sz = some p2) := by rw [← hp2]; exact pv_some (by have := hb.2.2.1; omega)
  have HD := Lib.hid hb.2.2.2.1
  have HS := Lib.hid hb.2.2.2.2
  have E3 : Hid (putHead k ln sz = [p0, p1, p2]) := by rw [← hp0, ← hp1, ← hp2]; rfl
  clear hb hp0 hp1 hp2
  show Calls Tryd.prog 8 #[.agg #[.int .i64 k, .int .i64 ln, .int .i64 sz, .int .i64 x0, .int .i64 x1, .int .i64 x2, .int .i64 x3, .int .i64 x4, .int .i64 x5, .int .i64 x6, .int .i64 x7, .int .i64 x8, .int .i64 x9, .int .i64 x10, .int .i64 x11, .int .i64 x12, .int .i64 x13, .int .i64 x14, .int .i64 x15, .int .i64 s, .int .i64 d]] wd _
  go_enter Tryd.func8, Tryd.ntmps8
  go_upto_region 3 with (first | ((with_reducible refine gate_dst (N := 1) rfl ?_); refine box_event ?hg (N := 1) ?hd (cs := #[.int .i64 k, .int .i64 ln, .int .i64 sz, .int .i64 x0, .int .i64 x1, .int .i64 x2, .int .i64 x3, .int .i64 x4, .int .i64 x5, .int .i64 x6, .int .i64 x7, .int .i64 x8, .int .i64 x9, .int .i64 x10, .int .i64 x11, .int .i64 x12, .int .i64 x13, .int .i64 x14, .int .i64 x15, .int .i64 s, .int .i64 d]) (t := 24) ?hr ?_; (case hd => rfl); (case hg => rfl); (case hr => first | (go_simp; done) | (go_simp; rfl)); intro gb hgb w0 hbox hb; subst hgb; have HK : Hid (Keep wd #[.int .i64 k, .int .i64 ln, .int .i64 sz, .int .i64 x0, .int .i64 x1, .int .i64 x2, .int .i64 x3, .int .i64 x4, .int .i64 x5, .int .i64 x6, .int .i64 x7, .int .i64 x8, .int .i64 x9, .int .i64 x10, .int .i64 x11, .int .i64 x12, .int .i64 x13, .int .i64 x14, .int .i64 x15, .int .i64 s, .int .i64 d] 24 w0) := ⟨hbox, hb⟩; clear hbox hb) | ((with_reducible refine gate_dst (N := 7) rfl ?_); refine wpList_load_row rfl 24 (.tmp 1) rfl wd.heap.size rfl 24 #[.int .i64 k, .int .i64 ln, .int .i64 sz, .int .i64 x0, .int .i64 x1, .int .i64 x2, .int .i64 x3, .int .i64 x4, .int .i64 x5, .int .i64 x6, .int .i64 x7, .int .i64 x8, .int .i64 x9, .int .i64 x10, .int .i64 x11, .int .i64 x12, .int .i64 x13, .int .i64 x14, .int .i64 x15, .int .i64 s, .int .i64 d] (0, 0) _ HK.out.1 Tryd.underlying24 rfl (by kernel_rfl) ?_) | (go_at_call 18; refine (right_agg k ln sz x0 x1 x2 x3 x4 x5 x6 x7 x8 x9 x10 x11 x12 x13 x14 x15 s d _).mono ?_; rintro e w1 ⟨rfl, hB⟩; have t_ : Hid (Keep wd _ _ w1) := Keep.step HK.out hB; clear HK; have HK := t_; clear t_ hB; rw [H.out]))
  go_cut [4] (fun s4 wx => ∃ hs, Hid (PState wd #[.int .i64 k, .int .i64 ln, .int .i64 sz, .int .i64 x0, .int .i64 x1, .int .i64 x2, .int .i64 x3, .int .i64 x4, .int .i64 x5, .int .i64 x6, .int .i64 x7, .int .i64 x8, .int .i64 x9, .int .i64 x10, .int .i64 x11, .int .i64 x12, .int .i64 x13, .int .i64 x14, .int .i64 x15, .int .i64 s, .int .i64 d] hs [p0, p1, p2] s4 3 wx))
  case first =>
    have t_ : Hid (Keep wd _ _ w1.drew) := Keep.step HK.out (below_drew (Below.refl _ _))
    clear HK; have HK := t_; clear t_
    have hz0 := Keep.at_ HK.out 0 rfl
    have hz1 := Keep.at_ HK.out 1 rfl
    have hz2 := Keep.at_ HK.out 2 rfl
    go_region_held3 (fun w' => w'.cell? ⟨wd.heap.size, 0, none⟩ = some (.int .i64 k) ∧ w'.cell? ⟨wd.heap.size, 1, none⟩ = some (.int .i64 ln) ∧ w'.cell? ⟨wd.heap.size, 2, none⟩ = some (.int .i64 sz)) (first | exact ⟨hz0, hz1, hz2⟩ | go_keep) (first | (go_at_call_of 19 k; go_must (refine (bits_Put.calls 1 k _ _ P0.out).mono ?_); go_must (rintro e w2 ⟨v0, rfl, hR, hB⟩); go_must (obtain ⟨A0, c0, rfl⟩ := Kd.R_slice hR); (try (have t_ : Hid (RU w2 _ _ _) := RU.step K1.out hB; clear K1; have K1 := t_; clear t_)); (try (have t_ : Hid (RU w2 _ _ _) := RU.step K2.out hB; clear K2; have K2 := t_; clear t_)); go_must (have K0 : Hid (RU w2 (wd.heap.size + 1) _ _) := RU.lower hR (Array.getElem?_eq_some_iff.1 HK.out.1).1); go_must (have t_ : Hid (Keep wd _ _ w2) := Keep.step HK.out hB; clear HK; have HK := t_; clear t_); clear hR hB; have hz0 := Keep.at_ HK.out 0 rfl; have hz1 := Keep.at_ HK.out 1 rfl; have hz2 := Keep.at_ HK.out 2 rfl) | (go_at_call_of 19 ln; go_must (refine (bits_Put.calls 2 ln _ _ P1.out).mono ?_); go_must (rintro e w3 ⟨v0, rfl, hR, hB⟩); go_must (obtain ⟨A1, c1, rfl⟩ := Kd.R_slice hR); (try (have t_ : Hid (RU w3 _ _ _) := RU.step K0.out hB; clear K0; have K0 := t_; clear t_)); (try (have t_ : Hid (RU w3 _ _ _) := RU.step K2.out hB; clear K2; have K2 := t_; clear t_)); go_must (have K1 : Hid (RU w3 (wd.heap.size + 1) _ _) := RU.lower hR (Array.getElem?_eq_some_iff.1 HK.out.1).1); go_must (have t_ : Hid (Keep wd _ _ w3) := Keep.step HK.out hB; clear HK; have HK := t_; clear t_); clear hR hB; have hz0 := Keep.at_ HK.out 0 rfl; have hz1 := Keep.at_ HK.out 1 rfl; have hz2 := Keep.at_ HK.out 2 rfl) | (go_at_call_of 19 sz; go_must (refine (bits_Put.calls 4 sz _ _ P2.out).mono ?_); go_must (rintro e w4 ⟨v0, rfl, hR, hB⟩); go_must (obtain ⟨A2, c2, rfl⟩ := Kd.R_slice hR); (try (have t_ : Hid (RU w4 _ _ _) := RU.step K0.out hB; clear K0; have K0 := t_; clear t_)); (try (have t_ : Hid (RU w4 _ _ _) := RU.step K1.out hB; clear K1; have K1 := t_; clear t_)); go_must (have K2 : Hid (RU w4 (wd.heap.size + 1) _ _) := RU.lower hR (Array.getElem?_eq_some_iff.1 HK.out.1).1); go_must (have t_ : Hid (Keep wd _ _ w4) := Keep.step HK.out hB; clear HK; have HK := t_; clear t_); clear hR hB; have hz0 := Keep.at_ HK.out 0 rfl; have hz1 := Keep.at_ HK.out 1 rfl; have hz2 := Keep.at_ HK.out 2 rfl))
    all_goals (go_wp2_with fail; go_meet; exact ⟨_, PState.start HK.out K0.out K1.out K2.out⟩)
  case rest =>
    obtain ⟨hs, HPS⟩ := hcut
    clear HK
    go_wp2_with ((with_reducible refine gate_dst (N := 21) rfl ?_); refine wpList_load_sub rfl 22 (.tmp 20) rfl wd.heap.size 3 rfl 24 #[.int .i64 k, .int .i64 ln, .int .i64 sz, .int .i64 x0, .int .i64 x1, .int .i64 x2, .int .i64 x3, .int .i64 x4, .int .i64 x5, .int .i64 x6, .int .i64 x7, .int .i64 x8, .int .i64 x9, .int .i64 x10, .int .i64 x11, .int .i64 x12, .int .i64 x13, .int .i64 x14, .int .i64 x15, .int .i64 s, .int .i64 d] [.int .i64 x0, .int .i64 x1, .int .i64 x2, .int .i64 x3, .int .i64 x4, .int .i64 x5, .int .i64 x6, .int .i64 x7, .int .i64 x8, .int .i64 x9, .int .i64 x10, .int .i64 x11, .int .i64 x12, .int .i64 x13, .int .i64 x14, .int .i64 x15] (0, 0) _ HPS.out.keep.1 (dir_sub k ln sz x0 x1 x2 x3 x4 x5 x6 x7 x8 x9 x10 x11 x12 x13 x14 x15 s d) Tryd.underlying22 rfl (by kernel_rfl) ?_)
    go_loopw [4, 22] (fun v i wr => ∃ (j : Nat) (hs : List Value), j ≤ 16 ∧ i = .int .i64 j ∧ Hid (PState wd #[.int .i64 k, .int .i64 ln, .int .i64 sz, .int .i64 x0, .int .i64 x1, .int .i64 x2, .int .i64 x3, .int .i64 x4, .int .i64 x5, .int .i64 x6, .int .i64 x7, .int .i64 x8, .int .i64 x9, .int .i64 x10, .int .i64 x11, .int .i64 x12, .int .i64 x13, .int .i64 x14, .int .i64 x15, .int .i64 s, .int .i64 d] hs ([p0, p1, p2] ++ putDir [x0, x1, x2, x3, x4, x5, x6, x7, x8, x9, x10, x11, x12, x13, x14, x15] j) v (3 + j) wr)) (fun _ i _ => 16 - (intOf i).toNat)
    case atStart => exact ⟨0, hs, Nat.zero_le _, rfl, HPS⟩
    case round =>
      clear HPS
      obtain ⟨j, hs, hj, rfl, HPS⟩ := hrel
      by_cases hlt : j < 16
      · have hix := HI.out j hlt
        have hyb := HD.out j hlt
        obtain ⟨y, hy⟩ : ∃ y, [x0, x1, x2, x3, x4, x5, x6, x7, x8, x9, x10, x11, x12, x13, x14, x15].getD j 0 = y := ⟨_, rfl⟩
        simp only [hy] at hix
        rw [hy] at hyb
        obtain ⟨q, hq⟩ : ∃ q, pv 2 y = q := ⟨_, rfl⟩
        have PQ : Hid (bits_Put.f 2 y = some q) := by rw [← hq]; exact pv_some (by omega)
        have HQ : Hid (putDir [x0, x1, x2, x3, x4, x5, x6, x7, x8, x9, x10, x11, x12, x13, x14, x15] (j + 1) = putDir [x0, x1, x2, x3, x4, x5, x6, x7, x8, x9, x10, x11, x12, x13, x14, x15] j ++ [q]) := by have h := putDir_succ [x0, x1, x2, x3, x4, x5, x6, x7, x8, x9, x10, x11, x12, x13, x14, x15] j; rw [hy, hq] at h; exact h
        have HJ : Hid (hs.length = 3 + j) := HPS.out.len
        clear hy hq
        go_wp2_with (first | (go_at_call 19; go_must (refine (bits_Put.calls 2 y _ _ PQ.out).mono ?_); go_must (rintro e w5 ⟨v0, rfl, hR, hB⟩); obtain ⟨A5, c5, rfl⟩ := Kd.R_slice hR; have KQ : Hid (RU w5 (wd.heap.size + 1) _ _) := RU.lower hR (Array.getElem?_eq_some_iff.1 HPS.out.keep.1).1; have HP5 := Lib.hid (PState.call HPS.out hB); clear hR hB) | (at_builtin; go_must (refine print_append (w0 := w5) (wd.heap.size + 1) rfl (.tmp 25) (.tmp 28) 46 25 (.slice none 0 0) 24 rfl Tryd.underlying46 infoRow rfl (by decide) _ hs (.slice A5 q.length c5) rfl rfl rfl HP5.out.row' (Below.refl _ _) (Array.getElem?_eq_some_iff.1 HP5.out.keep.1).1 (by rw [HJ.out]; omega) ?_); intro v6 w6 hown hB6 hg hat; have HP6 := Lib.hid (PState.append (ps2 := [q]) HP5.out (PartsAt.snoc HP5.out.parts rfl KQ.out) hown hg); clear hown hB6 hg hat))
        go_roundw
        case rel =>
          refine ⟨j + 1, hs ++ [Value.slice A5 q.length c5], by omega, by go_num, ?_⟩
          have h6 := HP6.out
          rw [List.append_assoc, ← HQ.out, List.length_append, HJ.out] at h6
          exact h6
        case measure => simp [intOf]; omega
      · have hj16 : j = 16 := by omega
        subst hj16
        obtain ⟨r0, hr0⟩ : ∃ p, pv 2 s = p := ⟨_, rfl⟩
        obtain ⟨r1, hr1⟩ : ∃ p, pv 2 d = p := ⟨_, rfl⟩
        have R0 : Hid (bits_Put.f 2 s = some r0) := by rw [← hr0]; exact pv_some (by have := HS.out.1; omega)
        have R1 : Hid (bits_Put.f 2 d = some r1) := by rw [← hr1]; exact pv_some (by have := HS.out.2; omega)
        have ER : Hid (pv 2 s = r0 ∧ pv 2 d = r1) := ⟨hr0, hr1⟩
        clear hr0 hr1 HI
        have HJ : Hid (hs.length = 19) := HPS.out.len
        obtain ⟨i0, hi, hy0, hy1, hy2⟩ := info_parts infoRow
        have HI0 : Hid (Tryd.prog.info? 25 = some i0) := hi
        have HY0 : Hid (i0.zero = some (.slice none 0 0)) := hy0
        have HY1 : Hid (i0.size = 1) := hy1
        have HY2 : Hid (i0.bytes = 24) := hy2
        clear hi hy0 hy1 hy2
        go_upto_region 9 with fail
        go_cut [4] (fun s4 wx => ∃ hs g cp, s4 = .slice (some ⟨g, 0, none⟩) 21 cp ∧ Hid (PState wd #[.int .i64 k, .int .i64 ln, .int .i64 sz, .int .i64 x0, .int .i64 x1, .int .i64 x2, .int .i64 x3, .int .i64 x4, .int .i64 x5, .int .i64 x6, .int .i64 x7, .int .i64 x8, .int .i64 x9, .int .i64 x10, .int .i64 x11, .int .i64 x12, .int .i64 x13, .int .i64 x14, .int .i64 x15, .int .i64 s, .int .i64 d] hs ([p0, p1, p2] ++ putDir [x0, x1, x2, x3, x4, x5, x6, x7, x8, x9, x10, x11, x12, x13, x14, x15] 16 ++ [r0, r1]) s4 21 wx))
        case first =>
          have t_ := Lib.hid (PState.call HPS.out (below_drew (Below.refl _ _)))
          clear HPS; have HPS := t_; clear t_
          have hz0 := Keep.at_ HPS.out.keep 19 rfl
          have hz1 := Keep.at_ HPS.out.keep 20 rfl
          go_region_held3 (fun w' => w'.cell? ⟨wd.heap.size, 19, none⟩ = some (.int .i64 s) ∧ w'.cell? ⟨wd.heap.size, 20, none⟩ = some (.int .i64 d)) (first | exact ⟨hz0, hz1⟩ | go_keep) (first | (go_at_call_of 19 s; go_must (refine (bits_Put.calls 2 s _ _ R0.out).mono ?_); go_must (rintro e w7 ⟨v0, rfl, hR, hB⟩); go_must (obtain ⟨B0, c0, rfl⟩ := Kd.R_slice hR); (try (have t_ : Hid (RU w7 _ _ _) := RU.step J1.out hB; clear J1; have J1 := t_; clear t_)); go_must (have J0 : Hid (RU w7 (wd.heap.size + 1) _ _) := RU.lower hR (Array.getElem?_eq_some_iff.1 HPS.out.keep.1).1); (have t_ := Lib.hid (PState.call HPS.out hB); clear HPS; have HPS := t_; clear t_); clear hR hB; have hz0 := Keep.at_ HPS.out.keep 19 rfl; have hz1 := Keep.at_ HPS.out.keep 20 rfl) | (go_at_call_of 19 d; go_must (refine (bits_Put.calls 2 d _ _ R1.out).mono ?_); go_must (rintro e w8 ⟨v0, rfl, hR, hB⟩); go_must (obtain ⟨B1, c1, rfl⟩ := Kd.R_slice hR); (try (have t_ : Hid (RU w8 _ _ _) := RU.step J0.out hB; clear J0; have J0 := t_; clear t_)); go_must (have J1 : Hid (RU w8 (wd.heap.size + 1) _ _) := RU.lower hR (Array.getElem?_eq_some_iff.1 HPS.out.keep.1).1); (have t_ := Lib.hid (PState.call HPS.out hB); clear HPS; have HPS := t_; clear t_); clear hR hB; have hz0 := Keep.at_ HPS.out.keep 19 rfl; have hz1 := Keep.at_ HPS.out.keep 20 rfl) | (refine step_append_lies _ (by rfl) _ _ _ (by rfl) (wd.heap.size + 1) 25 i0 (.slice none 0 0) 1 24 Tryd.underlying46 HI0.out HY0.out HY1.out HY2.out rfl (by decide) _ 19 hs (by rfl) (HPS.out.row.alloc _) ⟨w8.heap.size, 0, none⟩ 2 2 [.slice B0 r0.length c0, .slice B1 r1.length c1] (by rfl) (by rfl) (World.news_of_block (cs := #[.slice B0 r0.length c0, .slice B1 r1.length c1]) (t := 25) (fr := (0, 0)) (heap_alloc_new w8 _)) (by simp [Value.oneCell']) (by decide) (by decide) (by decide) (Nat.le_trans (Array.getElem?_eq_some_iff.1 HPS.out.keep.1).1 ((Below.refl w8.heap.size w8).alloc (Nat.le_refl _) _).size) _ rfl ?_; intro gg cap w9 hown hgrow hat hlt; have HP9 := Lib.hid (PState.tail HPS.out J0.out J1.out hown hgrow); have hz0 := Keep.at_ HP9.out.keep 19 rfl; have hz1 := Keep.at_ HP9.out.keep 20 rfl; clear hown hgrow hat hlt))
          all_goals (go_wp2_with fail; go_meet; exact ⟨_, gg, cap, rfl, HP9⟩)
        case rest =>
          obtain ⟨hs, g, cp, rfl, HPS⟩ := hcut
          have ep : [p0, p1, p2] ++ putDir [x0, x1, x2, x3, x4, x5, x6, x7, x8, x9, x10, x11, x12, x13, x14, x15] 16 ++ [r0, r1] = recParts [k, ln, sz, x0, x1, x2, x3, x4, x5, x6, x7, x8, x9, x10, x11, x12, x13, x14, x15, s, d] := by rw [← E3.out, ← ER.out.1, ← ER.out.2]; rfl
          rw [ep] at HPS
          have HF := Lib.hid (recParts_len H.out)
          have HBy := Lib.hid (recParts_byt [k, ln, sz, x0, x1, x2, x3, x4, x5, x6, x7, x8, x9, x10, x11, x12, x13, x14, x15, s, d])
          obtain ⟨ps, hps⟩ : ∃ ps, recParts [k, ln, sz, x0, x1, x2, x3, x4, x5, x6, x7, x8, x9, x10, x11, x12, x13, x14, x15, s, d] = ps := ⟨_, rfl⟩
          have HP' : Hid (padL ps.flatten 56 = P) := by rw [← hps]; exact HP.out
          rw [hps] at HPS HF HBy
          have hcp : 21 ≤ cp := by
            rcases HPS.out.row.2 with ⟨e, _⟩ | ⟨g', c', cur, e, _, _, hc, _⟩
            · simp at e
            · simp only [Value.slice.injEq] at e
              omega
          have HCP := Lib.hid hcp
          obtain ⟨F, hF⟩ : ∃ F, ps.flatten = F := ⟨_, rfl⟩
          have PS : Hid (bits_Pad.f F 56 = some (P, true)) := by rw [← HP'.out, hF]; exact pad_some F (by rw [← hF, HF.out]; omega)
          have HFF := Lib.hid hF
          clear hps hcp hF
          go_wp2_with (first | (go_at_call 21; go_must (refine (join_parts (base := wd.heap.size + 1) (hs := hs) (ps := ps) HPS.out.len (by decide) HCP.out HPS.out.parts (fun j u hu => by have := HPS.out.row.cells (g := g) rfl j u hu; rwa [Addr.add_zero_off, ← Nat.zero_add j] at this) HBy.out (by decide) (by rw [← List.length_flatten, HF.out]; decide)).mono ?_); go_must (rintro e w10 ⟨T, rfl, hT, hC, hB⟩); have HT : Hid (F.length = T) := by { rw [← HFF.out]; exact hT }; have HC10 : Hid (Kd.C (Kd.int .u8) w10 (some ⟨wc.heap.size, 0, none⟩) F.length F) := by { rw [HT.out, ← HFF.out]; exact hC }; have HP10 := Lib.hid (PState.call HPS.out hB); clear hT hC hB) | (go_at_call 20; go_must (rw [← HT.out]; refine (bits_Pad.calls _ _ F 56 P true _ HC10.out (Nat.le_refl _) PS.out).mono ?_); go_must (rintro e w11 ⟨v0, rfl, hR, hB⟩); have HR11 : Hid (RU w11 wd.heap.size v0 P) := RU.lower hR HP10.out.keep.2.size; have HB11 := Lib.hid (PState.call HP10.out hB).keep.2; clear hR hB))
          go_ret2
          exact ⟨v0, rfl, HR11.out, HB11.out⟩

def inode_Put.f (l : List Int) : List Int × Bool := if okRec l then (recBytes l, true) else ([], false)
theorem list21 (l : List Int) (h : l.length = 21) : ∃ k ln sz x0 x1 x2 x3 x4 x5 x6 x7 x8 x9 x10 x11 x12 x13 x14 x15 s d : Int, l = [k, ln, sz, x0, x1, x2, x3, x4, x5, x6, x7, x8, x9, x10, x11, x12, x13, x14, x15, s, d] := by
  match l, h with
  | [a0, a1, a2, a3, a4, a5, a6, a7, a8, a9, a10, a11, a12, a13, a14, a15, a16, a17, a18, a19, a20], _ => exact ⟨_, _, _, _, _, _, _, _, _, _, _, _, _, _, _, _, _, _, _, _, _, rfl⟩
theorem inode_right.calls (l : List Int) (hl : l.length = 21) (w : World) : Calls Tryd.prog 18 #[recV l] w fun e w' => e = .returned (.bool (okRec l)) ∧ Below w.heap.size w w' := by
  obtain ⟨k, ln, sz, x0, x1, x2, x3, x4, x5, x6, x7, x8, x9, x10, x11, x12, x13, x14, x15, s, d, rfl⟩ := list21 l hl
  exact right_x k ln sz x0 x1 x2 x3 x4 x5 x6 x7 x8 x9 x10 x11 x12 x13 x14 x15 s d w
theorem inode_Put.calls (l : List Int) (hl : l.length = 21) (w : World) :
    Calls Tryd.prog 8 #[recV l] w fun e w' => ∃ v0 : Value, e = .returned (.tuple #[v0, .bool (inode_Put.f l).2]) ∧ RU w' w.heap.size v0 (inode_Put.f l).1 ∧ Below w.heap.size w w' := by
  obtain ⟨k, ln, sz, x0, x1, x2, x3, x4, x5, x6, x7, x8, x9, x10, x11, x12, x13, x14, x15, s, d, rfl⟩ := list21 l hl
  unfold inode_Put.f
  cases h : okRec [k, ln, sz, x0, x1, x2, x3, x4, x5, x6, x7, x8, x9, x10, x11, x12, x13, x14, x15, s, d] with
  | true => exact put_yes k ln sz x0 x1 x2 x3 x4 x5 x6 x7 x8 x9 x10 x11 x12 x13 x14 x15 s d w h _ rfl
  | false =>
    refine (put_no k ln sz x0 x1 x2 x3 x4 x5 x6 x7 x8 x9 x10 x11 x12 x13 x14 x15 s d w h).mono ?_
    rintro e w' ⟨rfl, hB⟩
    exact ⟨_, rfl, Kd.R_nil _ _ _ _ _, hB⟩
end Go.Proofs.YthmfhhkedmloeaaDoor.Given
