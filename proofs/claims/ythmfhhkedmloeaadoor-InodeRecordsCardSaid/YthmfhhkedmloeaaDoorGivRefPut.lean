/- The contract of moraineref14.Put: by hand. -/
import Derived.Test.YthmfhhkedmloeaaDoorGivRefGet
namespace Go.Proofs.YthmfhhkedmloeaaDoor.Given
open Go.RowKit Go.Proofs.YthmfhhkedmloeaaDoorW.PrintWords Go.Proofs.YthmfhhkedmloeaaDoorW.PrintLast Go.Proofs.YthmfhhkedmloeaaDoorW.PrintMore Go.Proofs.YthmfhhkedmloeaaDoor.PInodeRecords
set_option linter.unusedVariables false
set_option linter.unusedSimpArgs false

/-- What the walk of the document's Put keeps of the world: the box, and the bytes so far. -/
structure PS (wd : World) (cs : Array Value) (acc : List Int) (v : Value) (w : World) : Prop where
  keep : Keep wd cs 24 w
  row : RU w (wd.heap.size + 1) v acc
theorem PS.lt {wd w : World} {cs : Array Value} {acc : List Int} {v : Value} (h : PS wd cs acc v w) : wd.heap.size < w.heap.size := (Array.getElem?_eq_some_iff.1 h.keep.1).1
theorem PS.call {wd w w1 : World} {cs : Array Value} {acc : List Int} {v : Value} (h : PS wd cs acc v w) (hB : Below w.heap.size w w1) : PS wd cs acc v w1 := ⟨h.keep.step hB, RU.step h.row hB⟩
theorem PS.own {wd w w1 : World} {cs : Array Value} {acc acc1 : List Int} {v v1 : Value} (h : PS wd cs acc v w) (hr : RU w1 (wd.heap.size + 1) v1 acc1) (hb : Below (wd.heap.size + 1) w w1) : PS wd cs acc1 v1 w1 :=
  ⟨⟨by rw [hb.block _ (by omega)]; exact h.keep.1, h.keep.2.trans (hb.mono (by omega))⟩, hr⟩
theorem info5u : (Tryd.prog.info? 5).map (fun i => (i.zero, i.size, i.bytes)) = some (some (.int .u8 0), (Kd.int .u8).sz, 1) := by kernel_rfl
theorem app_u8 {ops : Array Oper} {rest : List Oper} {o : Oper} {a : Act} {Q : Exit → Act → World → Prop} {wd W : World} {cs : Array Value} {acc p : List Int} {v : Value} {A : Option Addr} {c n : Nat} (hgd : o.guard = none) (s x : Operand)
    (ho : o.op = .call { callee := .builtin .append, args := #[s, x], argTypes := #[25, 25] })
    (hs : a.eval s = v) (hx : a.eval x = .slice A n c) (hn : p.length = n) (HP : PS wd cs acc v W) (HC : Kd.C (Kd.int .u8) W A p.length p) (hl : acc.length + p.length ≤ 140737488355328)
    (h : ∀ v1 w1, PS wd cs (acc ++ p) v1 w1 → wpList Tryd.prog ops Q rest (a.put o.dst v1) w1) : wpList Tryd.prog ops Q (o :: rest) a W := by
  subst hn
  exact Kd.R_append_rows (Kd.int .u8) (w0 := W) (wd.heap.size + 1) hgd s x 25 5 (.int .u8 0) 1 ho Tryd.underlying25 info5u rfl (by decide) (by omega) v acc p A _ c (fun _ => True) (fun _ => False) hs hx HP.row HC (fun _ _ h => h) (fun _ h => h.elim) (fun _ _ => trivial) (Below.refl _ _) HP.lt (by omega)
    (fun v1 w1 hr hb _ _ => h v1 w1 (HP.own hr hb))
theorem rput_at (K : Nat) (w n : Int) (p : List Int) (W : World) (h : moraineref01_Put.f K w n = some p) : Calls Tryd.prog 23 #[.int .i64 w, .int .i64 n] W fun e w' => ∃ A c, e = .returned (.slice A p.length c) ∧ RU w' W.heap.size (.slice A p.length c) p ∧ Below W.heap.size W w' := by
  refine (moraineref01_Put.calls K w n p W h).mono ?_
  rintro e w' ⟨v0, rfl, hR, hB⟩
  obtain ⟨A, c, rfl⟩ := Kd.R_slice hR
  exact ⟨A, c, rfl, hR, hB⟩
theorem dir_cell (k ln sz x0 x1 x2 x3 x4 x5 x6 x7 x8 x9 x10 x11 x12 x13 x14 x15 s d : Int) (j : Nat) (h : j < 16) : (#[.int .i64 k, .int .i64 ln, .int .i64 sz, .int .i64 x0, .int .i64 x1, .int .i64 x2, .int .i64 x3, .int .i64 x4, .int .i64 x5, .int .i64 x6, .int .i64 x7, .int .i64 x8, .int .i64 x9, .int .i64 x10, .int .i64 x11, .int .i64 x12, .int .i64 x13, .int .i64 x14, .int .i64 x15, .int .i64 s, .int .i64 d] : Array Value)[3 + j]? = some (.int .i64 ([x0, x1, x2, x3, x4, x5, x6, x7, x8, x9, x10, x11, x12, x13, x14, x15].getD j 0)) := by
  rcases (by omega : j = 0 ∨ j = 1 ∨ j = 2 ∨ j = 3 ∨ j = 4 ∨ j = 5 ∨ j = 6 ∨ j = 7 ∨ j = 8 ∨ j = 9 ∨ j = 10 ∨ j = 11 ∨ j = 12 ∨ j = 13 ∨ j = 14 ∨ j = 15) with rfl | rfl | rfl | rfl | rfl | rfl | rfl | rfl | rfl | rfl | rfl | rfl | rfl | rfl | rfl | rfl <;> rfl
theorem PS.push {wd w w1 : World} {cs : Array Value} {acc : List Int} {v v1 : Value} (h : PS wd cs acc v w) (hown : w1.ownsRow (wd.heap.size + 1) 5 1 v1 (encs (Value.int .u8) acc ++ [Value.int .u8 0]).length (encs (Value.int .u8) acc ++ [Value.int .u8 0])) (hb : Below (wd.heap.size + 1) w w1) : PS wd cs (acc ++ [0]) v1 w1 :=
  h.own (Kd.R_of_own (by have e : encs (Value.int .u8) (acc ++ [0]) = encs (Value.int .u8) acc ++ [Value.int .u8 0] := by { simp [encs] }; rw [← e, encs_length] at hown; exact hown) (fun _ _ => trivial)) hb
theorem PS.ownE {wd w : World} {cs : Array Value} {acc : List Int} {v : Value} (h : PS wd cs acc v w) : w.ownsRow (wd.heap.size + 1) 5 1 v (encs (Value.int .u8) acc).length (encs (Value.int .u8) acc) := by
  have h := own_of_RU h.row
  have e : (encs (Value.int .u8) acc).length = acc.length := by simp [encs]
  rw [e]; exact h
theorem PS.mk' {wd w w1 : World} {cs : Array Value} {acc : List Int} {v : Value} (h : Keep wd cs 24 w) (hr : RU w1 (wd.heap.size + 1) v acc) (hb : Below (wd.heap.size + 1) w w1) : PS wd cs acc v w1 :=
  ⟨⟨by rw [hb.block _ (by omega)]; exact h.1, h.2.trans (hb.mono (by omega))⟩, hr⟩
theorem rright_agg (k ln sz x0 x1 x2 x3 x4 x5 x6 x7 x8 x9 x10 x11 x12 x13 x14 x15 s d : Int) (w : World) : Calls Tryd.prog 22 #[.agg #[.int .i64 k, .int .i64 ln, .int .i64 sz, .int .i64 x0, .int .i64 x1, .int .i64 x2, .int .i64 x3, .int .i64 x4, .int .i64 x5, .int .i64 x6, .int .i64 x7, .int .i64 x8, .int .i64 x9, .int .i64 x10, .int .i64 x11, .int .i64 x12, .int .i64 x13, .int .i64 x14, .int .i64 x15, .int .i64 s, .int .i64 d]] w fun e w' => e = .returned (.bool (okRec [k, ln, sz, x0, x1, x2, x3, x4, x5, x6, x7, x8, x9, x10, x11, x12, x13, x14, x15, s, d])) ∧ Below w.heap.size w w' := moraineref14_Right.calls [k, ln, sz, x0, x1, x2, x3, x4, x5, x6, x7, x8, x9, x10, x11, x12, x13, x14, x15, s, d] rfl w
theorem padL_step (F : List Int) (j : Nat) : F ++ List.replicate (j + 1) 0 = (F ++ List.replicate j 0) ++ [0] := by rw [List.append_assoc, ← List.replicate_succ']

set_option maxHeartbeats 1000000 in
theorem rput_no (k ln sz x0 x1 x2 x3 x4 x5 x6 x7 x8 x9 x10 x11 x12 x13 x14 x15 s d : Int) (wd : World) (h : okRec [k, ln, sz, x0, x1, x2, x3, x4, x5, x6, x7, x8, x9, x10, x11, x12, x13, x14, x15, s, d] = false) :
    Calls Tryd.prog 9 #[.agg #[.int .i64 k, .int .i64 ln, .int .i64 sz, .int .i64 x0, .int .i64 x1, .int .i64 x2, .int .i64 x3, .int .i64 x4, .int .i64 x5, .int .i64 x6, .int .i64 x7, .int .i64 x8, .int .i64 x9, .int .i64 x10, .int .i64 x11, .int .i64 x12, .int .i64 x13, .int .i64 x14, .int .i64 x15, .int .i64 s, .int .i64 d]] wd fun e w' => e = .returned (.tuple #[.slice none 0 0, .bool false]) ∧ Below wd.heap.size wd w' := by
  have H := Lib.hid h
  clear h
  go_enter Tryd.func9, Tryd.ntmps9
  go_wp2_with (first | ((with_reducible refine gate_dst (N := 1) rfl ?_); refine box_event ?hg (N := 1) ?hd (cs := #[.int .i64 k, .int .i64 ln, .int .i64 sz, .int .i64 x0, .int .i64 x1, .int .i64 x2, .int .i64 x3, .int .i64 x4, .int .i64 x5, .int .i64 x6, .int .i64 x7, .int .i64 x8, .int .i64 x9, .int .i64 x10, .int .i64 x11, .int .i64 x12, .int .i64 x13, .int .i64 x14, .int .i64 x15, .int .i64 s, .int .i64 d]) (t := 24) ?hr ?_; (case hd => rfl); (case hg => rfl); (case hr => first | (go_simp; done) | (go_simp; rfl)); intro gb hgb w0 hbox hb; subst hgb; have HK : Hid (Keep wd #[.int .i64 k, .int .i64 ln, .int .i64 sz, .int .i64 x0, .int .i64 x1, .int .i64 x2, .int .i64 x3, .int .i64 x4, .int .i64 x5, .int .i64 x6, .int .i64 x7, .int .i64 x8, .int .i64 x9, .int .i64 x10, .int .i64 x11, .int .i64 x12, .int .i64 x13, .int .i64 x14, .int .i64 x15, .int .i64 s, .int .i64 d] 24 w0) := ⟨hbox, hb⟩; clear hbox hb) | ((with_reducible refine gate_dst (N := 6) rfl ?_); refine wpList_load_row rfl 24 (.tmp 1) rfl wd.heap.size rfl 24 #[.int .i64 k, .int .i64 ln, .int .i64 sz, .int .i64 x0, .int .i64 x1, .int .i64 x2, .int .i64 x3, .int .i64 x4, .int .i64 x5, .int .i64 x6, .int .i64 x7, .int .i64 x8, .int .i64 x9, .int .i64 x10, .int .i64 x11, .int .i64 x12, .int .i64 x13, .int .i64 x14, .int .i64 x15, .int .i64 s, .int .i64 d] (0, 0) _ HK.out.1 Tryd.underlying24 rfl (by kernel_rfl) ?_) | (go_at_call 22; refine (rright_agg k ln sz x0 x1 x2 x3 x4 x5 x6 x7 x8 x9 x10 x11 x12 x13 x14 x15 s d _).mono ?_; rintro e w1 ⟨rfl, hB⟩; have t_ : Hid (Keep wd _ _ w1) := Keep.step HK.out hB; clear HK; have HK := t_; clear t_ hB; rw [H.out]))
  go_ret2
  exact ⟨rfl, HK.out.2⟩

set_option maxHeartbeats 4000000 in
set_option maxRecDepth 100000 in
theorem rput_yes (K : Nat) (k ln sz x0 x1 x2 x3 x4 x5 x6 x7 x8 x9 x10 x11 x12 x13 x14 x15 s d : Int) (wd : World) (h : okRec [k, ln, sz, x0, x1, x2, x3, x4, x5, x6, x7, x8, x9, x10, x11, x12, x13, x14, x15, s, d] = true) (Pb : List Int) (hP : recBytes [k, ln, sz, x0, x1, x2, x3, x4, x5, x6, x7, x8, x9, x10, x11, x12, x13, x14, x15, s, d] = Pb) (hpf : ∀ w n : Int, n ≤ 9223372036854775807 → moraineref01_Put.f K w n = some (pv w n)) :
    Calls Tryd.prog 9 #[.agg #[.int .i64 k, .int .i64 ln, .int .i64 sz, .int .i64 x0, .int .i64 x1, .int .i64 x2, .int .i64 x3, .int .i64 x4, .int .i64 x5, .int .i64 x6, .int .i64 x7, .int .i64 x8, .int .i64 x9, .int .i64 x10, .int .i64 x11, .int .i64 x12, .int .i64 x13, .int .i64 x14, .int .i64 x15, .int .i64 s, .int .i64 d]] wd fun e w' => ∃ v0 : Value, e = .returned (.tuple #[v0, .bool true]) ∧ RU w' wd.heap.size v0 Pb ∧ Below wd.heap.size wd w' := by
  have HPb := Lib.hid hP
  have H := Lib.hid h
  have HF := Lib.hid (recParts_len h)
  clear h hP
  obtain ⟨p0, hp0⟩ : ∃ p, pv 1 k = p := ⟨_, rfl⟩
  obtain ⟨p1, hp1⟩ : ∃ p, pv 2 ln = p := ⟨_, rfl⟩
  obtain ⟨p2, hp2⟩ : ∃ p, pv 4 sz = p := ⟨_, rfl⟩
  have hb := okRec_bd H.out
  have P0 : Hid (moraineref01_Put.f K 1 k = some p0) := by rw [← hp0]; exact hpf _ _ (by have := hb.1; omega)
  have P1 : Hid (moraineref01_Put.f K 2 ln = some p1) := by rw [← hp1]; exact hpf _ _ (by have := hb.2.1; omega)
  have P2 : Hid (moraineref01_Put.f K 4 sz = some p2) := by rw [← hp2]; exact hpf _ _ (by have := hb.2.2.1; omega)
  have l0 : p0.length ≤ 4 := by rw [← hp0]; exact pv_len _ _
  have l1 : p1.length ≤ 4 := by rw [← hp1]; exact pv_len _ _
  have l2 : p2.length ≤ 4 := by rw [← hp2]; exact pv_len _ _
  have HD := Lib.hid hb.2.2.2.1
  have HS := Lib.hid hb.2.2.2.2
  have HPF := Lib.hid hpf
  have E3 : Hid (putHead k ln sz = [p0, p1, p2]) := by rw [← hp0, ← hp1, ← hp2]; rfl
  clear hb hp0 hp1 hp2 hpf
  go_enter Tryd.func9, Tryd.ntmps9
  go_upto_region 4 with (first | ((with_reducible refine gate_dst (N := 1) rfl ?_); refine box_event ?hg (N := 1) ?hd (cs := #[.int .i64 k, .int .i64 ln, .int .i64 sz, .int .i64 x0, .int .i64 x1, .int .i64 x2, .int .i64 x3, .int .i64 x4, .int .i64 x5, .int .i64 x6, .int .i64 x7, .int .i64 x8, .int .i64 x9, .int .i64 x10, .int .i64 x11, .int .i64 x12, .int .i64 x13, .int .i64 x14, .int .i64 x15, .int .i64 s, .int .i64 d]) (t := 24) ?hr ?_; (case hd => rfl); (case hg => rfl); (case hr => first | (go_simp; done) | (go_simp; rfl)); intro gb hgb w0 hbox hb; subst hgb; have HK : Hid (Keep wd #[.int .i64 k, .int .i64 ln, .int .i64 sz, .int .i64 x0, .int .i64 x1, .int .i64 x2, .int .i64 x3, .int .i64 x4, .int .i64 x5, .int .i64 x6, .int .i64 x7, .int .i64 x8, .int .i64 x9, .int .i64 x10, .int .i64 x11, .int .i64 x12, .int .i64 x13, .int .i64 x14, .int .i64 x15, .int .i64 s, .int .i64 d] 24 w0) := ⟨hbox, hb⟩; clear hbox hb) | ((with_reducible refine gate_dst (N := 6) rfl ?_); refine wpList_load_row rfl 24 (.tmp 1) rfl wd.heap.size rfl 24 #[.int .i64 k, .int .i64 ln, .int .i64 sz, .int .i64 x0, .int .i64 x1, .int .i64 x2, .int .i64 x3, .int .i64 x4, .int .i64 x5, .int .i64 x6, .int .i64 x7, .int .i64 x8, .int .i64 x9, .int .i64 x10, .int .i64 x11, .int .i64 x12, .int .i64 x13, .int .i64 x14, .int .i64 x15, .int .i64 s, .int .i64 d] (0, 0) _ HK.out.1 Tryd.underlying24 rfl (by kernel_rfl) ?_) | (go_at_call 22; refine (rright_agg k ln sz x0 x1 x2 x3 x4 x5 x6 x7 x8 x9 x10 x11 x12 x13 x14 x15 s d _).mono ?_; rintro e w1 ⟨rfl, hB⟩; have t_ : Hid (Keep wd _ _ w1) := Keep.step HK.out hB; clear HK; have HK := t_; clear t_ hB; rw [H.out]) | ((with_reducible refine gate_dst (N := 9) rfl ?_); refine Kd.R_lit (Kd.int .u8) (wd.heap.size + 1) 5 ?hg (N := 9) ?hd (xs := ([] : List Int)) (inner := []) (ok := fun _ => True) (okp := fun _ => True) ?hr ?hp (fun _ hk => hk) trivial (Below.refl _ _) (Array.getElem?_eq_some_iff.1 HK.out.1).1 (by simp) ?_; (case hd => rfl); (case hg => rfl); (case hr => first | (go_simp; done) | (go_simp; rfl)); (case hp => exact (Reps.none _ _)); intro v3 w3 ho hb hg_ hnew_; have HP : Hid (PS wd #[.int .i64 k, .int .i64 ln, .int .i64 sz, .int .i64 x0, .int .i64 x1, .int .i64 x2, .int .i64 x3, .int .i64 x4, .int .i64 x5, .int .i64 x6, .int .i64 x7, .int .i64 x8, .int .i64 x9, .int .i64 x10, .int .i64 x11, .int .i64 x12, .int .i64 x13, .int .i64 x14, .int .i64 x15, .int .i64 s, .int .i64 d] [] v3 w3) := PS.mk' HK.out ho hb; clear hg_ hnew_ ho hb HK))
  have h0 := Keep.at_ HP.out.keep 0 rfl
  go_wp2_with fail
  refine (rput_at K _ _ _ _ P0.out).mono ?_
  rintro e w4 ⟨A4, c4, rfl, hR, hB⟩
  have R4 := Lib.hid (C_of_R hR)
  have t_ := Lib.hid (PS.call HP.out hB); clear HP; have HP := t_; clear t_ hR hB h0
  go_wp2_with (at_builtin; go_must (refine app_u8 rfl (.tmp 10) (.tmp 13) rfl rfl rfl rfl HP.out R4.out.2.2 (by simp only [List.length_append, List.length_nil]; omega) ?_); intro v5 w5 hP; have t_ := Lib.hid hP; clear HP; have HP := t_; clear t_ hP; have h1 := Keep.at_ HP.out.keep 1 rfl)
  refine (rput_at K _ _ _ _ P1.out).mono ?_
  rintro e w6 ⟨A6, c6, rfl, hR, hB⟩
  have R6 := Lib.hid (C_of_R hR)
  have t_ := Lib.hid (PS.call HP.out hB); clear HP; have HP := t_; clear t_ hR hB h1
  go_wp2_with (at_builtin; go_must (refine app_u8 rfl (.tmp 15) (.tmp 18) rfl rfl rfl rfl HP.out R6.out.2.2 (by simp only [List.length_append, List.length_nil]; omega) ?_); intro v7 w7 hP; have t_ := Lib.hid hP; clear HP; have HP := t_; clear t_ hP; have h2 := Keep.at_ HP.out.keep 2 rfl)
  refine (rput_at K _ _ _ _ P2.out).mono ?_
  rintro e w8 ⟨A8, c8, rfl, hR, hB⟩
  have R8 := Lib.hid (C_of_R hR)
  have t_ := Lib.hid (PS.call HP.out hB); clear HP; have HP := t_; clear t_ hR hB h2
  go_wp2_with (at_builtin; go_must (refine app_u8 rfl (.tmp 20) (.tmp 23) rfl rfl rfl rfl HP.out R8.out.2.2 (by simp only [List.length_append, List.length_nil]; omega) ?_); intro v9 w9 hP; have t_ := Lib.hid hP; clear HP; have HP := t_; clear t_ hP)
  have HA : Hid (([] ++ p0 ++ p1 ++ p2).length ≤ 12) := by show _ ≤ _; simp only [List.length_append, List.length_nil]; omega
  have HE : Hid ([] ++ p0 ++ p1 ++ p2 = (putHead k ln sz).flatten) := by show _ = _; rw [E3.out]; simp
  obtain ⟨Q, hQ⟩ : ∃ Q, [] ++ p0 ++ p1 ++ p2 = Q := ⟨_, rfl⟩
  rw [hQ] at HP HA HE
  clear hQ R4 R6 R8
  go_loopw [4, 5] (fun v i wr => ∃ j : Nat, j ≤ 16 ∧ i = .int .i64 j ∧ Hid (PS wd #[.int .i64 k, .int .i64 ln, .int .i64 sz, .int .i64 x0, .int .i64 x1, .int .i64 x2, .int .i64 x3, .int .i64 x4, .int .i64 x5, .int .i64 x6, .int .i64 x7, .int .i64 x8, .int .i64 x9, .int .i64 x10, .int .i64 x11, .int .i64 x12, .int .i64 x13, .int .i64 x14, .int .i64 x15, .int .i64 s, .int .i64 d] (Q ++ (putDir [x0, x1, x2, x3, x4, x5, x6, x7, x8, x9, x10, x11, x12, x13, x14, x15] j).flatten) v wr)) (fun _ i _ => 16 - (intOf i).toNat)
  case atStart => exact ⟨0, Nat.zero_le _, rfl, by have h := HP.out; rw [← List.append_nil Q] at h; exact h⟩
  case round =>
    clear HP
    obtain ⟨j, hj, rfl, HP⟩ := hrel
    by_cases hlt : j < 16
    · have hyb := HD.out j hlt
      obtain ⟨y, hy⟩ : ∃ y, [x0, x1, x2, x3, x4, x5, x6, x7, x8, x9, x10, x11, x12, x13, x14, x15].getD j 0 = y := ⟨_, rfl⟩
      rw [hy] at hyb
      obtain ⟨q, hq⟩ : ∃ q, pv 2 y = q := ⟨_, rfl⟩
      have PQ : Hid (moraineref01_Put.f K 2 y = some q) := by rw [← hq]; exact HPF.out _ _ (by omega)
      have HQ : Hid (Q ++ (putDir [x0, x1, x2, x3, x4, x5, x6, x7, x8, x9, x10, x11, x12, x13, x14, x15] (j + 1)).flatten = Q ++ (putDir [x0, x1, x2, x3, x4, x5, x6, x7, x8, x9, x10, x11, x12, x13, x14, x15] j).flatten ++ q) := by
        show _ = _
        rw [putDir_succ, hy, hq, List.flatten_append, List.append_assoc]; simp
      have hql : q.length ≤ 4 := by rw [← hq]; exact pv_len _ _
      have hcell := Keep.at_ HP.out.keep (3 + j) (dir_cell k ln sz x0 x1 x2 x3 x4 x5 x6 x7 x8 x9 x10 x11 x12 x13 x14 x15 s d j hlt)
      rw [hy] at hcell
      have HLQ : Hid ((Q ++ (putDir [x0, x1, x2, x3, x4, x5, x6, x7, x8, x9, x10, x11, x12, x13, x14, x15] j).flatten).length ≤ 12 + 2 * 16) := by
        show _ ≤ _
        have h1 := putDir_len [x0, x1, x2, x3, x4, x5, x6, x7, x8, x9, x10, x11, x12, x13, x14, x15] j (fun i hi => HD.out i (by omega))
        have h2 := HA.out
        rw [List.length_append, h1]; omega
      obtain ⟨Z, hZ⟩ : ∃ Z, Q ++ (putDir [x0, x1, x2, x3, x4, x5, x6, x7, x8, x9, x10, x11, x12, x13, x14, x15] j).flatten = Z := ⟨_, rfl⟩
      rw [hZ] at HP HLQ HQ
      have hzl := HLQ.out
      clear hy hq hZ
      go_wp2_with fail
      refine (rput_at K _ _ _ _ PQ.out).mono ?_
      rintro e w5 ⟨A5, c5, rfl, hR, hB⟩
      have R5 := Lib.hid (C_of_R hR)
      have t_ := Lib.hid (PS.call HP.out hB); clear HP; have HP := t_; clear t_ hR hB hcell
      go_wp2_with (at_builtin; go_must (refine app_u8 rfl (.tmp 29) (.tmp 34) rfl rfl rfl rfl HP.out R5.out.2.2 (by omega) ?_); intro v6 w6 hP; have t_ := Lib.hid hP; clear HP; have HP := t_; clear t_ hP)
      go_roundw
      case rel => exact ⟨j + 1, by omega, by go_num, by rw [HQ.out]; exact HP⟩
      case measure => simp [intOf]; omega
    · have hj16 : j = 16 := by omega
      subst hj16
      obtain ⟨r0, hr0⟩ : ∃ p, pv 2 s = p := ⟨_, rfl⟩
      obtain ⟨r1, hr1⟩ : ∃ p, pv 2 d = p := ⟨_, rfl⟩
      have Q0 : Hid (moraineref01_Put.f K 2 s = some r0) := by rw [← hr0]; exact HPF.out _ _ (by have := HS.out.1; omega)
      have Q1 : Hid (moraineref01_Put.f K 2 d = some r1) := by rw [← hr1]; exact HPF.out _ _ (by have := HS.out.2; omega)
      have k0 : r0.length ≤ 4 := by rw [← hr0]; exact pv_len _ _
      have k1 : r1.length ≤ 4 := by rw [← hr1]; exact pv_len _ _
      have HLZ : Hid ((Q ++ (putDir [x0, x1, x2, x3, x4, x5, x6, x7, x8, x9, x10, x11, x12, x13, x14, x15] 16).flatten).length ≤ 12 + 2 * 16) := by
        show _ ≤ _
        have h1 := putDir_len [x0, x1, x2, x3, x4, x5, x6, x7, x8, x9, x10, x11, x12, x13, x14, x15] 16 (fun i hi => HD.out i (by omega))
        have h2 := HA.out
        rw [List.length_append, h1]; omega
      have HFF : Hid (Q ++ (putDir [x0, x1, x2, x3, x4, x5, x6, x7, x8, x9, x10, x11, x12, x13, x14, x15] 16).flatten ++ r0 ++ r1 = (recParts [k, ln, sz, x0, x1, x2, x3, x4, x5, x6, x7, x8, x9, x10, x11, x12, x13, x14, x15, s, d]).flatten) := by
        show _ = _
        rw [HE.out, ← hr0, ← hr1]
        have e : recParts [k, ln, sz, x0, x1, x2, x3, x4, x5, x6, x7, x8, x9, x10, x11, x12, x13, x14, x15, s, d] = putHead k ln sz ++ putDir [x0, x1, x2, x3, x4, x5, x6, x7, x8, x9, x10, x11, x12, x13, x14, x15] 16 ++ [pv 2 s, pv 2 d] := rfl
        rw [e]; simp only [List.flatten_append, List.flatten_cons, List.flatten_nil, List.append_nil, List.append_assoc]
      obtain ⟨Z, hZ⟩ : ∃ Z, Q ++ (putDir [x0, x1, x2, x3, x4, x5, x6, x7, x8, x9, x10, x11, x12, x13, x14, x15] 16).flatten = Z := ⟨_, rfl⟩
      rw [hZ] at HP HLZ HFF
      have hzl := HLZ.out
      clear hr0 hr1 hZ
      have h3 := Keep.at_ HP.out.keep 19 rfl
      go_wp2_with fail
      refine (rput_at K _ _ _ _ Q0.out).mono ?_
      rintro e w5 ⟨A5, c5, rfl, hR, hB⟩
      have R5 := Lib.hid (C_of_R hR)
      have t_ := Lib.hid (PS.call HP.out hB); clear HP; have HP := t_; clear t_ hR hB h3
      go_wp2_with (at_builtin; go_must (refine app_u8 rfl (.tmp 36) (.tmp 39) rfl rfl rfl rfl HP.out R5.out.2.2 (by omega) ?_); intro v6 w6 hP; have t_ := Lib.hid hP; clear HP; have HP := t_; clear t_ hP; have h4 := Keep.at_ HP.out.keep 20 rfl)
      refine (rput_at K _ _ _ _ Q1.out).mono ?_
      rintro e w7 ⟨A7, c7, rfl, hR, hB⟩
      have R7 := Lib.hid (C_of_R hR)
      have t_ := Lib.hid (PS.call HP.out hB); clear HP; have HP := t_; clear t_ hR hB h4
      have hl7 : (Z ++ r0).length ≤ 48 := by rw [List.length_append]; omega
      go_wp2_with (at_builtin; go_must (refine app_u8 rfl (.tmp 41) (.tmp 44) rfl rfl rfl rfl HP.out R7.out.2.2 (by simp only [List.length_append, List.length_nil]; omega) ?_); intro v8 w8 hP; have t_ := Lib.hid hP; clear HP; have HP := t_; clear t_ hP)
      obtain ⟨F, hF⟩ : ∃ F, Z ++ r0 ++ r1 = F := ⟨_, rfl⟩
      rw [hF] at HP HFF
      have HFL : Hid (F.length = 43) := by rw [HFF.out]; exact HF.out
      have HPP : Hid (F ++ List.replicate 13 0 = Pb) := by
        show _ = _
        rw [← HPb.out]; unfold recBytes padL; rw [← HFF.out, HFL.out]
      clear hF R5 R7
      go_loopw [4] (fun v wr => ∃ (j : Nat) (A : Option Addr) (c : Nat), j ≤ 13 ∧ v = .slice A (43 + j) c ∧ Hid (PS wd #[.int .i64 k, .int .i64 ln, .int .i64 sz, .int .i64 x0, .int .i64 x1, .int .i64 x2, .int .i64 x3, .int .i64 x4, .int .i64 x5, .int .i64 x6, .int .i64 x7, .int .i64 x8, .int .i64 x9, .int .i64 x10, .int .i64 x11, .int .i64 x12, .int .i64 x13, .int .i64 x14, .int .i64 x15, .int .i64 s, .int .i64 d] (F ++ List.replicate j 0) v wr)) (fun v _ => 56 - slLen v)
      case atStart =>
        have hr := HP.out.row
        obtain ⟨A, c, e⟩ := Kd.R_slice hr
        rw [HFL.out] at e
        exact ⟨0, A, c, Nat.zero_le _, e, by have h := HP.out; rw [← List.append_nil F] at h; exact h⟩
      case round =>
        clear HP
        obtain ⟨j, A, c, hj, rfl, HP⟩ := hrel
        by_cases hlt : j < 13
        · have hS : Hid ((F ++ List.replicate j 0).length = 43 + j) := by show _ = _; rw [List.length_append, List.length_replicate, HFL.out]
          go_wp2_with (at_builtin; go_must (refine print_append (w0 := wr) (wd.heap.size + 1) rfl (.tmp 49) (.tmp 50) 25 5 (.int .u8 0) 1 rfl Tryd.underlying25 infoU8e rfl (by decide) _ (encs (Value.int .u8) (F ++ List.replicate j 0)) (.int .u8 0) rfl rfl rfl HP.out.ownE (Below.refl _ _) HP.out.lt (by rw [encs_length, hS.out]; omega) ?_); intro v6 w6 hown hB6 hg hat; have HP6 : Hid (PS wd #[.int .i64 k, .int .i64 ln, .int .i64 sz, .int .i64 x0, .int .i64 x1, .int .i64 x2, .int .i64 x3, .int .i64 x4, .int .i64 x5, .int .i64 x6, .int .i64 x7, .int .i64 x8, .int .i64 x9, .int .i64 x10, .int .i64 x11, .int .i64 x12, .int .i64 x13, .int .i64 x14, .int .i64 x15, .int .i64 s, .int .i64 d] (F ++ List.replicate (j + 1) 0) v6 w6) := by { have h := PS.push HP.out hown hB6; rw [← padL_step] at h; exact h }; clear hown hB6 hg hat)
          go_roundw
          case rel =>
            obtain ⟨A', c', e⟩ := Kd.R_slice HP6.out.row
            refine ⟨j + 1, A', c', by omega, ?_, HP6⟩
            rw [e]
            have e2 : (F ++ List.replicate (j + 1) 0).length = 43 + (j + 1) := by rw [List.length_append, List.length_replicate, HFL.out]
            rw [e2]
          case measure => obtain ⟨A', c', e⟩ := Kd.R_slice HP6.out.row; rw [e]; simp only [slLen, List.length_append, List.length_replicate, HFL.out]; omega
        · have hj13 : j = 13 := by omega
          subst hj13
          rw [HPP.out] at HP
          go_wp2
          go_ret2
          exact ⟨_, rfl, RU.lower HP.out.row (by omega), HP.out.keep.2⟩
theorem moraineref14_Put.calls (K : Nat) (l : List Int) (hl : l.length = 21) (P : List Int) (ok : Bool) (w : World) (h : inode_Put.f l = (P, ok)) (hpf : ∀ w n : Int, n ≤ 9223372036854775807 → moraineref01_Put.f K w n = some (pv w n)) :
    Calls Tryd.prog 9 #[.agg (encs (Value.int .i64) l).toArray] w fun e w' => ∃ v0 : Value, e = .returned (.tuple #[v0, .bool ok]) ∧ RU w' w.heap.size v0 P ∧ Below w.heap.size w w' := by
  obtain ⟨k, ln, sz, x0, x1, x2, x3, x4, x5, x6, x7, x8, x9, x10, x11, x12, x13, x14, x15, s, d, rfl⟩ := list21 l hl
  unfold inode_Put.f at h
  cases hk : okRec [k, ln, sz, x0, x1, x2, x3, x4, x5, x6, x7, x8, x9, x10, x11, x12, x13, x14, x15, s, d] with
  | true =>
    rw [hk] at h
    cases h
    exact rput_yes K k ln sz x0 x1 x2 x3 x4 x5 x6 x7 x8 x9 x10 x11 x12 x13 x14 x15 s d w hk _ rfl hpf
  | false =>
    rw [hk] at h
    cases h
    refine (rput_no k ln sz x0 x1 x2 x3 x4 x5 x6 x7 x8 x9 x10 x11 x12 x13 x14 x15 s d w hk).mono ?_
    rintro e w' ⟨rfl, hB⟩
    exact ⟨_, rfl, Kd.R_nil _ _ _ _ _, hB⟩
end Go.Proofs.YthmfhhkedmloeaaDoor.Given
