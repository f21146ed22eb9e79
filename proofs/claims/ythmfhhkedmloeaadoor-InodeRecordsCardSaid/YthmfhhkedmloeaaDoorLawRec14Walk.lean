/- The walk of InodeRecords: by hand. -/
import Derived.Test.YthmfhhkedmloeaaDoorGivRefPut
import Derived.Test.YthmfhhkedmloeaaDoorGivRecEq
import Derived.Test.YthmfhhkedmloeaaDoorGivAlive14
import Derived.Test.YthmfhhkedmloeaaDoorPureInodeRecords
namespace Go.Proofs.YthmfhhkedmloeaaDoor.RecWalk
open Go.RowKit Go.Proofs.YthmfhhkedmloeaaDoorW.PrintWords Go.Proofs.YthmfhhkedmloeaaDoorW.PrintLast Go.Proofs.YthmfhhkedmloeaaDoorW.PrintMore Go.Proofs.YthmfhhkedmloeaaDoor.Given Go.Proofs.YthmfhhkedmloeaaDoor.PInodeRecords
set_option linter.unusedVariables false
set_option linter.unusedSimpArgs false
theorem wpList_load_rowG {P : Program} {ops : Array Oper} {rest : List Oper} {o : Oper} {a : Act} {w : World} {Q : Exit → Act → World → Prop} (hw : Region.wanted o (yielded ops a.tmps) = true) (ty : TypeId) (x : Operand) (ho : o.op = .load ty x)
    (g : Nat) (hx : a.eval x = .pointer (some ⟨g, 0, none⟩)) (t : TypeId) (cs : Array Value) (fr : Nat × Nat) (d : TypeDesc) (hg : w.heap[g]? = some (.cells cs t fr))
    (hu : P.underlying ty = some d) (hd : (match d with | .struct _ | .array _ _ => true | _ => false) = true) (hi : (P.info? ty).map (·.size) = some cs.size)
    (h : wpList P ops Q rest (a.put o.dst (.agg cs)) w) : wpList P ops Q (o :: rest) a w :=
  wpList_step fun K hK => by rw [if_pos hw]; exact wp_load_row ty x ho g hx t cs fr d hg hu hd hi (hK _ _ h)
theorem rec_eq' (n : Nat) (w : World) (L M : List Int) (hL : L.length = 21) (hM : M.length = 21) : (Op.equalIn (n + 3) 24 (.agg (encs (Value.int .i64) L).toArray) (.agg (encs (Value.int .i64) M).toArray)).run Tryd.prog w = .ok (decide (L = M)) w := rec_eq n w L M hL hM
theorem get_at (n : Nat) (A : Option Addr) (c : Nat) (l R : List Int) (ok : Bool) (w : World) (hn : l.length = n) (hr : Kd.C (Kd.int .u8) w A l.length l) (hc : l.length ≤ c) (h : inode_Get.f l = (R, ok)) :
    Calls Tryd.prog 10 #[.slice A n c] w fun e w' => e = .returned (.tuple #[.agg (encs (Value.int .i64) R).toArray, .bool ok]) ∧ Below w.heap.size w w' := by
  subst hn; exact inode_Get.calls A c l R ok w hr hc h
theorem same_at (k n n' : Nat) (A B : Option Addr) (c d : Nat) (x y : List Int) (w : World) (hx : x.length = n) (hy : y.length = n') (h1 : Kd.C (Kd.int .u8) w A x.length x) (c1 : x.length ≤ c) (h2 : Kd.C (Kd.int .u8) w B y.length y) (c2 : y.length ≤ d) (h : moraineref00_SameBytes.f k x y = some true) :
    Calls Tryd.prog 12 #[.slice A n c, .slice B n' d] w fun e w' => e = .returned (.bool true) ∧ Drawn0 w w' := by
  subst hx; subst hy
  exact moraineref00_SameBytes.calls k _ _ x _ _ y true w h1 c1 h2 c2 h
theorem hsz (L : List Int) (hL : L.length = 21) : (Tryd.prog.info? 24).map (·.size) = some (encs (Value.int .i64) L).toArray.size := by
  rw [show (encs (Value.int .i64) L).toArray.size = 21 from by rw [List.size_toArray, encs_length]; exact hL]
  kernel_rfl
theorem Keep.row {wd w : World} {cs : Array Value} {t : Nat} (h : Keep wd cs t w) {g : Nat} (hg : wd.heap.size < g) (X : Array Value) : Keep wd cs t (w.setRow g X) :=
  ⟨(setRow_other _ g _ _ (by omega)).trans h.1, below_setRow h.2 (by omega) _⟩
theorem Keep.drewN {wd w : World} {cs : Array Value} {t : Nat} (h : Keep wd cs t w) (n : Nat) : Keep wd cs t (w.drewN n) := ⟨h.1, pw_below_drewN h.2 n⟩
theorem rget_at' (K n : Nat) (A : Option Addr) (c : Nat) (l R : List Int) (ok : Bool) (w : World) (hn : l.length = n) (hr : Kd.C (Kd.int .u8) w A l.length l) (hc : l.length ≤ c) (h : inode_Get.f l = (R, ok))
    (hgf : l.length = 56 → ∀ i, i < 21 → ∃ b, moraineref01_Get.f K l ((offs i : Nat) : Int) (wid i) = some (fv l i, b)) (hnf : l.length = 56 → moraineref01_Nought.f K (l.drop 43) = some (decide (tl (l.drop 43) (l.drop 43).length = 0))) :
    Calls Tryd.prog 11 #[.slice A n c] w fun e w' => e = .returned (.tuple #[.agg (encs (Value.int .i64) R).toArray, .bool ok]) ∧ Below w.heap.size w w' := by
  subst hn; exact moraineref14_Get.calls K A c l R ok w hr hc h hgf hnf
theorem copy_at (n : Nat) (A : Option Addr) (c : Nat) (l : List Int) (w : World) (hn : l.length = n) (hr : Kd.C (Kd.int .u8) w A l.length l) (hc : l.length ≤ c) (h : moraineref00_CopyBytes.f l = some l) :
    Calls Tryd.prog 7 #[.slice A n c] w fun e w' => ∃ A' c', e = .returned (.slice A' n c') ∧ Kd.C (Kd.int .u8) w' A' l.length l ∧ l.length ≤ c' ∧ Below w.heap.size w w' := by
  subst hn
  refine (moraineref00_CopyBytes.calls A c l l w hr hc h).mono ?_
  rintro e w' ⟨v0, rfl, hR, hB⟩
  obtain ⟨A', c', rfl⟩ := Kd.R_slice hR
  exact ⟨A', c', rfl, (C_of_R hR).2.2, (C_of_R hR).2.1, hB⟩
set_option maxHeartbeats 4000000 in
theorem walk (K : Nat) (l P b R : List Int) (m : Nat) (Ab : Option Addr) (cb : Nat) (w : World) (hCb : Kd.C (Kd.int .u8) w Ab b.length b) (hMb : b.length ≤ cb) (hl : l.length = 21) (hb : b.length = m) (hm : ¬ 1000 < m) (okp okg : Bool) (hp : inode_Put.f l = (P, okp)) (hR : R.length = 21) (hgb : inode_Get.f b = (R, okg)) (hcb : moraineref00_CopyBytes.f b = some b) (hsP : moraineref00_SameBytes.f K P P = some true) (hsb : moraineref00_SameBytes.f K b b = some true) (hpf : ∀ w n : Int, n ≤ 9223372036854775807 → moraineref01_Put.f K w n = some (pv w n)) (hgf : b.length = 56 → ∀ i, i < 21 → ∃ x, moraineref01_Get.f K b ((offs i : Nat) : Int) (wid i) = some (fv b i, x)) (hnf : b.length = 56 → moraineref01_Nought.f K (b.drop 43) = some (decide (tl (b.drop 43) (b.drop 43).length = 0))) :
    Calls Tryd.prog 3 #[.agg (encs (Value.int .i64) l).toArray, .slice Ab m cb] w fun e w' => e = .returned (.bool true) ∧ Below w.heap.size w w' := by
  have HCb := Lib.hid hCb; have HMb := Lib.hid hMb; have HSl := Lib.hid (hsz l hl); have HSR := Lib.hid (hsz R hR)
  have heq := fun n W => rec_eq' n W R R hR hR
  rw [decide_eq_true rfl] at heq
  have HEQ := Lib.hid heq
  have hl' := Lib.hid hl
  have hb' := Lib.hid hb
  have hp' := Lib.hid hp
  have hR' := Lib.hid hR
  have hgb' := Lib.hid hgb
  have hcb' := Lib.hid hcb
  have hsP' := Lib.hid hsP
  have hsb' := Lib.hid hsb
  have hpf' := Lib.hid hpf
  have hgf' := Lib.hid hgf
  have hnf' := Lib.hid hnf
  clear hCb hMb heq hl hb hp hR hgb hcb hsP hsb hpf hgf hnf
  go_enter Tryd.func3, Tryd.ntmps3
  go_wp2_with (first | ((with_reducible refine gate_dst (N := 2) rfl ?_); refine box_event ?hg (N := 2) ?hd (cs := (encs (Value.int .i64) l).toArray) (t := 24) ?hr ?_; (case hd => rfl); (case hg => rfl); (case hr => first | (go_simp; done) | (go_simp; rfl)); intro gb hg_ w0 hbox hb; subst hg_; have HK : Hid (Keep w (encs (Value.int .i64) l).toArray 24 w0) := ⟨hbox, hb⟩; clear hbox hb))
  refine (morainelaw14_alive.calls true _ rfl).mono ?_
  rintro e w1 ⟨rfl, hB⟩
  have t_ := Lib.hid (Keep.step HK.out hB); clear HK; have HK := t_; clear t_ hB
  go_wp2_with fail
  refine (copy_at m Ab cb b _ hb'.out (Kd.C_below HCb.out HK.out.2) HMb.out hcb'.out).mono ?_
  rintro e w2 ⟨A5, c5, rfl, hC5, hM5, hB⟩
  have t_ := Lib.hid (Keep.step HK.out hB); clear HK; have HK := t_; clear t_ hB
  have C5 := Lib.hid hC5; have M5 := Lib.hid hM5; clear hC5 hM5
  go_wp2_with (first | ((with_reducible refine gate_dst (N := 22) rfl ?_); refine wpList_load_row rfl 24 (.tmp 2) rfl w.heap.size rfl 24 (encs (Value.int .i64) l).toArray (0, 0) _ HK.out.1 Tryd.underlying24 rfl HSl.out ?_))
  refine (inode_Put.calls l hl'.out _).mono ?_
  rintro e w3 ⟨v0, rfl, hR2, hB⟩
  rw [hp'.out] at hR2 ⊢
  have hR3 : RU w3 _ v0 P := hR2
  obtain ⟨A6, c6, rfl⟩ := Kd.R_slice hR3
  have C6 := Lib.hid (Kd.R_reads' hR3).2.2
  have M6 := Lib.hid (Kd.R_reads' hR3).2.1
  have t_ := Lib.hid (Kd.C_below C5.out hB); clear C5; have C5 := t_; clear t_
  have t_ := Lib.hid (Keep.step HK.out hB); clear HK; have HK := t_; clear t_ hB
  clear hR2 hR3
  go_wp2_with (first | ((with_reducible refine gate_dst (N := 27) rfl ?_); refine wpList_load_row rfl 24 (.tmp 2) rfl w.heap.size rfl 24 (encs (Value.int .i64) l).toArray (0, 0) _ HK.out.1 Tryd.underlying24 rfl HSl.out ?_))
  refine (moraineref14_Put.calls K l hl'.out P okp _ hp'.out hpf'.out).mono ?_
  rintro e w4 ⟨v0, rfl, hR2, hB⟩
  have hR3 : RU w4 _ v0 P := hR2
  obtain ⟨A8, c8, rfl⟩ := Kd.R_slice hR3
  have C8 := Lib.hid (Kd.R_reads' hR3).2.2
  have M8 := Lib.hid (Kd.R_reads' hR3).2.1
  have t_ := Lib.hid (Kd.C_below C5.out hB); clear C5; have C5 := t_; clear t_
  have t_ := Lib.hid (Kd.C_below C6.out hB); clear C6; have C6 := t_; clear t_
  have t_ := Lib.hid (Keep.step HK.out hB); clear HK; have HK := t_; clear t_ hB
  clear hR2 hR3
  go_wp2_with fail
  refine (get_at m A5 c5 b R okg _ hb'.out C5.out M5.out hgb'.out).mono ?_
  rintro e w5 ⟨rfl, hB⟩
  have t_ := Lib.hid (Kd.C_below C5.out hB); clear C5; have C5 := t_; clear t_
  have t_ := Lib.hid (Kd.C_below C6.out hB); clear C6; have C6 := t_; clear t_
  have t_ := Lib.hid (Kd.C_below C8.out hB); clear C8; have C8 := t_; clear t_
  have t_ := Lib.hid (Keep.step HK.out hB); clear HK; have HK := t_; clear t_ hB
  go_wp2_with (first | ((with_reducible refine gate_dst (N := 10) rfl ?_); refine box_event ?hg (N := 10) ?hd (cs := (List.replicate 21 (Value.int .i64 0)).toArray) (t := 24) ?hr ?_; (case hd => rfl); (case hg => rfl); (case hr => first | (go_simp; done) | (go_simp; rfl)); intro g10 hg_ w6 hbox hb; have HSg10 := Lib.hid hbox; have HEg10 := Lib.hid hg_; have HGg10 : Hid (w.heap.size < g10) := by { rw [hg_]; exact (Array.getElem?_eq_some_iff.1 HK.out.1).1 }; have HBg10 := Lib.hid hb; clear hbox hb hg_) | (refine wpList_store_row rfl 24 (.tmp 10) (.tmp 34) rfl g10 (encs (Value.int .i64) R).toArray rfl rfl 24 _ HSg10.out HSR.out (by rw [List.size_toArray, List.size_toArray, encs_length, hR'.out]; rfl) (encs_one R) ?_))
  have hBs := below_setRow HBg10.out (Nat.le_of_eq HEg10.out.symm) (encs (Value.int .i64) R).toArray
  have t_ := Lib.hid (Kd.C_below C5.out hBs); clear C5; have C5 := t_; clear t_
  have t_ := Lib.hid (Kd.C_below C6.out hBs); clear C6; have C6 := t_; clear t_
  have t_ := Lib.hid (Kd.C_below C8.out hBs); clear C8; have C8 := t_; clear t_
  have Qg10 := Lib.hid (setRow_heap _ g10 _ (encs (Value.int .i64) R).toArray _ _ HSg10.out)
  have t_ := Lib.hid (Keep.step HK.out hBs); clear HK; have HK := t_; clear t_ hBs HSg10 HEg10 HBg10 HGg10
  refine (rget_at' K m Ab cb b R okg _ hb'.out (Kd.C_below HCb.out HK.out.2) HMb.out hgb'.out hgf'.out hnf'.out).mono ?_
  rintro e w7 ⟨rfl, hB⟩
  have t_ := Lib.hid (Kd.C_below C5.out hB); clear C5; have C5 := t_; clear t_
  have t_ := Lib.hid (Kd.C_below C6.out hB); clear C6; have C6 := t_; clear t_
  have t_ := Lib.hid (Kd.C_below C8.out hB); clear C8; have C8 := t_; clear t_
  have t_ := Lib.hid (blk_below Qg10.out hB); clear Qg10; have Qg10 := t_; clear t_
  have t_ := Lib.hid (Keep.step HK.out hB); clear HK; have HK := t_; clear t_ hB
  go_wp2_with (first | ((with_reducible refine gate_dst (N := 12) rfl ?_); refine box_event ?hg (N := 12) ?hd (cs := (List.replicate 21 (Value.int .i64 0)).toArray) (t := 24) ?hr ?_; (case hd => rfl); (case hg => rfl); (case hr => first | (go_simp; done) | (go_simp; rfl)); intro g12 hg_ w8 hbox hb; have HSg12 := Lib.hid hbox; have HEg12 := Lib.hid hg_; have HGg12 : Hid (w.heap.size < g12) := by { rw [hg_]; exact (Array.getElem?_eq_some_iff.1 HK.out.1).1 }; have HBg12 := Lib.hid hb; clear hbox hb hg_) | (refine wpList_store_row rfl 24 (.tmp 12) (.tmp 39) rfl g12 (encs (Value.int .i64) R).toArray rfl rfl 24 _ HSg12.out HSR.out (by rw [List.size_toArray, List.size_toArray, encs_length, hR'.out]; rfl) (encs_one R) ?_))
  have hBs := below_setRow HBg12.out (Nat.le_of_eq HEg12.out.symm) (encs (Value.int .i64) R).toArray
  have t_ := Lib.hid (Kd.C_below C5.out hBs); clear C5; have C5 := t_; clear t_
  have t_ := Lib.hid (Kd.C_below C6.out hBs); clear C6; have C6 := t_; clear t_
  have t_ := Lib.hid (Kd.C_below C8.out hBs); clear C8; have C8 := t_; clear t_
  have t_ := Lib.hid (blk_below Qg10.out hBs); clear Qg10; have Qg10 := t_; clear t_
  have Qg12 := Lib.hid (setRow_heap _ g12 _ (encs (Value.int .i64) R).toArray _ _ HSg12.out)
  have t_ := Lib.hid (Keep.step HK.out hBs); clear HK; have HK := t_; clear t_ hBs HSg12 HEg12 HBg12 HGg12
  refine (same_at K _ _ A6 A8 c6 c8 P P _ rfl rfl C6.out M6.out C8.out M8.out hsP'.out).mono ?_
  rintro e w9 ⟨rfl, nd, rfl⟩
  have HK0 := HK
  have t_ := Lib.hid (Keep.drewN HK.out nd); clear HK; have HK := t_; clear t_
  have t_ := Lib.hid (Kd.C_drewN C5.out nd); clear C5; have C5 := t_; clear t_ C6 C8
  cases okp <;> cases okg
  all_goals (
    have heq := HEQ.out
    go_wp2_with (first | ((with_reducible refine gate_dst (N := 50) rfl ?_); refine wpList_load_rowG (by first | rfl | (go_simp; done)) 24 (.tmp 10) rfl g10 rfl 24 (encs (Value.int .i64) R).toArray (0, 0) _ Qg10.out Tryd.underlying24 rfl HSR.out ?_) | ((with_reducible refine gate_dst (N := 51) rfl ?_); refine wpList_load_rowG (by first | rfl | (go_simp; done)) 24 (.tmp 12) rfl g12 rfl 24 (encs (Value.int .i64) R).toArray (0, 0) _ Qg12.out Tryd.underlying24 rfl HSR.out ?_))
    refine (same_at K m m A5 Ab c5 cb b b _ hb'.out hb'.out C5.out M5.out (Kd.C_below HCb.out HK.out.2) HMb.out hsb'.out).mono ?_
    rintro e w10 ⟨rfl, nd, rfl⟩
    go_wp2
    go_ret
    exact ⟨rfl, pw_below_drewN HK0.out.2 _⟩)
set_option maxHeartbeats 1000000 in
theorem long (l : List Int) (m : Nat) (Ab : Option Addr) (cb : Nat) (w : World) (h : 1000 < m) :
    Calls Tryd.prog 3 #[.agg (encs (Value.int .i64) l).toArray, .slice Ab m cb] w fun e w' => e = .returned (.bool true) ∧ Below w.heap.size w w' := by
  go_enter Tryd.func3, Tryd.ntmps3
  go_wp2_with (first | ((with_reducible refine gate_dst (N := 2) rfl ?_); refine box_event ?hg (N := 2) ?hd (cs := (encs (Value.int .i64) l).toArray) (t := 24) ?hr ?_; (case hd => rfl); (case hg => rfl); (case hr => first | (go_simp; done) | (go_simp; rfl)); intro gb hg_ w0 hbox hb; subst hg_; have HK : Hid (Keep w (encs (Value.int .i64) l).toArray 24 w0) := ⟨hbox, hb⟩; clear hbox hb))
  refine (morainelaw14_alive.calls true _ rfl).mono ?_
  rintro e w1 ⟨rfl, hB⟩
  have t_ := Lib.hid (Keep.step HK.out hB); clear HK; have HK := t_; clear t_ hB
  go_wp2
  go_ret
  exact ⟨rfl, HK.out.2⟩
end Go.Proofs.YthmfhhkedmloeaaDoor.RecWalk
namespace Go.Proofs.YthmfhhkedmloeaaDoor.PInodeRecords
open Go.RowKit Go.Proofs.YthmfhhkedmloeaaDoorW.PrintWords Go.Proofs.YthmfhhkedmloeaaDoorW.PrintLast Go.Proofs.YthmfhhkedmloeaaDoorW.PrintMore Go.Proofs.YthmfhhkedmloeaaDoor.Given
set_option linter.unusedVariables false
theorem morainelaw14_InodeRecords.calls (l : List Int) (Ab : Option Addr) (cb : Nat) (b : List Int) (r : Bool) (w : World) (hl : l.length = 21) (hCb : Kd.C (Kd.int .u8) w Ab b.length b) (hMb : b.length ≤ cb) (h : Pure.Byt b) :
    Calls Tryd.prog 3 #[.agg (l.map (Value.int .i64)).toArray, .slice Ab b.length cb] w fun e w' => e = .returned (.bool true) ∧ Below w.heap.size w w' := by
  by_cases hm : 1000 < b.length
  · exact RecWalk.long l _ Ab cb w hm
  obtain ⟨K, hK⟩ : ∃ K, K = 3000 := ⟨_, rfl⟩
  obtain ⟨R, okg, hgb⟩ : ∃ R ok, inode_Get.f b = (R, ok) := ⟨_, _, rfl⟩
  obtain ⟨P, okp, hp⟩ : ∃ P ok, inode_Put.f l = (P, ok) := ⟨_, _, rfl⟩
  have hR : R.length = 21 := by have := Pure.get_len b; rw [hgb] at this; exact this
  have hP := Pure.put_len hl hp
  have hsP : moraineref00_SameBytes.f K P P = some true := by rw [Pure.same_eq P P (by omega) K (by omega)]; simp
  have hsb : moraineref00_SameBytes.f K b b = some true := by rw [Pure.same_eq b b (by omega) K (by omega)]; simp
  have hcb : moraineref00_CopyBytes.f b = some b := by
    unfold moraineref00_CopyBytes.f
    simp only [Option.bind_some]
    rw [if_pos (by simp only [List.length_nil]; omega), List.nil_append]
  exact RecWalk.walk K l P b R _ Ab cb w hCb hMb hl rfl hm okp okg hp hR hgb hcb hsP hsb (fun w n hn => Pure.rput14_eq K (by omega) w n hn) (fun _ i _ => Pure.rget14_eq K (by omega) h (by omega) i) (fun hb => Pure.rn14_eq _ (by rw [List.length_drop]; omega) K (by rw [List.length_drop]; omega))
end Go.Proofs.YthmfhhkedmloeaaDoor.PInodeRecords
namespace Go.Proofs.YthmfhhkedmloeaaDoor.Pure
open Go.RowKit
set_option linter.unusedVariables false
theorem InodeRecords (l b : List Int) (hl : l.length = 21) (hw : ∀ x ∈ l, (Lit.int .i64 x).wf = true) (hb : Byt b) : Byt b := hb
end Go.Proofs.YthmfhhkedmloeaaDoor.Pure
