/- The walk of InodeBack: by hand. -/
import Derived.Test.YthmfhhkedmloeaaDoorGivInodeGet
import Derived.Test.YthmfhhkedmloeaaDoorGivRecEq
import Derived.Test.YthmfhhkedmloeaaDoorGivAlive14
import Derived.Test.YthmfhhkedmloeaaDoorPureInodeBack
namespace Go.Proofs.YthmfhhkedmloeaaDoor.BackWalk
open Go.RowKit Go.Proofs.YthmfhhkedmloeaaDoorW.PrintWords Go.Proofs.YthmfhhkedmloeaaDoorW.PrintLast Go.Proofs.YthmfhhkedmloeaaDoorW.PrintMore Go.Proofs.YthmfhhkedmloeaaDoor.Given Go.Proofs.YthmfhhkedmloeaaDoor.PInodeBack
set_option linter.unusedVariables false
set_option linter.unusedSimpArgs false
theorem wpList_load_rowG {P : Program} {ops : Array Oper} {rest : List Oper} {o : Oper} {a : Act} {w : World} {Q : Exit → Act → World → Prop} (hw : Region.wanted o (yielded ops a.tmps) = true) (ty : TypeId) (x : Operand) (ho : o.op = .load ty x)
    (g : Nat) (hx : a.eval x = .pointer (some ⟨g, 0, none⟩)) (t : TypeId) (cs : Array Value) (fr : Nat × Nat) (d : TypeDesc) (hg : w.heap[g]? = some (.cells cs t fr))
    (hu : P.underlying ty = some d) (hd : (match d with | .struct _ | .array _ _ => true | _ => false) = true) (hi : (P.info? ty).map (·.size) = some cs.size)
    (h : wpList P ops Q rest (a.put o.dst (.agg cs)) w) : wpList P ops Q (o :: rest) a w :=
  wpList_step fun K hK => by rw [if_pos hw]; exact wp_load_row ty x ho g hx t cs fr d hg hu hd hi (hK _ _ h)
theorem rec_eq' (n : Nat) (w : World) (L M : List Int) (hL : L.length = 21) (hM : M.length = 21) : (Op.equalIn (n + 3) 24 (.agg (encs (Value.int .i64) L).toArray) (.agg (encs (Value.int .i64) M).toArray)).run Tryd.prog w = .ok (decide (L = M)) w := rec_eq n w L M hL hM
theorem get_at (n : Nat) (A : Option Addr) (c : Nat) (l R : List Int) (ok : Bool) (w : World) (hn : l.length = n) (hr : Kd.C (Kd.int .u8) w A l.length l) (hc : l.length ≤ c) (h : inode_Get.f l = (R, ok)) :
    Calls Tryd.prog 10 #[.slice A n c] w fun e w' => e = .returned (.tuple #[.agg (encs (Value.int .i64) R).toArray, .bool ok]) ∧ Below w.heap.size w w' := by
  subst hn; exact inode_Get.calls A c l R ok w hr hc h
theorem same_at (k n n' : Nat) (A B : Option Addr) (c d : Nat) (x y : List Int) (w : World) (hx : x.length = n) (hy : y.length = n') (h1 : Kd.C (Kd.int .u8) w A x.length x) (c1 : x.length ≤ c) (h2 : Kd.C (Kd.int .u8) w B y.length y) (c2 : y.length ≤ d) (h : moraineref00_SameBytes.f k x y = some true) :
    Calls Tryd.prog 12 #[.slice A n c, .slice B n' d] w fun e w' => e = .returned (.bool true) ∧ Drawn0 w w' := by
  subst hx; subst hy
  exact moraineref00_SameBytes.calls k _ _ x _ _ y true w h1 c1 h2 c2 h
theorem samei_at (k n n' : Nat) (A B : Option Addr) (c d : Nat) (x y : List Int) (w : World) (hx : x.length = n) (hy : y.length = n') (h1 : Kd.C (Kd.int .i64) w A x.length x) (c1 : x.length ≤ c) (h2 : Kd.C (Kd.int .i64) w B y.length y) (c2 : y.length ≤ d) (h : moraineref00_SameInts.f k x y = some true) :
    Calls Tryd.prog 15 #[.slice A n c, .slice B n' d] w fun e w' => e = .returned (.bool true) ∧ Drawn0 w w' := by
  subst hx; subst hy
  exact moraineref00_SameInts.calls k _ _ x _ _ y true w h1 c1 h2 c2 h
theorem pp_at (k n : Nat) (A : Option Addr) (c : Nat) (l Q : List Int) (ok : Bool) (w : World) (hn : l.length = n) (hr : Kd.C (Kd.int .i64) w A l.length l) (hc : l.length ≤ c) (h : inode_PutPointers.f k l = some (Q, ok)) :
    Calls Tryd.prog 13 #[.slice A n c] w fun e w' => ∃ v0 : Value, e = .returned (.tuple #[v0, .bool ok]) ∧ RU w' w.heap.size v0 Q ∧ Below w.heap.size w w' := by
  subst hn; exact inode_PutPointers.calls k A c l Q ok w hr hc h
theorem gp_at (n : Nat) (A : Option Addr) (c : Nat) (l : List Int) (w : World) (hn : l.length = n) (h56 : n = 56) (hr : Kd.C (Kd.int .u8) w A l.length l) (hc : l.length ≤ c) :
    Calls Tryd.prog 14 #[.slice A n c] w fun e w' => ∃ v0 : Value, e = .returned (.tuple #[v0, .bool true]) ∧ Kd.R (Kd.int .i64) 3 w' w.heap.size (fun _ => True) v0 (ptrs l 28) ∧ Below w.heap.size w w' := by
  subst hn; exact inode_GetPointers.calls A c l _ _ w hr hc (by unfold inode_GetPointers.f; rw [if_pos h56])
theorem hsz (L : List Int) (hL : L.length = 21) : (Tryd.prog.info? 24).map (·.size) = some (encs (Value.int .i64) L).toArray.size := by
  rw [show (encs (Value.int .i64) L).toArray.size = 21 from by rw [List.size_toArray, encs_length]; exact hL]
  kernel_rfl
theorem Keep.row {wd w : World} {cs : Array Value} {t : Nat} (h : Keep wd cs t w) {g : Nat} (hg : wd.heap.size < g) (X : Array Value) : Keep wd cs t (w.setRow g X) :=
  ⟨(setRow_other _ g _ _ (by omega)).trans h.1, below_setRow h.2 (by omega) _⟩
theorem Keep.drewN {wd w : World} {cs : Array Value} {t : Nat} (h : Keep wd cs t w) (n : Nat) : Keep wd cs t (w.drewN n) := ⟨h.1, pw_below_drewN h.2 n⟩
set_option maxHeartbeats 2000000 in
theorem walk_ttt (K : Nat) (l M b : List Int) (n m : Nat) (Ab Am : Option Addr) (cb cm : Nat) (w : World) (hCb : Kd.C (Kd.int .u8) w Ab b.length b) (hMb : b.length ≤ cb) (hCm : Kd.C (Kd.int .i64) w Am M.length M) (hMm : M.length ≤ cm) (hl : l.length = 21) (hM : M.length = n) (hb : b.length = m) (hn : ¬ 1000 < n) (hm : ¬ 1000 < m) (P : List Int) (hp : inode_Put.f l = (P, true)) (hP : P.length = 56) (hgp : inode_Get.f P = (l, true)) (R : List Int) (hR : R.length = 21) (hgb : inode_Get.f b = (R, true)) (hpr : inode_Put.f R = (b, true)) (hsb : moraineref00_SameBytes.f K b b = some true) (Q D : List Int) (hq : inode_PutPointers.f K M = some (Q, true)) (hQ : Q.length = 56) (hd : ptrs Q 28 = D) (hD : D.length = 28) (hn28 : n ≤ 28) (htk : D.take n = M) (hz : ∀ i, n ≤ i → i < 28 → D.getD i 0 = 0) (hsi : moraineref00_SameInts.f K M M = some true) :
    Calls Tryd.prog 5 #[.agg (encs (Value.int .i64) l).toArray, .slice Am n cm, .slice Ab m cb] w fun e w' => e = .returned (.bool true) ∧ Below w.heap.size w w' := by
  have HCb := Lib.hid hCb; have HMb := Lib.hid hMb; have HCm := Lib.hid hCm; have HMm := Lib.hid hMm; have HSl := Lib.hid (hsz l hl); have HSR := Lib.hid (hsz R hR)
  have hl' := Lib.hid hl
  have hM' := Lib.hid hM
  have hb' := Lib.hid hb
  have hp' := Lib.hid hp
  have hR' := Lib.hid hR
  have hgb' := Lib.hid hgb
  have hq' := Lib.hid hq
  have hP' := Lib.hid hP
  have hgp' := Lib.hid hgp
  have hpr' := Lib.hid hpr
  have hsb' := Lib.hid hsb
  have hQ' := Lib.hid hQ
  have hd' := Lib.hid hd
  have hD' := Lib.hid hD
  have htk' := Lib.hid htk
  have hz' := Lib.hid hz
  have hsi' := Lib.hid hsi
  clear hCb hMb hCm hMm hl hM hb hp hR hgb hq hP hgp hpr hsb hQ hd hD htk hz hsi
  go_enter Tryd.func5, Tryd.ntmps5
  go_wp2_with (first | ((with_reducible refine gate_dst (N := 3) rfl ?_); refine box_event ?hg (N := 3) ?hd (cs := (encs (Value.int .i64) l).toArray) (t := 24) ?hr ?_; (case hd => rfl); (case hg => rfl); (case hr => first | (go_simp; done) | (go_simp; rfl)); intro gb hg_ w0 hbox hb; subst hg_; have HK : Hid (Keep w (encs (Value.int .i64) l).toArray 24 w0) := ⟨hbox, hb⟩; clear hbox hb))
  refine (morainelaw14_alive.calls true _ rfl).mono ?_
  rintro e w1 ⟨rfl, hB⟩
  have t_ := Lib.hid (Keep.step HK.out hB); clear HK; have HK := t_; clear t_ hB
  go_wp2_with (first | ((with_reducible refine gate_dst (N := 29) rfl ?_); refine wpList_load_row rfl 24 (.tmp 3) rfl w.heap.size rfl 24 (encs (Value.int .i64) l).toArray (0, 0) _ HK.out.1 Tryd.underlying24 rfl HSl.out ?_))
  refine (inode_Put.calls l hl'.out _).mono ?_
  rintro e w2 ⟨v0, rfl, hR2, hB⟩
  rw [hp'.out] at hR2 ⊢
  have hR3 : RU w2 _ v0 P := hR2
  obtain ⟨A1, c1, rfl⟩ := Kd.R_slice hR3
  have CP := Lib.hid (Kd.R_reads' hR3).2.2
  have MP := Lib.hid (Kd.R_reads' hR3).2.1
  rw [hP'.out]
  have t_ := Lib.hid (Keep.step HK.out hB); clear HK; have HK := t_; clear t_ hB
  clear hR2 hR3
  go_wp2_with fail
  refine (get_at 56 A1 c1 P l true _ hP'.out CP.out MP.out hgp'.out).mono ?_
  rintro e w3 ⟨rfl, hB⟩
  have t_ := Lib.hid (Keep.step HK.out hB); clear HK; have HK := t_; clear t_ hB
  go_wp2_with (first | ((with_reducible refine gate_dst (N := 9) rfl ?_); refine box_event ?hg (N := 9) ?hd (cs := (List.replicate 21 (Value.int .i64 0)).toArray) (t := 24) ?hr ?_; (case hd => rfl); (case hg => rfl); (case hr => first | (go_simp; done) | (go_simp; rfl)); intro g9 hg_ w4 hbox hb; have HSg9 := Lib.hid hbox; have HGg9 : Hid (w.heap.size < g9) := by { rw [hg_]; exact (Array.getElem?_eq_some_iff.1 HK.out.1).1 }; have t_ := Lib.hid (Keep.step HK.out hb); clear HK; have HK := t_; clear t_ hbox hb hg_) | (refine wpList_store_row rfl 24 (.tmp 9) (.tmp 37) rfl g9 (encs (Value.int .i64) l).toArray rfl rfl 24 _ HSg9.out HSl.out (by rw [List.size_toArray, List.size_toArray, encs_length, hl'.out]; rfl) (encs_one l) ?_) | ((with_reducible refine gate_dst (N := 42) rfl ?_); refine wpList_load_rowG (by first | rfl | (go_simp; done)) 24 (.tmp 9) rfl g9 rfl 24 (encs (Value.int .i64) l).toArray (0, 0) _ (setRow_heap _ g9 _ _ _ _ HSg9.out) Tryd.underlying24 rfl HSl.out ?_) | ((with_reducible refine gate_dst (N := 43) rfl ?_); refine wpList_load_rowG (by first | rfl | (go_simp; done)) 24 (.tmp 3) rfl w.heap.size rfl 24 (encs (Value.int .i64) l).toArray (0, 0) _ (Keep.row HK.out HGg9.out _).1 Tryd.underlying24 rfl HSl.out ?_; have heq := fun n W => rec_eq' n W l l hl'.out hl'.out; rw [decide_eq_true rfl] at heq))
  have t_ := Lib.hid (Keep.row HK.out HGg9.out (encs (Value.int .i64) l).toArray); clear HK; have HK := t_; clear t_
  refine (get_at m Ab cb b R true _ hb'.out (Kd.C_below HCb.out HK.out.2) HMb.out hgb'.out).mono ?_
  rintro e w5 ⟨rfl, hB⟩
  have t_ := Lib.hid (Keep.step HK.out hB); clear HK; have HK := t_; clear t_ hB
  go_wp2_with (first | ((with_reducible refine gate_dst (N := 11) rfl ?_); refine box_event ?hg (N := 11) ?hd (cs := (List.replicate 21 (Value.int .i64 0)).toArray) (t := 24) ?hr ?_; (case hd => rfl); (case hg => rfl); (case hr => first | (go_simp; done) | (go_simp; rfl)); intro g11 hg_ w6 hbox hb; have HSg11 := Lib.hid hbox; have HGg11 : Hid (w.heap.size < g11) := by { rw [hg_]; exact (Array.getElem?_eq_some_iff.1 HK.out.1).1 }; have t_ := Lib.hid (Keep.step HK.out hb); clear HK; have HK := t_; clear t_ hbox hb hg_) | (refine wpList_store_row rfl 24 (.tmp 11) (.tmp 49) rfl g11 (encs (Value.int .i64) R).toArray rfl rfl 24 _ HSg11.out HSR.out (by rw [List.size_toArray, List.size_toArray, encs_length, hR'.out]; rfl) (encs_one R) ?_) | ((with_reducible refine gate_dst (N := 53) rfl ?_); refine wpList_load_row rfl 24 (.tmp 11) rfl g11 rfl 24 (encs (Value.int .i64) R).toArray (0, 0) _ (setRow_heap _ g11 _ _ _ _ HSg11.out) Tryd.underlying24 rfl HSR.out ?_))
  have t_ := Lib.hid (Keep.row HK.out HGg11.out (encs (Value.int .i64) R).toArray); clear HK; have HK := t_; clear t_
  refine (inode_Put.calls R hR'.out _).mono ?_
  rintro e w7 ⟨v1, rfl, hR2, hB⟩
  rw [hpr'.out] at hR2 ⊢
  have hR3 : RU w7 _ v1 b := hR2
  obtain ⟨A2, c2, rfl⟩ := Kd.R_slice hR3
  have CY := Lib.hid (Kd.R_reads' hR3).2.2
  have MY := Lib.hid (Kd.R_reads' hR3).2.1
  rw [hb'.out]
  have t_ := Lib.hid (Keep.step HK.out hB); clear HK; have HK := t_; clear t_ hB
  clear hR2 hR3
  go_wp2_with fail
  refine (same_at K m m A2 Ab c2 cb b b _ hb'.out hb'.out CY.out MY.out (Kd.C_below HCb.out HK.out.2) HMb.out hsb'.out).mono ?_
  rintro e w8 ⟨rfl, nd, rfl⟩
  have t_ := Lib.hid (Keep.drewN HK.out nd); clear HK; have HK := t_; clear t_
  go_wp2_with fail
  refine (pp_at K n Am cm M Q true _ hM'.out (Kd.C_below HCm.out HK.out.2) HMm.out hq'.out).mono ?_
  rintro e w9 ⟨v2, rfl, hR2, hB⟩
  obtain ⟨A3, c3, rfl⟩ := Kd.R_slice hR2
  have t_ := Lib.hid (Keep.step HK.out hB); clear HK; have HK := t_; clear t_ hB
  have CQ := Lib.hid (Kd.R_reads' hR2).2.2
  have MQ := Lib.hid (Kd.R_reads' hR2).2.1
  rw [hQ'.out]
  clear hR2
  go_wp2_with fail
  refine (gp_at 56 A3 c3 Q _ hQ'.out rfl CQ.out MQ.out).mono ?_
  rintro e w10 ⟨v3, rfl, hR2, hB⟩
  rw [hd'.out] at hR2
  obtain ⟨A4, c4, rfl⟩ := Kd.R_slice hR2
  have CD := Lib.hid (Kd.R_reads' hR2).2.2
  have MD := Lib.hid (Kd.R_reads' hR2).2.1
  have t_ := Lib.hid (Keep.step HK.out hB); clear HK; have HK := t_; clear t_ hB
  clear hR2
  rw [hD'.out]
  obtain ⟨i0, hi0, _, hsz0, _⟩ := info_parts infoI64
  obtain ⟨hcut, hA, hC4⟩ := print_take_of (P := Tryd.prog) (Value.int .i64) 0 35 3 .i64 Tryd.underlying35 hi0 hsz0 A4 c4 D (n : Int) (by omega) (by rw [hD'.out]; omega) MD.out
  rw [Int.toNat_natCast, htk'.out] at hcut hA hC4
  rw [hD'.out, hM'.out] at hcut
  have CT := Lib.hid (Kd.C_of_reads (h1 := fun _ => rfl) (hA _ (Kd.reads_of_C CD.out)))
  have MT := Lib.hid hC4
  clear hA hC4 hi0 hsz0
  go_wp2_with fail
  refine (samei_at K n n A4 Am c4 cm M M _ hM'.out hM'.out CT.out MT.out (Kd.C_below HCm.out HK.out.2) HMm.out hsi'.out).mono ?_
  rintro e w11 ⟨rfl, nd, rfl⟩
  have t_ := Lib.hid (Keep.drewN HK.out nd); clear HK; have HK := t_; clear t_
  obtain ⟨ad, ead, hcl⟩ := (Kd.reads_of_C (d := (0 : Int)) (Kd.C_drewN CD.out nd)).2.2 (by rw [hD'.out]; decide)
  subst ead
  have HCL : Hid (∀ j, j < 28 → (World.drewN w10 nd).cell? (ad.add j) = some (.int .i64 (D.getD j 0))) := fun j hj => hcl j (by rw [hD'.out]; exact hj)
  clear hcl hcut CT MT CD MD
  generalize World.drewN w10 nd = W5 at HK HCL ⊢
  go_wp2_with fail
  go_loopg [17] 28 (fun g s17 wr => W5 = wr ∧ ∃ i : Nat, n ≤ i ∧ i ≤ 28 ∧ 28 - i ≤ g ∧ s17 = .int .i64 i)
  case atStart => exact ⟨rfl, n, Nat.le_refl _, hn28, by omega, rfl⟩
  case round =>
    obtain ⟨rfl, i, hi0, hi1, hg, rfl⟩ := hrel
    by_cases hlt : i < 28
    · have hck : W5.cell? (ad.add i) = some (.int .i64 0) := (HCL.out i hlt).trans (by rw [hz'.out i hi0 hlt])
      go_wp2
      go_roundg (28 - (i + 1))
      case measure => omega
      case rel => exact ⟨rfl, i + 1, by omega, by omega, Nat.le_refl _, by go_num⟩
    · go_wp2
      go_ret
      exact ⟨rfl, HK.out.2⟩
set_option maxHeartbeats 2000000 in
theorem walk_ttf (K : Nat) (l M b : List Int) (n m : Nat) (Ab Am : Option Addr) (cb cm : Nat) (w : World) (hCb : Kd.C (Kd.int .u8) w Ab b.length b) (hMb : b.length ≤ cb) (hCm : Kd.C (Kd.int .i64) w Am M.length M) (hMm : M.length ≤ cm) (hl : l.length = 21) (hM : M.length = n) (hb : b.length = m) (hn : ¬ 1000 < n) (hm : ¬ 1000 < m) (P : List Int) (hp : inode_Put.f l = (P, true)) (hP : P.length = 56) (hgp : inode_Get.f P = (l, true)) (R : List Int) (hR : R.length = 21) (hgb : inode_Get.f b = (R, true)) (hpr : inode_Put.f R = (b, true)) (hsb : moraineref00_SameBytes.f K b b = some true) (hq : inode_PutPointers.f K M = some ([], false)) :
    Calls Tryd.prog 5 #[.agg (encs (Value.int .i64) l).toArray, .slice Am n cm, .slice Ab m cb] w fun e w' => e = .returned (.bool true) ∧ Below w.heap.size w w' := by
  have HCb := Lib.hid hCb; have HMb := Lib.hid hMb; have HCm := Lib.hid hCm; have HMm := Lib.hid hMm; have HSl := Lib.hid (hsz l hl); have HSR := Lib.hid (hsz R hR)
  have hl' := Lib.hid hl
  have hM' := Lib.hid hM
  have hb' := Lib.hid hb
  have hp' := Lib.hid hp
  have hR' := Lib.hid hR
  have hgb' := Lib.hid hgb
  have hq' := Lib.hid hq
  have hP' := Lib.hid hP
  have hgp' := Lib.hid hgp
  have hpr' := Lib.hid hpr
  have hsb' := Lib.hid hsb
  clear hCb hMb hCm hMm hl hM hb hp hR hgb hq hP hgp hpr hsb
  go_enter Tryd.func5, Tryd.ntmps5
  go_wp2_with (first | ((with_reducible refine gate_dst (N := 3) rfl ?_); refine box_event ?hg (N := 3) ?hd (cs := (encs (Value.int .i64) l).toArray) (t := 24) ?hr ?_; (case hd => rfl); (case hg => rfl); (case hr => first | (go_simp; done) | (go_simp; rfl)); intro gb hg_ w0 hbox hb; subst hg_; have HK : Hid (Keep w (encs (Value.int .i64) l).toArray 24 w0) := ⟨hbox, hb⟩; clear hbox hb))
  refine (morainelaw14_alive.calls true _ rfl).mono ?_
  rintro e w1 ⟨rfl, hB⟩
  have t_ := Lib.hid (Keep.step HK.out hB); clear HK; have HK := t_; clear t_ hB
  go_wp2_with (first | ((with_reducible refine gate_dst (N := 29) rfl ?_); refine wpList_load_row rfl 24 (.tmp 3) rfl w.heap.size rfl 24 (encs (Value.int .i64) l).toArray (0, 0) _ HK.out.1 Tryd.underlying24 rfl HSl.out ?_))
  refine (inode_Put.calls l hl'.out _).mono ?_
  rintro e w2 ⟨v0, rfl, hR2, hB⟩
  rw [hp'.out] at hR2 ⊢
  have hR3 : RU w2 _ v0 P := hR2
  obtain ⟨A1, c1, rfl⟩ := Kd.R_slice hR3
  have CP := Lib.hid (Kd.R_reads' hR3).2.2
  have MP := Lib.hid (Kd.R_reads' hR3).2.1
  rw [hP'.out]
  have t_ := Lib.hid (Keep.step HK.out hB); clear HK; have HK := t_; clear t_ hB
  clear hR2 hR3
  go_wp2_with fail
  refine (get_at 56 A1 c1 P l true _ hP'.out CP.out MP.out hgp'.out).mono ?_
  rintro e w3 ⟨rfl, hB⟩
  have t_ := Lib.hid (Keep.step HK.out hB); clear HK; have HK := t_; clear t_ hB
  go_wp2_with (first | ((with_reducible refine gate_dst (N := 9) rfl ?_); refine box_event ?hg (N := 9) ?hd (cs := (List.replicate 21 (Value.int .i64 0)).toArray) (t := 24) ?hr ?_; (case hd => rfl); (case hg => rfl); (case hr => first | (go_simp; done) | (go_simp; rfl)); intro g9 hg_ w4 hbox hb; have HSg9 := Lib.hid hbox; have HGg9 : Hid (w.heap.size < g9) := by { rw [hg_]; exact (Array.getElem?_eq_some_iff.1 HK.out.1).1 }; have t_ := Lib.hid (Keep.step HK.out hb); clear HK; have HK := t_; clear t_ hbox hb hg_) | (refine wpList_store_row rfl 24 (.tmp 9) (.tmp 37) rfl g9 (encs (Value.int .i64) l).toArray rfl rfl 24 _ HSg9.out HSl.out (by rw [List.size_toArray, List.size_toArray, encs_length, hl'.out]; rfl) (encs_one l) ?_) | ((with_reducible refine gate_dst (N := 42) rfl ?_); refine wpList_load_rowG (by first | rfl | (go_simp; done)) 24 (.tmp 9) rfl g9 rfl 24 (encs (Value.int .i64) l).toArray (0, 0) _ (setRow_heap _ g9 _ _ _ _ HSg9.out) Tryd.underlying24 rfl HSl.out ?_) | ((with_reducible refine gate_dst (N := 43) rfl ?_); refine wpList_load_rowG (by first | rfl | (go_simp; done)) 24 (.tmp 3) rfl w.heap.size rfl 24 (encs (Value.int .i64) l).toArray (0, 0) _ (Keep.row HK.out HGg9.out _).1 Tryd.underlying24 rfl HSl.out ?_; have heq := fun n W => rec_eq' n W l l hl'.out hl'.out; rw [decide_eq_true rfl] at heq))
  have t_ := Lib.hid (Keep.row HK.out HGg9.out (encs (Value.int .i64) l).toArray); clear HK; have HK := t_; clear t_
  refine (get_at m Ab cb b R true _ hb'.out (Kd.C_below HCb.out HK.out.2) HMb.out hgb'.out).mono ?_
  rintro e w5 ⟨rfl, hB⟩
  have t_ := Lib.hid (Keep.step HK.out hB); clear HK; have HK := t_; clear t_ hB
  go_wp2_with (first | ((with_reducible refine gate_dst (N := 11) rfl ?_); refine box_event ?hg (N := 11) ?hd (cs := (List.replicate 21 (Value.int .i64 0)).toArray) (t := 24) ?hr ?_; (case hd => rfl); (case hg => rfl); (case hr => first | (go_simp; done) | (go_simp; rfl)); intro g11 hg_ w6 hbox hb; have HSg11 := Lib.hid hbox; have HGg11 : Hid (w.heap.size < g11) := by { rw [hg_]; exact (Array.getElem?_eq_some_iff.1 HK.out.1).1 }; have t_ := Lib.hid (Keep.step HK.out hb); clear HK; have HK := t_; clear t_ hbox hb hg_) | (refine wpList_store_row rfl 24 (.tmp 11) (.tmp 49) rfl g11 (encs (Value.int .i64) R).toArray rfl rfl 24 _ HSg11.out HSR.out (by rw [List.size_toArray, List.size_toArray, encs_length, hR'.out]; rfl) (encs_one R) ?_) | ((with_reducible refine gate_dst (N := 53) rfl ?_); refine wpList_load_row rfl 24 (.tmp 11) rfl g11 rfl 24 (encs (Value.int .i64) R).toArray (0, 0) _ (setRow_heap _ g11 _ _ _ _ HSg11.out) Tryd.underlying24 rfl HSR.out ?_))
  have t_ := Lib.hid (Keep.row HK.out HGg11.out (encs (Value.int .i64) R).toArray); clear HK; have HK := t_; clear t_
  refine (inode_Put.calls R hR'.out _).mono ?_
  rintro e w7 ⟨v1, rfl, hR2, hB⟩
  rw [hpr'.out] at hR2 ⊢
  have hR3 : RU w7 _ v1 b := hR2
  obtain ⟨A2, c2, rfl⟩ := Kd.R_slice hR3
  have CY := Lib.hid (Kd.R_reads' hR3).2.2
  have MY := Lib.hid (Kd.R_reads' hR3).2.1
  rw [hb'.out]
  have t_ := Lib.hid (Keep.step HK.out hB); clear HK; have HK := t_; clear t_ hB
  clear hR2 hR3
  go_wp2_with fail
  refine (same_at K m m A2 Ab c2 cb b b _ hb'.out hb'.out CY.out MY.out (Kd.C_below HCb.out HK.out.2) HMb.out hsb'.out).mono ?_
  rintro e w8 ⟨rfl, nd, rfl⟩
  have t_ := Lib.hid (Keep.drewN HK.out nd); clear HK; have HK := t_; clear t_
  go_wp2_with fail
  refine (pp_at K n Am cm M [] false _ hM'.out (Kd.C_below HCm.out HK.out.2) HMm.out hq'.out).mono ?_
  rintro e w9 ⟨v2, rfl, hR2, hB⟩
  obtain ⟨A3, c3, rfl⟩ := Kd.R_slice hR2
  have t_ := Lib.hid (Keep.step HK.out hB); clear HK; have HK := t_; clear t_ hB
  clear hR2
  go_wp2
  go_ret
  exact ⟨rfl, HK.out.2⟩
set_option maxHeartbeats 2000000 in
theorem walk_tft (K : Nat) (l M b : List Int) (n m : Nat) (Ab Am : Option Addr) (cb cm : Nat) (w : World) (hCb : Kd.C (Kd.int .u8) w Ab b.length b) (hMb : b.length ≤ cb) (hCm : Kd.C (Kd.int .i64) w Am M.length M) (hMm : M.length ≤ cm) (hl : l.length = 21) (hM : M.length = n) (hb : b.length = m) (hn : ¬ 1000 < n) (hm : ¬ 1000 < m) (P : List Int) (hp : inode_Put.f l = (P, true)) (hP : P.length = 56) (hgp : inode_Get.f P = (l, true)) (R : List Int) (hR : R.length = 21) (hgb : inode_Get.f b = (R, false)) (Q D : List Int) (hq : inode_PutPointers.f K M = some (Q, true)) (hQ : Q.length = 56) (hd : ptrs Q 28 = D) (hD : D.length = 28) (hn28 : n ≤ 28) (htk : D.take n = M) (hz : ∀ i, n ≤ i → i < 28 → D.getD i 0 = 0) (hsi : moraineref00_SameInts.f K M M = some true) :
    Calls Tryd.prog 5 #[.agg (encs (Value.int .i64) l).toArray, .slice Am n cm, .slice Ab m cb] w fun e w' => e = .returned (.bool true) ∧ Below w.heap.size w w' := by
  have HCb := Lib.hid hCb; have HMb := Lib.hid hMb; have HCm := Lib.hid hCm; have HMm := Lib.hid hMm; have HSl := Lib.hid (hsz l hl); have HSR := Lib.hid (hsz R hR)
  have hl' := Lib.hid hl
  have hM' := Lib.hid hM
  have hb' := Lib.hid hb
  have hp' := Lib.hid hp
  have hR' := Lib.hid hR
  have hgb' := Lib.hid hgb
  have hq' := Lib.hid hq
  have hP' := Lib.hid hP
  have hgp' := Lib.hid hgp
  have hQ' := Lib.hid hQ
  have hd' := Lib.hid hd
  have hD' := Lib.hid hD
  have htk' := Lib.hid htk
  have hz' := Lib.hid hz
  have hsi' := Lib.hid hsi
  clear hCb hMb hCm hMm hl hM hb hp hR hgb hq hP hgp hQ hd hD htk hz hsi
  go_enter Tryd.func5, Tryd.ntmps5
  go_wp2_with (first | ((with_reducible refine gate_dst (N := 3) rfl ?_); refine box_event ?hg (N := 3) ?hd (cs := (encs (Value.int .i64) l).toArray) (t := 24) ?hr ?_; (case hd => rfl); (case hg => rfl); (case hr => first | (go_simp; done) | (go_simp; rfl)); intro gb hg_ w0 hbox hb; subst hg_; have HK : Hid (Keep w (encs (Value.int .i64) l).toArray 24 w0) := ⟨hbox, hb⟩; clear hbox hb))
  refine (morainelaw14_alive.calls true _ rfl).mono ?_
  rintro e w1 ⟨rfl, hB⟩
  have t_ := Lib.hid (Keep.step HK.out hB); clear HK; have HK := t_; clear t_ hB
  go_wp2_with (first | ((with_reducible refine gate_dst (N := 29) rfl ?_); refine wpList_load_row rfl 24 (.tmp 3) rfl w.heap.size rfl 24 (encs (Value.int .i64) l).toArray (0, 0) _ HK.out.1 Tryd.underlying24 rfl HSl.out ?_))
  refine (inode_Put.calls l hl'.out _).mono ?_
  rintro e w2 ⟨v0, rfl, hR2, hB⟩
  rw [hp'.out] at hR2 ⊢
  have hR3 : RU w2 _ v0 P := hR2
  obtain ⟨A1, c1, rfl⟩ := Kd.R_slice hR3
  have CP := Lib.hid (Kd.R_reads' hR3).2.2
  have MP := Lib.hid (Kd.R_reads' hR3).2.1
  rw [hP'.out]
  have t_ := Lib.hid (Keep.step HK.out hB); clear HK; have HK := t_; clear t_ hB
  clear hR2 hR3
  go_wp2_with fail
  refine (get_at 56 A1 c1 P l true _ hP'.out CP.out MP.out hgp'.out).mono ?_
  rintro e w3 ⟨rfl, hB⟩
  have t_ := Lib.hid (Keep.step HK.out hB); clear HK; have HK := t_; clear t_ hB
  go_wp2_with (first | ((with_reducible refine gate_dst (N := 9) rfl ?_); refine box_event ?hg (N := 9) ?hd (cs := (List.replicate 21 (Value.int .i64 0)).toArray) (t := 24) ?hr ?_; (case hd => rfl); (case hg => rfl); (case hr => first | (go_simp; done) | (go_simp; rfl)); intro g9 hg_ w4 hbox hb; have HSg9 := Lib.hid hbox; have HGg9 : Hid (w.heap.size < g9) := by { rw [hg_]; exact (Array.getElem?_eq_some_iff.1 HK.out.1).1 }; have t_ := Lib.hid (Keep.step HK.out hb); clear HK; have HK := t_; clear t_ hbox hb hg_) | (refine wpList_store_row rfl 24 (.tmp 9) (.tmp 37) rfl g9 (encs (Value.int .i64) l).toArray rfl rfl 24 _ HSg9.out HSl.out (by rw [List.size_toArray, List.size_toArray, encs_length, hl'.out]; rfl) (encs_one l) ?_) | ((with_reducible refine gate_dst (N := 42) rfl ?_); refine wpList_load_rowG (by first | rfl | (go_simp; done)) 24 (.tmp 9) rfl g9 rfl 24 (encs (Value.int .i64) l).toArray (0, 0) _ (setRow_heap _ g9 _ _ _ _ HSg9.out) Tryd.underlying24 rfl HSl.out ?_) | ((with_reducible refine gate_dst (N := 43) rfl ?_); refine wpList_load_rowG (by first | rfl | (go_simp; done)) 24 (.tmp 3) rfl w.heap.size rfl 24 (encs (Value.int .i64) l).toArray (0, 0) _ (Keep.row HK.out HGg9.out _).1 Tryd.underlying24 rfl HSl.out ?_; have heq := fun n W => rec_eq' n W l l hl'.out hl'.out; rw [decide_eq_true rfl] at heq))
  have t_ := Lib.hid (Keep.row HK.out HGg9.out (encs (Value.int .i64) l).toArray); clear HK; have HK := t_; clear t_
  refine (get_at m Ab cb b R false _ hb'.out (Kd.C_below HCb.out HK.out.2) HMb.out hgb'.out).mono ?_
  rintro e w5 ⟨rfl, hB⟩
  have t_ := Lib.hid (Keep.step HK.out hB); clear HK; have HK := t_; clear t_ hB
  go_wp2_with (first | ((with_reducible refine gate_dst (N := 11) rfl ?_); refine box_event ?hg (N := 11) ?hd (cs := (List.replicate 21 (Value.int .i64 0)).toArray) (t := 24) ?hr ?_; (case hd => rfl); (case hg => rfl); (case hr => first | (go_simp; done) | (go_simp; rfl)); intro g11 hg_ w6 hbox hb; have HSg11 := Lib.hid hbox; have HGg11 : Hid (w.heap.size < g11) := by { rw [hg_]; exact (Array.getElem?_eq_some_iff.1 HK.out.1).1 }; have t_ := Lib.hid (Keep.step HK.out hb); clear HK; have HK := t_; clear t_ hbox hb hg_) | (refine wpList_store_row rfl 24 (.tmp 11) (.tmp 49) rfl g11 (encs (Value.int .i64) R).toArray rfl rfl 24 _ HSg11.out HSR.out (by rw [List.size_toArray, List.size_toArray, encs_length, hR'.out]; rfl) (encs_one R) ?_))
  have t_ := Lib.hid (Keep.row HK.out HGg11.out (encs (Value.int .i64) R).toArray); clear HK; have HK := t_; clear t_
  refine (pp_at K n Am cm M Q true _ hM'.out (Kd.C_below HCm.out HK.out.2) HMm.out hq'.out).mono ?_
  rintro e w9 ⟨v2, rfl, hR2, hB⟩
  obtain ⟨A3, c3, rfl⟩ := Kd.R_slice hR2
  have t_ := Lib.hid (Keep.step HK.out hB); clear HK; have HK := t_; clear t_ hB
  have CQ := Lib.hid (Kd.R_reads' hR2).2.2
  have MQ := Lib.hid (Kd.R_reads' hR2).2.1
  rw [hQ'.out]
  clear hR2
  go_wp2_with fail
  refine (gp_at 56 A3 c3 Q _ hQ'.out rfl CQ.out MQ.out).mono ?_
  rintro e w10 ⟨v3, rfl, hR2, hB⟩
  rw [hd'.out] at hR2
  obtain ⟨A4, c4, rfl⟩ := Kd.R_slice hR2
  have CD := Lib.hid (Kd.R_reads' hR2).2.2
  have MD := Lib.hid (Kd.R_reads' hR2).2.1
  have t_ := Lib.hid (Keep.step HK.out hB); clear HK; have HK := t_; clear t_ hB
  clear hR2
  rw [hD'.out]
  obtain ⟨i0, hi0, _, hsz0, _⟩ := info_parts infoI64
  obtain ⟨hcut, hA, hC4⟩ := print_take_of (P := Tryd.prog) (Value.int .i64) 0 35 3 .i64 Tryd.underlying35 hi0 hsz0 A4 c4 D (n : Int) (by omega) (by rw [hD'.out]; omega) MD.out
  rw [Int.toNat_natCast, htk'.out] at hcut hA hC4
  rw [hD'.out, hM'.out] at hcut
  have CT := Lib.hid (Kd.C_of_reads (h1 := fun _ => rfl) (hA _ (Kd.reads_of_C CD.out)))
  have MT := Lib.hid hC4
  clear hA hC4 hi0 hsz0
  go_wp2_with fail
  refine (samei_at K n n A4 Am c4 cm M M _ hM'.out hM'.out CT.out MT.out (Kd.C_below HCm.out HK.out.2) HMm.out hsi'.out).mono ?_
  rintro e w11 ⟨rfl, nd, rfl⟩
  have t_ := Lib.hid (Keep.drewN HK.out nd); clear HK; have HK := t_; clear t_
  obtain ⟨ad, ead, hcl⟩ := (Kd.reads_of_C (d := (0 : Int)) (Kd.C_drewN CD.out nd)).2.2 (by rw [hD'.out]; decide)
  subst ead
  have HCL : Hid (∀ j, j < 28 → (World.drewN w10 nd).cell? (ad.add j) = some (.int .i64 (D.getD j 0))) := fun j hj => hcl j (by rw [hD'.out]; exact hj)
  clear hcl hcut CT MT CD MD
  generalize World.drewN w10 nd = W5 at HK HCL ⊢
  go_wp2_with fail
  go_loopg [17] 28 (fun g s17 wr => W5 = wr ∧ ∃ i : Nat, n ≤ i ∧ i ≤ 28 ∧ 28 - i ≤ g ∧ s17 = .int .i64 i)
  case atStart => exact ⟨rfl, n, Nat.le_refl _, hn28, by omega, rfl⟩
  case round =>
    obtain ⟨rfl, i, hi0, hi1, hg, rfl⟩ := hrel
    by_cases hlt : i < 28
    · have hck : W5.cell? (ad.add i) = some (.int .i64 0) := (HCL.out i hlt).trans (by rw [hz'.out i hi0 hlt])
      go_wp2
      go_roundg (28 - (i + 1))
      case measure => omega
      case rel => exact ⟨rfl, i + 1, by omega, by omega, Nat.le_refl _, by go_num⟩
    · go_wp2
      go_ret
      exact ⟨rfl, HK.out.2⟩
set_option maxHeartbeats 2000000 in
theorem walk_tff (K : Nat) (l M b : List Int) (n m : Nat) (Ab Am : Option Addr) (cb cm : Nat) (w : World) (hCb : Kd.C (Kd.int .u8) w Ab b.length b) (hMb : b.length ≤ cb) (hCm : Kd.C (Kd.int .i64) w Am M.length M) (hMm : M.length ≤ cm) (hl : l.length = 21) (hM : M.length = n) (hb : b.length = m) (hn : ¬ 1000 < n) (hm : ¬ 1000 < m) (P : List Int) (hp : inode_Put.f l = (P, true)) (hP : P.length = 56) (hgp : inode_Get.f P = (l, true)) (R : List Int) (hR : R.length = 21) (hgb : inode_Get.f b = (R, false)) (hq : inode_PutPointers.f K M = some ([], false)) :
    Calls Tryd.prog 5 #[.agg (encs (Value.int .i64) l).toArray, .slice Am n cm, .slice Ab m cb] w fun e w' => e = .returned (.bool true) ∧ Below w.heap.size w w' := by
  have HCb := Lib.hid hCb; have HMb := Lib.hid hMb; have HCm := Lib.hid hCm; have HMm := Lib.hid hMm; have HSl := Lib.hid (hsz l hl); have HSR := Lib.hid (hsz R hR)
  have hl' := Lib.hid hl
  have hM' := Lib.hid hM
  have hb' := Lib.hid hb
  have hp' := Lib.hid hp
  have hR' := Lib.hid hR
  have hgb' := Lib.hid hgb
  have hq' := Lib.hid hq
  have hP' := Lib.hid hP
  have hgp' := Lib.hid hgp
  clear hCb hMb hCm hMm hl hM hb hp hR hgb hq hP hgp
  go_enter Tryd.func5, Tryd.ntmps5
  go_wp2_with (first | ((with_reducible refine gate_dst (N := 3) rfl ?_); refine box_event ?hg (N := 3) ?hd (cs := (encs (Value.int .i64) l).toArray) (t := 24) ?hr ?_; (case hd => rfl); (case hg => rfl); (case hr => first | (go_simp; done) | (go_simp; rfl)); intro gb hg_ w0 hbox hb; subst hg_; have HK : Hid (Keep w (encs (Value.int .i64) l).toArray 24 w0) := ⟨hbox, hb⟩; clear hbox hb))
  refine (morainelaw14_alive.calls true _ rfl).mono ?_
  rintro e w1 ⟨rfl, hB⟩
  have t_ := Lib.hid (Keep.step HK.out hB); clear HK; have HK := t_; clear t_ hB
  go_wp2_with (first | ((with_reducible refine gate_dst (N := 29) rfl ?_); refine wpList_load_row rfl 24 (.tmp 3) rfl w.heap.size rfl 24 (encs (Value.int .i64) l).toArray (0, 0) _ HK.out.1 Tryd.underlying24 rfl HSl.out ?_))
  refine (inode_Put.calls l hl'.out _).mono ?_
  rintro e w2 ⟨v0, rfl, hR2, hB⟩
  rw [hp'.out] at hR2 ⊢
  have hR3 : RU w2 _ v0 P := hR2
  obtain ⟨A1, c1, rfl⟩ := Kd.R_slice hR3
  have CP := Lib.hid (Kd.R_reads' hR3).2.2
  have MP := Lib.hid (Kd.R_reads' hR3).2.1
  rw [hP'.out]
  have t_ := Lib.hid (Keep.step HK.out hB); clear HK; have HK := t_; clear t_ hB
  clear hR2 hR3
  go_wp2_with fail
  refine (get_at 56 A1 c1 P l true _ hP'.out CP.out MP.out hgp'.out).mono ?_
  rintro e w3 ⟨rfl, hB⟩
  have t_ := Lib.hid (Keep.step HK.out hB); clear HK; have HK := t_; clear t_ hB
  go_wp2_with (first | ((with_reducible refine gate_dst (N := 9) rfl ?_); refine box_event ?hg (N := 9) ?hd (cs := (List.replicate 21 (Value.int .i64 0)).toArray) (t := 24) ?hr ?_; (case hd => rfl); (case hg => rfl); (case hr => first | (go_simp; done) | (go_simp; rfl)); intro g9 hg_ w4 hbox hb; have HSg9 := Lib.hid hbox; have HGg9 : Hid (w.heap.size < g9) := by { rw [hg_]; exact (Array.getElem?_eq_some_iff.1 HK.out.1).1 }; have t_ := Lib.hid (Keep.step HK.out hb); clear HK; have HK := t_; clear t_ hbox hb hg_) | (refine wpList_store_row rfl 24 (.tmp 9) (.tmp 37) rfl g9 (encs (Value.int .i64) l).toArray rfl rfl 24 _ HSg9.out HSl.out (by rw [List.size_toArray, List.size_toArray, encs_length, hl'.out]; rfl) (encs_one l) ?_) | ((with_reducible refine gate_dst (N := 42) rfl ?_); refine wpList_load_rowG (by first | rfl | (go_simp; done)) 24 (.tmp 9) rfl g9 rfl 24 (encs (Value.int .i64) l).toArray (0, 0) _ (setRow_heap _ g9 _ _ _ _ HSg9.out) Tryd.underlying24 rfl HSl.out ?_) | ((with_reducible refine gate_dst (N := 43) rfl ?_); refine wpList_load_rowG (by first | rfl | (go_simp; done)) 24 (.tmp 3) rfl w.heap.size rfl 24 (encs (Value.int .i64) l).toArray (0, 0) _ (Keep.row HK.out HGg9.out _).1 Tryd.underlying24 rfl HSl.out ?_; have heq := fun n W => rec_eq' n W l l hl'.out hl'.out; rw [decide_eq_true rfl] at heq))
  have t_ := Lib.hid (Keep.row HK.out HGg9.out (encs (Value.int .i64) l).toArray); clear HK; have HK := t_; clear t_
  refine (get_at m Ab cb b R false _ hb'.out (Kd.C_below HCb.out HK.out.2) HMb.out hgb'.out).mono ?_
  rintro e w5 ⟨rfl, hB⟩
  have t_ := Lib.hid (Keep.step HK.out hB); clear HK; have HK := t_; clear t_ hB
  go_wp2_with (first | ((with_reducible refine gate_dst (N := 11) rfl ?_); refine box_event ?hg (N := 11) ?hd (cs := (List.replicate 21 (Value.int .i64 0)).toArray) (t := 24) ?hr ?_; (case hd => rfl); (case hg => rfl); (case hr => first | (go_simp; done) | (go_simp; rfl)); intro g11 hg_ w6 hbox hb; have HSg11 := Lib.hid hbox; have HGg11 : Hid (w.heap.size < g11) := by { rw [hg_]; exact (Array.getElem?_eq_some_iff.1 HK.out.1).1 }; have t_ := Lib.hid (Keep.step HK.out hb); clear HK; have HK := t_; clear t_ hbox hb hg_) | (refine wpList_store_row rfl 24 (.tmp 11) (.tmp 49) rfl g11 (encs (Value.int .i64) R).toArray rfl rfl 24 _ HSg11.out HSR.out (by rw [List.size_toArray, List.size_toArray, encs_length, hR'.out]; rfl) (encs_one R) ?_))
  have t_ := Lib.hid (Keep.row HK.out HGg11.out (encs (Value.int .i64) R).toArray); clear HK; have HK := t_; clear t_
  refine (pp_at K n Am cm M [] false _ hM'.out (Kd.C_below HCm.out HK.out.2) HMm.out hq'.out).mono ?_
  rintro e w9 ⟨v2, rfl, hR2, hB⟩
  obtain ⟨A3, c3, rfl⟩ := Kd.R_slice hR2
  have t_ := Lib.hid (Keep.step HK.out hB); clear HK; have HK := t_; clear t_ hB
  clear hR2
  go_wp2
  go_ret
  exact ⟨rfl, HK.out.2⟩
set_option maxHeartbeats 2000000 in
theorem walk_ftt (K : Nat) (l M b : List Int) (n m : Nat) (Ab Am : Option Addr) (cb cm : Nat) (w : World) (hCb : Kd.C (Kd.int .u8) w Ab b.length b) (hMb : b.length ≤ cb) (hCm : Kd.C (Kd.int .i64) w Am M.length M) (hMm : M.length ≤ cm) (hl : l.length = 21) (hM : M.length = n) (hb : b.length = m) (hn : ¬ 1000 < n) (hm : ¬ 1000 < m) (hp : inode_Put.f l = ([], false)) (R : List Int) (hR : R.length = 21) (hgb : inode_Get.f b = (R, true)) (hpr : inode_Put.f R = (b, true)) (hsb : moraineref00_SameBytes.f K b b = some true) (Q D : List Int) (hq : inode_PutPointers.f K M = some (Q, true)) (hQ : Q.length = 56) (hd : ptrs Q 28 = D) (hD : D.length = 28) (hn28 : n ≤ 28) (htk : D.take n = M) (hz : ∀ i, n ≤ i → i < 28 → D.getD i 0 = 0) (hsi : moraineref00_SameInts.f K M M = some true) :
    Calls Tryd.prog 5 #[.agg (encs (Value.int .i64) l).toArray, .slice Am n cm, .slice Ab m cb] w fun e w' => e = .returned (.bool true) ∧ Below w.heap.size w w' := by
  have HCb := Lib.hid hCb; have HMb := Lib.hid hMb; have HCm := Lib.hid hCm; have HMm := Lib.hid hMm; have HSl := Lib.hid (hsz l hl); have HSR := Lib.hid (hsz R hR)
  have hl' := Lib.hid hl
  have hM' := Lib.hid hM
  have hb' := Lib.hid hb
  have hp' := Lib.hid hp
  have hR' := Lib.hid hR
  have hgb' := Lib.hid hgb
  have hq' := Lib.hid hq
  have hpr' := Lib.hid hpr
  have hsb' := Lib.hid hsb
  have hQ' := Lib.hid hQ
  have hd' := Lib.hid hd
  have hD' := Lib.hid hD
  have htk' := Lib.hid htk
  have hz' := Lib.hid hz
  have hsi' := Lib.hid hsi
  clear hCb hMb hCm hMm hl hM hb hp hR hgb hq hpr hsb hQ hd hD htk hz hsi
  go_enter Tryd.func5, Tryd.ntmps5
  go_wp2_with (first | ((with_reducible refine gate_dst (N := 3) rfl ?_); refine box_event ?hg (N := 3) ?hd (cs := (encs (Value.int .i64) l).toArray) (t := 24) ?hr ?_; (case hd => rfl); (case hg => rfl); (case hr => first | (go_simp; done) | (go_simp; rfl)); intro gb hg_ w0 hbox hb; subst hg_; have HK : Hid (Keep w (encs (Value.int .i64) l).toArray 24 w0) := ⟨hbox, hb⟩; clear hbox hb))
  refine (morainelaw14_alive.calls true _ rfl).mono ?_
  rintro e w1 ⟨rfl, hB⟩
  have t_ := Lib.hid (Keep.step HK.out hB); clear HK; have HK := t_; clear t_ hB
  go_wp2_with (first | ((with_reducible refine gate_dst (N := 29) rfl ?_); refine wpList_load_row rfl 24 (.tmp 3) rfl w.heap.size rfl 24 (encs (Value.int .i64) l).toArray (0, 0) _ HK.out.1 Tryd.underlying24 rfl HSl.out ?_))
  refine (inode_Put.calls l hl'.out _).mono ?_
  rintro e w2 ⟨v0, rfl, hR2, hB⟩
  rw [hp'.out] at hR2 ⊢
  obtain ⟨A1, c1, rfl⟩ := Kd.R_slice hR2
  have t_ := Lib.hid (Keep.step HK.out hB); clear HK; have HK := t_; clear t_ hB
  clear hR2
  go_wp2_with fail
  refine (get_at m Ab cb b R true _ hb'.out (Kd.C_below HCb.out HK.out.2) HMb.out hgb'.out).mono ?_
  rintro e w5 ⟨rfl, hB⟩
  have t_ := Lib.hid (Keep.step HK.out hB); clear HK; have HK := t_; clear t_ hB
  go_wp2_with (first | ((with_reducible refine gate_dst (N := 11) rfl ?_); refine box_event ?hg (N := 11) ?hd (cs := (List.replicate 21 (Value.int .i64 0)).toArray) (t := 24) ?hr ?_; (case hd => rfl); (case hg => rfl); (case hr => first | (go_simp; done) | (go_simp; rfl)); intro g11 hg_ w6 hbox hb; have HSg11 := Lib.hid hbox; have HGg11 : Hid (w.heap.size < g11) := by { rw [hg_]; exact (Array.getElem?_eq_some_iff.1 HK.out.1).1 }; have t_ := Lib.hid (Keep.step HK.out hb); clear HK; have HK := t_; clear t_ hbox hb hg_) | (refine wpList_store_row rfl 24 (.tmp 11) (.tmp 49) rfl g11 (encs (Value.int .i64) R).toArray rfl rfl 24 _ HSg11.out HSR.out (by rw [List.size_toArray, List.size_toArray, encs_length, hR'.out]; rfl) (encs_one R) ?_) | ((with_reducible refine gate_dst (N := 53) rfl ?_); refine wpList_load_row rfl 24 (.tmp 11) rfl g11 rfl 24 (encs (Value.int .i64) R).toArray (0, 0) _ (setRow_heap _ g11 _ _ _ _ HSg11.out) Tryd.underlying24 rfl HSR.out ?_))
  have t_ := Lib.hid (Keep.row HK.out HGg11.out (encs (Value.int .i64) R).toArray); clear HK; have HK := t_; clear t_
  refine (inode_Put.calls R hR'.out _).mono ?_
  rintro e w7 ⟨v1, rfl, hR2, hB⟩
  rw [hpr'.out] at hR2 ⊢
  have hR3 : RU w7 _ v1 b := hR2
  obtain ⟨A2, c2, rfl⟩ := Kd.R_slice hR3
  have CY := Lib.hid (Kd.R_reads' hR3).2.2
  have MY := Lib.hid (Kd.R_reads' hR3).2.1
  rw [hb'.out]
  have t_ := Lib.hid (Keep.step HK.out hB); clear HK; have HK := t_; clear t_ hB
  clear hR2 hR3
  go_wp2_with fail
  refine (same_at K m m A2 Ab c2 cb b b _ hb'.out hb'.out CY.out MY.out (Kd.C_below HCb.out HK.out.2) HMb.out hsb'.out).mono ?_
  rintro e w8 ⟨rfl, nd, rfl⟩
  have t_ := Lib.hid (Keep.drewN HK.out nd); clear HK; have HK := t_; clear t_
  go_wp2_with fail
  refine (pp_at K n Am cm M Q true _ hM'.out (Kd.C_below HCm.out HK.out.2) HMm.out hq'.out).mono ?_
  rintro e w9 ⟨v2, rfl, hR2, hB⟩
  obtain ⟨A3, c3, rfl⟩ := Kd.R_slice hR2
  have t_ := Lib.hid (Keep.step HK.out hB); clear HK; have HK := t_; clear t_ hB
  have CQ := Lib.hid (Kd.R_reads' hR2).2.2
  have MQ := Lib.hid (Kd.R_reads' hR2).2.1
  rw [hQ'.out]
  clear hR2
  go_wp2_with fail
  refine (gp_at 56 A3 c3 Q _ hQ'.out rfl CQ.out MQ.out).mono ?_
  rintro e w10 ⟨v3, rfl, hR2, hB⟩
  rw [hd'.out] at hR2
  obtain ⟨A4, c4, rfl⟩ := Kd.R_slice hR2
  have CD := Lib.hid (Kd.R_reads' hR2).2.2
  have MD := Lib.hid (Kd.R_reads' hR2).2.1
  have t_ := Lib.hid (Keep.step HK.out hB); clear HK; have HK := t_; clear t_ hB
  clear hR2
  rw [hD'.out]
  obtain ⟨i0, hi0, _, hsz0, _⟩ := info_parts infoI64
  obtain ⟨hcut, hA, hC4⟩ := print_take_of (P := Tryd.prog) (Value.int .i64) 0 35 3 .i64 Tryd.underlying35 hi0 hsz0 A4 c4 D (n : Int) (by omega) (by rw [hD'.out]; omega) MD.out
  rw [Int.toNat_natCast, htk'.out] at hcut hA hC4
  rw [hD'.out, hM'.out] at hcut
  have CT := Lib.hid (Kd.C_of_reads (h1 := fun _ => rfl) (hA _ (Kd.reads_of_C CD.out)))
  have MT := Lib.hid hC4
  clear hA hC4 hi0 hsz0
  go_wp2_with fail
  refine (samei_at K n n A4 Am c4 cm M M _ hM'.out hM'.out CT.out MT.out (Kd.C_below HCm.out HK.out.2) HMm.out hsi'.out).mono ?_
  rintro e w11 ⟨rfl, nd, rfl⟩
  have t_ := Lib.hid (Keep.drewN HK.out nd); clear HK; have HK := t_; clear t_
  obtain ⟨ad, ead, hcl⟩ := (Kd.reads_of_C (d := (0 : Int)) (Kd.C_drewN CD.out nd)).2.2 (by rw [hD'.out]; decide)
  subst ead
  have HCL : Hid (∀ j, j < 28 → (World.drewN w10 nd).cell? (ad.add j) = some (.int .i64 (D.getD j 0))) := fun j hj => hcl j (by rw [hD'.out]; exact hj)
  clear hcl hcut CT MT CD MD
  generalize World.drewN w10 nd = W5 at HK HCL ⊢
  go_wp2_with fail
  go_loopg [17] 28 (fun g s17 wr => W5 = wr ∧ ∃ i : Nat, n ≤ i ∧ i ≤ 28 ∧ 28 - i ≤ g ∧ s17 = .int .i64 i)
  case atStart => exact ⟨rfl, n, Nat.le_refl _, hn28, by omega, rfl⟩
  case round =>
    obtain ⟨rfl, i, hi0, hi1, hg, rfl⟩ := hrel
    by_cases hlt : i < 28
    · have hck : W5.cell? (ad.add i) = some (.int .i64 0) := (HCL.out i hlt).trans (by rw [hz'.out i hi0 hlt])
      go_wp2
      go_roundg (28 - (i + 1))
      case measure => omega
      case rel => exact ⟨rfl, i + 1, by omega, by omega, Nat.le_refl _, by go_num⟩
    · go_wp2
      go_ret
      exact ⟨rfl, HK.out.2⟩
set_option maxHeartbeats 2000000 in
theorem walk_ftf (K : Nat) (l M b : List Int) (n m : Nat) (Ab Am : Option Addr) (cb cm : Nat) (w : World) (hCb : Kd.C (Kd.int .u8) w Ab b.length b) (hMb : b.length ≤ cb) (hCm : Kd.C (Kd.int .i64) w Am M.length M) (hMm : M.length ≤ cm) (hl : l.length = 21) (hM : M.length = n) (hb : b.length = m) (hn : ¬ 1000 < n) (hm : ¬ 1000 < m) (hp : inode_Put.f l = ([], false)) (R : List Int) (hR : R.length = 21) (hgb : inode_Get.f b = (R, true)) (hpr : inode_Put.f R = (b, true)) (hsb : moraineref00_SameBytes.f K b b = some true) (hq : inode_PutPointers.f K M = some ([], false)) :
    Calls Tryd.prog 5 #[.agg (encs (Value.int .i64) l).toArray, .slice Am n cm, .slice Ab m cb] w fun e w' => e = .returned (.bool true) ∧ Below w.heap.size w w' := by
  have HCb := Lib.hid hCb; have HMb := Lib.hid hMb; have HCm := Lib.hid hCm; have HMm := Lib.hid hMm; have HSl := Lib.hid (hsz l hl); have HSR := Lib.hid (hsz R hR)
  have hl' := Lib.hid hl
  have hM' := Lib.hid hM
  have hb' := Lib.hid hb
  have hp' := Lib.hid hp
  have hR' := Lib.hid hR
  have hgb' := Lib.hid hgb
  have hq' := Lib.hid hq
  have hpr' := Lib.hid hpr
  have hsb' := Lib.hid hsb
  clear hCb hMb hCm hMm hl hM hb hp hR hgb hq hpr hsb
  go_enter Tryd.func5, Tryd.ntmps5
  go_wp2_with (first | ((with_reducible refine gate_dst (N := 3) rfl ?_); refine box_event ?hg (N := 3) ?hd (cs := (encs (Value.int .i64) l).toArray) (t := 24) ?hr ?_; (case hd => rfl); (case hg => rfl); (case hr => first | (go_simp; done) | (go_simp; rfl)); intro gb hg_ w0 hbox hb; subst hg_; have HK : Hid (Keep w (encs (Value.int .i64) l).toArray 24 w0) := ⟨hbox, hb⟩; clear hbox hb))
  refine (morainelaw14_alive.calls true _ rfl).mono ?_
  rintro e w1 ⟨rfl, hB⟩
  have t_ := Lib.hid (Keep.step HK.out hB); clear HK; have HK := t_; clear t_ hB
  go_wp2_with (first | ((with_reducible refine gate_dst (N := 29) rfl ?_); refine wpList_load_row rfl 24 (.tmp 3) rfl w.heap.size rfl 24 (encs (Value.int .i64) l).toArray (0, 0) _ HK.out.1 Tryd.underlying24 rfl HSl.out ?_))
  refine (inode_Put.calls l hl'.out _).mono ?_
  rintro e w2 ⟨v0, rfl, hR2, hB⟩
  rw [hp'.out] at hR2 ⊢
  obtain ⟨A1, c1, rfl⟩ := Kd.R_slice hR2
  have t_ := Lib.hid (Keep.step HK.out hB); clear HK; have HK := t_; clear t_ hB
  clear hR2
  go_wp2_with fail
  refine (get_at m Ab cb b R true _ hb'.out (Kd.C_below HCb.out HK.out.2) HMb.out hgb'.out).mono ?_
  rintro e w5 ⟨rfl, hB⟩
  have t_ := Lib.hid (Keep.step HK.out hB); clear HK; have HK := t_; clear t_ hB
  go_wp2_with (first | ((with_reducible refine gate_dst (N := 11) rfl ?_); refine box_event ?hg (N := 11) ?hd (cs := (List.replicate 21 (Value.int .i64 0)).toArray) (t := 24) ?hr ?_; (case hd => rfl); (case hg => rfl); (case hr => first | (go_simp; done) | (go_simp; rfl)); intro g11 hg_ w6 hbox hb; have HSg11 := Lib.hid hbox; have HGg11 : Hid (w.heap.size < g11) := by { rw [hg_]; exact (Array.getElem?_eq_some_iff.1 HK.out.1).1 }; have t_ := Lib.hid (Keep.step HK.out hb); clear HK; have HK := t_; clear t_ hbox hb hg_) | (refine wpList_store_row rfl 24 (.tmp 11) (.tmp 49) rfl g11 (encs (Value.int .i64) R).toArray rfl rfl 24 _ HSg11.out HSR.out (by rw [List.size_toArray, List.size_toArray, encs_length, hR'.out]; rfl) (encs_one R) ?_) | ((with_reducible refine gate_dst (N := 53) rfl ?_); refine wpList_load_row rfl 24 (.tmp 11) rfl g11 rfl 24 (encs (Value.int .i64) R).toArray (0, 0) _ (setRow_heap _ g11 _ _ _ _ HSg11.out) Tryd.underlying24 rfl HSR.out ?_))
  have t_ := Lib.hid (Keep.row HK.out HGg11.out (encs (Value.int .i64) R).toArray); clear HK; have HK := t_; clear t_
  refine (inode_Put.calls R hR'.out _).mono ?_
  rintro e w7 ⟨v1, rfl, hR2, hB⟩
  rw [hpr'.out] at hR2 ⊢
  have hR3 : RU w7 _ v1 b := hR2
  obtain ⟨A2, c2, rfl⟩ := Kd.R_slice hR3
  have CY := Lib.hid (Kd.R_reads' hR3).2.2
  have MY := Lib.hid (Kd.R_reads' hR3).2.1
  rw [hb'.out]
  have t_ := Lib.hid (Keep.step HK.out hB); clear HK; have HK := t_; clear t_ hB
  clear hR2 hR3
  go_wp2_with fail
  refine (same_at K m m A2 Ab c2 cb b b _ hb'.out hb'.out CY.out MY.out (Kd.C_below HCb.out HK.out.2) HMb.out hsb'.out).mono ?_
  rintro e w8 ⟨rfl, nd, rfl⟩
  have t_ := Lib.hid (Keep.drewN HK.out nd); clear HK; have HK := t_; clear t_
  go_wp2_with fail
  refine (pp_at K n Am cm M [] false _ hM'.out (Kd.C_below HCm.out HK.out.2) HMm.out hq'.out).mono ?_
  rintro e w9 ⟨v2, rfl, hR2, hB⟩
  obtain ⟨A3, c3, rfl⟩ := Kd.R_slice hR2
  have t_ := Lib.hid (Keep.step HK.out hB); clear HK; have HK := t_; clear t_ hB
  clear hR2
  go_wp2
  go_ret
  exact ⟨rfl, HK.out.2⟩
set_option maxHeartbeats 2000000 in
theorem walk_fft (K : Nat) (l M b : List Int) (n m : Nat) (Ab Am : Option Addr) (cb cm : Nat) (w : World) (hCb : Kd.C (Kd.int .u8) w Ab b.length b) (hMb : b.length ≤ cb) (hCm : Kd.C (Kd.int .i64) w Am M.length M) (hMm : M.length ≤ cm) (hl : l.length = 21) (hM : M.length = n) (hb : b.length = m) (hn : ¬ 1000 < n) (hm : ¬ 1000 < m) (hp : inode_Put.f l = ([], false)) (R : List Int) (hR : R.length = 21) (hgb : inode_Get.f b = (R, false)) (Q D : List Int) (hq : inode_PutPointers.f K M = some (Q, true)) (hQ : Q.length = 56) (hd : ptrs Q 28 = D) (hD : D.length = 28) (hn28 : n ≤ 28) (htk : D.take n = M) (hz : ∀ i, n ≤ i → i < 28 → D.getD i 0 = 0) (hsi : moraineref00_SameInts.f K M M = some true) :
    Calls Tryd.prog 5 #[.agg (encs (Value.int .i64) l).toArray, .slice Am n cm, .slice Ab m cb] w fun e w' => e = .returned (.bool true) ∧ Below w.heap.size w w' := by
  have HCb := Lib.hid hCb; have HMb := Lib.hid hMb; have HCm := Lib.hid hCm; have HMm := Lib.hid hMm; have HSl := Lib.hid (hsz l hl); have HSR := Lib.hid (hsz R hR)
  have hl' := Lib.hid hl
  have hM' := Lib.hid hM
  have hb' := Lib.hid hb
  have hp' := Lib.hid hp
  have hR' := Lib.hid hR
  have hgb' := Lib.hid hgb
  have hq' := Lib.hid hq
  have hQ' := Lib.hid hQ
  have hd' := Lib.hid hd
  have hD' := Lib.hid hD
  have htk' := Lib.hid htk
  have hz' := Lib.hid hz
  have hsi' := Lib.hid hsi
  clear hCb hMb hCm hMm hl hM hb hp hR hgb hq hQ hd hD htk hz hsi
  go_enter Tryd.func5, Tryd.ntmps5
  go_wp2_with (first | ((with_reducible refine gate_dst (N := 3) rfl ?_); refine box_event ?hg (N := 3) ?hd (cs := (encs (Value.int .i64) l).toArray) (t := 24) ?hr ?_; (case hd => rfl); (case hg => rfl); (case hr => first | (go_simp; done) | (go_simp; rfl)); intro gb hg_ w0 hbox hb; subst hg_; have HK : Hid (Keep w (encs (Value.int .i64) l).toArray 24 w0) := ⟨hbox, hb⟩; clear hbox hb))
  refine (morainelaw14_alive.calls true _ rfl).mono ?_
  rintro e w1 ⟨rfl, hB⟩
  have t_ := Lib.hid (Keep.step HK.out hB); clear HK; have HK := t_; clear t_ hB
  go_wp2_with (first | ((with_reducible refine gate_dst (N := 29) rfl ?_); refine wpList_load_row rfl 24 (.tmp 3) rfl w.heap.size rfl 24 (encs (Value.int .i64) l).toArray (0, 0) _ HK.out.1 Tryd.underlying24 rfl HSl.out ?_))
  refine (inode_Put.calls l hl'.out _).mono ?_
  rintro e w2 ⟨v0, rfl, hR2, hB⟩
  rw [hp'.out] at hR2 ⊢
  obtain ⟨A1, c1, rfl⟩ := Kd.R_slice hR2
  have t_ := Lib.hid (Keep.step HK.out hB); clear HK; have HK := t_; clear t_ hB
  clear hR2
  go_wp2_with fail
  refine (get_at m Ab cb b R false _ hb'.out (Kd.C_below HCb.out HK.out.2) HMb.out hgb'.out).mono ?_
  rintro e w5 ⟨rfl, hB⟩
  have t_ := Lib.hid (Keep.step HK.out hB); clear HK; have HK := t_; clear t_ hB
  go_wp2_with (first | ((with_reducible refine gate_dst (N := 11) rfl ?_); refine box_event ?hg (N := 11) ?hd (cs := (List.replicate 21 (Value.int .i64 0)).toArray) (t := 24) ?hr ?_; (case hd => rfl); (case hg => rfl); (case hr => first | (go_simp; done) | (go_simp; rfl)); intro g11 hg_ w6 hbox hb; have HSg11 := Lib.hid hbox; have HGg11 : Hid (w.heap.size < g11) := by { rw [hg_]; exact (Array.getElem?_eq_some_iff.1 HK.out.1).1 }; have t_ := Lib.hid (Keep.step HK.out hb); clear HK; have HK := t_; clear t_ hbox hb hg_) | (refine wpList_store_row rfl 24 (.tmp 11) (.tmp 49) rfl g11 (encs (Value.int .i64) R).toArray rfl rfl 24 _ HSg11.out HSR.out (by rw [List.size_toArray, List.size_toArray, encs_length, hR'.out]; rfl) (encs_one R) ?_))
  have t_ := Lib.hid (Keep.row HK.out HGg11.out (encs (Value.int .i64) R).toArray); clear HK; have HK := t_; clear t_
  refine (pp_at K n Am cm M Q true _ hM'.out (Kd.C_below HCm.out HK.out.2) HMm.out hq'.out).mono ?_
  rintro e w9 ⟨v2, rfl, hR2, hB⟩
  obtain ⟨A3, c3, rfl⟩ := Kd.R_slice hR2
  have t_ := Lib.hid (Keep.step HK.out hB); clear HK; have HK := t_; clear t_ hB
  have CQ := Lib.hid (Kd.R_reads' hR2).2.2
  have MQ := Lib.hid (Kd.R_reads' hR2).2.1
  rw [hQ'.out]
  clear hR2
  go_wp2_with fail
  refine (gp_at 56 A3 c3 Q _ hQ'.out rfl CQ.out MQ.out).mono ?_
  rintro e w10 ⟨v3, rfl, hR2, hB⟩
  rw [hd'.out] at hR2
  obtain ⟨A4, c4, rfl⟩ := Kd.R_slice hR2
  have CD := Lib.hid (Kd.R_reads' hR2).2.2
  have MD := Lib.hid (Kd.R_reads' hR2).2.1
  have t_ := Lib.hid (Keep.step HK.out hB); clear HK; have HK := t_; clear t_ hB
  clear hR2
  rw [hD'.out]
  obtain ⟨i0, hi0, _, hsz0, _⟩ := info_parts infoI64
  obtain ⟨hcut, hA, hC4⟩ := print_take_of (P := Tryd.prog) (Value.int .i64) 0 35 3 .i64 Tryd.underlying35 hi0 hsz0 A4 c4 D (n : Int) (by omega) (by rw [hD'.out]; omega) MD.out
  rw [Int.toNat_natCast, htk'.out] at hcut hA hC4
  rw [hD'.out, hM'.out] at hcut
  have CT := Lib.hid (Kd.C_of_reads (h1 := fun _ => rfl) (hA _ (Kd.reads_of_C CD.out)))
  have MT := Lib.hid hC4
  clear hA hC4 hi0 hsz0
  go_wp2_with fail
  refine (samei_at K n n A4 Am c4 cm M M _ hM'.out hM'.out CT.out MT.out (Kd.C_below HCm.out HK.out.2) HMm.out hsi'.out).mono ?_
  rintro e w11 ⟨rfl, nd, rfl⟩
  have t_ := Lib.hid (Keep.drewN HK.out nd); clear HK; have HK := t_; clear t_
  obtain ⟨ad, ead, hcl⟩ := (Kd.reads_of_C (d := (0 : Int)) (Kd.C_drewN CD.out nd)).2.2 (by rw [hD'.out]; decide)
  subst ead
  have HCL : Hid (∀ j, j < 28 → (World.drewN w10 nd).cell? (ad.add j) = some (.int .i64 (D.getD j 0))) := fun j hj => hcl j (by rw [hD'.out]; exact hj)
  clear hcl hcut CT MT CD MD
  generalize World.drewN w10 nd = W5 at HK HCL ⊢
  go_wp2_with fail
  go_loopg [17] 28 (fun g s17 wr => W5 = wr ∧ ∃ i : Nat, n ≤ i ∧ i ≤ 28 ∧ 28 - i ≤ g ∧ s17 = .int .i64 i)
  case atStart => exact ⟨rfl, n, Nat.le_refl _, hn28, by omega, rfl⟩
  case round =>
    obtain ⟨rfl, i, hi0, hi1, hg, rfl⟩ := hrel
    by_cases hlt : i < 28
    · have hck : W5.cell? (ad.add i) = some (.int .i64 0) := (HCL.out i hlt).trans (by rw [hz'.out i hi0 hlt])
      go_wp2
      go_roundg (28 - (i + 1))
      case measure => omega
      case rel => exact ⟨rfl, i + 1, by omega, by omega, Nat.le_refl _, by go_num⟩
    · go_wp2
      go_ret
      exact ⟨rfl, HK.out.2⟩
set_option maxHeartbeats 2000000 in
theorem walk_fff (K : Nat) (l M b : List Int) (n m : Nat) (Ab Am : Option Addr) (cb cm : Nat) (w : World) (hCb : Kd.C (Kd.int .u8) w Ab b.length b) (hMb : b.length ≤ cb) (hCm : Kd.C (Kd.int .i64) w Am M.length M) (hMm : M.length ≤ cm) (hl : l.length = 21) (hM : M.length = n) (hb : b.length = m) (hn : ¬ 1000 < n) (hm : ¬ 1000 < m) (hp : inode_Put.f l = ([], false)) (R : List Int) (hR : R.length = 21) (hgb : inode_Get.f b = (R, false)) (hq : inode_PutPointers.f K M = some ([], false)) :
    Calls Tryd.prog 5 #[.agg (encs (Value.int .i64) l).toArray, .slice Am n cm, .slice Ab m cb] w fun e w' => e = .returned (.bool true) ∧ Below w.heap.size w w' := by
  have HCb := Lib.hid hCb; have HMb := Lib.hid hMb; have HCm := Lib.hid hCm; have HMm := Lib.hid hMm; have HSl := Lib.hid (hsz l hl); have HSR := Lib.hid (hsz R hR)
  have hl' := Lib.hid hl
  have hM' := Lib.hid hM
  have hb' := Lib.hid hb
  have hp' := Lib.hid hp
  have hR' := Lib.hid hR
  have hgb' := Lib.hid hgb
  have hq' := Lib.hid hq
  clear hCb hMb hCm hMm hl hM hb hp hR hgb hq
  go_enter Tryd.func5, Tryd.ntmps5
  go_wp2_with (first | ((with_reducible refine gate_dst (N := 3) rfl ?_); refine box_event ?hg (N := 3) ?hd (cs := (encs (Value.int .i64) l).toArray) (t := 24) ?hr ?_; (case hd => rfl); (case hg => rfl); (case hr => first | (go_simp; done) | (go_simp; rfl)); intro gb hg_ w0 hbox hb; subst hg_; have HK : Hid (Keep w (encs (Value.int .i64) l).toArray 24 w0) := ⟨hbox, hb⟩; clear hbox hb))
  refine (morainelaw14_alive.calls true _ rfl).mono ?_
  rintro e w1 ⟨rfl, hB⟩
  have t_ := Lib.hid (Keep.step HK.out hB); clear HK; have HK := t_; clear t_ hB
  go_wp2_with (first | ((with_reducible refine gate_dst (N := 29) rfl ?_); refine wpList_load_row rfl 24 (.tmp 3) rfl w.heap.size rfl 24 (encs (Value.int .i64) l).toArray (0, 0) _ HK.out.1 Tryd.underlying24 rfl HSl.out ?_))
  refine (inode_Put.calls l hl'.out _).mono ?_
  rintro e w2 ⟨v0, rfl, hR2, hB⟩
  rw [hp'.out] at hR2 ⊢
  obtain ⟨A1, c1, rfl⟩ := Kd.R_slice hR2
  have t_ := Lib.hid (Keep.step HK.out hB); clear HK; have HK := t_; clear t_ hB
  clear hR2
  go_wp2_with fail
  refine (get_at m Ab cb b R false _ hb'.out (Kd.C_below HCb.out HK.out.2) HMb.out hgb'.out).mono ?_
  rintro e w5 ⟨rfl, hB⟩
  have t_ := Lib.hid (Keep.step HK.out hB); clear HK; have HK := t_; clear t_ hB
  go_wp2_with (first | ((with_reducible refine gate_dst (N := 11) rfl ?_); refine box_event ?hg (N := 11) ?hd (cs := (List.replicate 21 (Value.int .i64 0)).toArray) (t := 24) ?hr ?_; (case hd => rfl); (case hg => rfl); (case hr => first | (go_simp; done) | (go_simp; rfl)); intro g11 hg_ w6 hbox hb; have HSg11 := Lib.hid hbox; have HGg11 : Hid (w.heap.size < g11) := by { rw [hg_]; exact (Array.getElem?_eq_some_iff.1 HK.out.1).1 }; have t_ := Lib.hid (Keep.step HK.out hb); clear HK; have HK := t_; clear t_ hbox hb hg_) | (refine wpList_store_row rfl 24 (.tmp 11) (.tmp 49) rfl g11 (encs (Value.int .i64) R).toArray rfl rfl 24 _ HSg11.out HSR.out (by rw [List.size_toArray, List.size_toArray, encs_length, hR'.out]; rfl) (encs_one R) ?_))
  have t_ := Lib.hid (Keep.row HK.out HGg11.out (encs (Value.int .i64) R).toArray); clear HK; have HK := t_; clear t_
  refine (pp_at K n Am cm M [] false _ hM'.out (Kd.C_below HCm.out HK.out.2) HMm.out hq'.out).mono ?_
  rintro e w9 ⟨v2, rfl, hR2, hB⟩
  obtain ⟨A3, c3, rfl⟩ := Kd.R_slice hR2
  have t_ := Lib.hid (Keep.step HK.out hB); clear HK; have HK := t_; clear t_ hB
  clear hR2
  go_wp2
  go_ret
  exact ⟨rfl, HK.out.2⟩
set_option maxHeartbeats 1000000 in
theorem long (l : List Int) (n m : Nat) (Ab Am : Option Addr) (cb cm : Nat) (w : World) (h : 1000 < n ∨ (¬ 1000 < n ∧ 1000 < m)) :
    Calls Tryd.prog 5 #[.agg (encs (Value.int .i64) l).toArray, .slice Am n cm, .slice Ab m cb] w fun e w' => e = .returned (.bool true) ∧ Below w.heap.size w w' := by
  rcases h with h | ⟨h, h2⟩
  all_goals (
    go_enter Tryd.func5, Tryd.ntmps5
    go_wp2_with (first | ((with_reducible refine gate_dst (N := 3) rfl ?_); refine box_event ?hg (N := 3) ?hd (cs := (encs (Value.int .i64) l).toArray) (t := 24) ?hr ?_; (case hd => rfl); (case hg => rfl); (case hr => first | (go_simp; done) | (go_simp; rfl)); intro gb hg_ w0 hbox hb; subst hg_; have HK : Hid (Keep w (encs (Value.int .i64) l).toArray 24 w0) := ⟨hbox, hb⟩; clear hbox hb))
    refine (morainelaw14_alive.calls true _ rfl).mono ?_
    rintro e w1 ⟨rfl, hB⟩
    have t_ := Lib.hid (Keep.step HK.out hB); clear HK; have HK := t_; clear t_ hB
    go_wp2
    go_ret
    exact ⟨rfl, HK.out.2⟩)
end Go.Proofs.YthmfhhkedmloeaaDoor.BackWalk
namespace Go.Proofs.YthmfhhkedmloeaaDoor.PInodeBack
open Go.RowKit Go.Proofs.YthmfhhkedmloeaaDoorW.PrintWords Go.Proofs.YthmfhhkedmloeaaDoorW.PrintLast Go.Proofs.YthmfhhkedmloeaaDoorW.PrintMore Go.Proofs.YthmfhhkedmloeaaDoor.Given
set_option linter.unusedVariables false
theorem morainelaw14_InodeBack.calls (l : List Int) (Am : Option Addr) (cm : Nat) (M : List Int) (Ab : Option Addr) (cb : Nat) (b : List Int) (r : Bool) (w : World) (hl : l.length = 21) (hCm : Kd.C (Kd.int .i64) w Am M.length M) (hMm : M.length ≤ cm) (hCb : Kd.C (Kd.int .u8) w Ab b.length b) (hMb : b.length ≤ cb)
    (h : (∀ x ∈ M, x ≤ 9223372036854775807) ∧ Pure.Byt b) :
    Calls Tryd.prog 5 #[.agg (l.map (Value.int .i64)).toArray, .slice Am M.length cm, .slice Ab b.length cb] w fun e w' => e = .returned (.bool true) ∧ Below w.heap.size w w' := by
  by_cases hn : 1000 < M.length
  · exact BackWalk.long l _ _ Ab Am cb cm w (.inl hn)
  by_cases hm : 1000 < b.length
  · exact BackWalk.long l _ _ Ab Am cb cm w (.inr ⟨hn, hm⟩)
  obtain ⟨K, hK⟩ : ∃ K, K = 3000 := ⟨_, rfl⟩
  have hpp := Pure.pp_eq M (by omega) h.1 K (by omega)
  have hsb : moraineref00_SameBytes.f K b b = some true := by rw [Pure.same_eq b b (by omega) K (by omega)]; simp
  have hsi : moraineref00_SameInts.f K M M = some true := by rw [Pure.sameI_eq M M (by omega) K (by omega)]; simp
  obtain ⟨R, ok, hgb⟩ : ∃ R ok, inode_Get.f b = (R, ok) := ⟨_, _, rfl⟩
  have hR : R.length = 21 := by have := Pure.get_len b; rw [hgb] at this; exact this
  cases hk : okRec l with
  | false =>
    have hp : inode_Put.f l = ([], false) := by unfold inode_Put.f; rw [hk]; rfl
    cases ok with
    | false =>
      rcases Pure.ptr_facts M with hq | ⟨hn28, Q, hq, hQ, hD'⟩
      · rw [hq] at hpp
        exact BackWalk.walk_fff K l M b _ _ Ab Am cb cm w hCb hMb hCm hMm hl rfl rfl hn hm hp R hR hgb hpp
      · rw [hq] at hpp
        have hD : (ptrs Q 28).length = 28 := ptrs_length Q 28
        have htk : (ptrs Q 28).take M.length = M := by rw [hD', List.take_left]
        have hz : ∀ i, M.length ≤ i → i < 28 → (ptrs Q 28).getD i 0 = 0 := fun i h0 h1 => by
          rw [hD', List.getD_eq_getElem?_getD, List.getElem?_append_right h0, List.getElem?_replicate]; split <;> rfl
        exact BackWalk.walk_fft K l M b _ _ Ab Am cb cm w hCb hMb hCm hMm hl rfl rfl hn hm hp R hR hgb Q _ hpp hQ rfl hD hn28 htk hz hsi
    | true =>
      have hpr := (Pure.put_of_get h.2 hgb).2
      rcases Pure.ptr_facts M with hq | ⟨hn28, Q, hq, hQ, hD'⟩
      · rw [hq] at hpp
        exact BackWalk.walk_ftf K l M b _ _ Ab Am cb cm w hCb hMb hCm hMm hl rfl rfl hn hm hp R hR hgb hpr hsb hpp
      · rw [hq] at hpp
        have hD : (ptrs Q 28).length = 28 := ptrs_length Q 28
        have htk : (ptrs Q 28).take M.length = M := by rw [hD', List.take_left]
        have hz : ∀ i, M.length ≤ i → i < 28 → (ptrs Q 28).getD i 0 = 0 := fun i h0 h1 => by
          rw [hD', List.getD_eq_getElem?_getD, List.getElem?_append_right h0, List.getElem?_replicate]; split <;> rfl
        exact BackWalk.walk_ftt K l M b _ _ Ab Am cb cm w hCb hMb hCm hMm hl rfl rfl hn hm hp R hR hgb hpr hsb Q _ hpp hQ rfl hD hn28 htk hz hsi
  | true =>
    have hp : inode_Put.f l = (recBytes l, true) := by unfold inode_Put.f; rw [hk]; rfl
    have hP := Pure.bytes_len hl hk
    have hgp := Pure.get_put hl hk
    cases ok with
    | false =>
      rcases Pure.ptr_facts M with hq | ⟨hn28, Q, hq, hQ, hD'⟩
      · rw [hq] at hpp
        exact BackWalk.walk_tff K l M b _ _ Ab Am cb cm w hCb hMb hCm hMm hl rfl rfl hn hm _ hp hP hgp R hR hgb hpp
      · rw [hq] at hpp
        have hD : (ptrs Q 28).length = 28 := ptrs_length Q 28
        have htk : (ptrs Q 28).take M.length = M := by rw [hD', List.take_left]
        have hz : ∀ i, M.length ≤ i → i < 28 → (ptrs Q 28).getD i 0 = 0 := fun i h0 h1 => by
          rw [hD', List.getD_eq_getElem?_getD, List.getElem?_append_right h0, List.getElem?_replicate]; split <;> rfl
        exact BackWalk.walk_tft K l M b _ _ Ab Am cb cm w hCb hMb hCm hMm hl rfl rfl hn hm _ hp hP hgp R hR hgb Q _ hpp hQ rfl hD hn28 htk hz hsi
    | true =>
      have hpr := (Pure.put_of_get h.2 hgb).2
      rcases Pure.ptr_facts M with hq | ⟨hn28, Q, hq, hQ, hD'⟩
      · rw [hq] at hpp
        exact BackWalk.walk_ttf K l M b _ _ Ab Am cb cm w hCb hMb hCm hMm hl rfl rfl hn hm _ hp hP hgp R hR hgb hpr hsb hpp
      · rw [hq] at hpp
        have hD : (ptrs Q 28).length = 28 := ptrs_length Q 28
        have htk : (ptrs Q 28).take M.length = M := by rw [hD', List.take_left]
        have hz : ∀ i, M.length ≤ i → i < 28 → (ptrs Q 28).getD i 0 = 0 := fun i h0 h1 => by
          rw [hD', List.getD_eq_getElem?_getD, List.getElem?_append_right h0, List.getElem?_replicate]; split <;> rfl
        exact BackWalk.walk_ttt K l M b _ _ Ab Am cb cm w hCb hMb hCm hMm hl rfl rfl hn hm _ hp hP hgp R hR hgb hpr hsb Q _ hpp hQ rfl hD hn28 htk hz hsi
end Go.Proofs.YthmfhhkedmloeaaDoor.PInodeBack
namespace Go.Proofs.YthmfhhkedmloeaaDoor.Pure
open Go.RowKit
set_option linter.unusedVariables false
theorem InodeBack (l M b : List Int) (hl : l.length = 21) (hw : ∀ x ∈ l, (Lit.int .i64 x).wf = true) (hM : ∀ x ∈ M, (Lit.int .i64 x).wf = true) (hs : M.length * 8 ≤ 140737488351232) (hb : Byt b) : (∀ x ∈ M, x ≤ 9223372036854775807) ∧ Byt b := ⟨fun x hx => (i64_bd (hM x hx)).2, hb⟩
end Go.Proofs.YthmfhhkedmloeaaDoor.Pure
