/- The walk of InodeTurned: by hand. -/
import Derived.Test.YthmfhhkedmloeaaDoorGivInodeGet
import Derived.Test.YthmfhhkedmloeaaDoorGivRecEq
import Derived.Test.YthmfhhkedmloeaaDoorGivAlive14
import Derived.Test.YthmfhhkedmloeaaDoorPureInodeTurned
namespace Go.Proofs.YthmfhhkedmloeaaDoor.TurnedWalk
open Go.RowKit Go.Proofs.YthmfhhkedmloeaaDoorW.PrintWords Go.Proofs.YthmfhhkedmloeaaDoorW.PrintLast Go.Proofs.YthmfhhkedmloeaaDoorW.PrintMore Go.Proofs.YthmfhhkedmloeaaDoor.Given
set_option linter.unusedVariables false
set_option linter.unusedSimpArgs false
theorem wpList_load_rowG {P : Program} {ops : Array Oper} {rest : List Oper} {o : Oper} {a : Act} {w : World} {Q : Exit → Act → World → Prop} (hw : Region.wanted o (yielded ops a.tmps) = true) (ty : TypeId) (x : Operand) (ho : o.op = .load ty x)
    (g : Nat) (hx : a.eval x = .pointer (some ⟨g, 0, none⟩)) (t : TypeId) (cs : Array Value) (fr : Nat × Nat) (d : TypeDesc) (hg : w.heap[g]? = some (.cells cs t fr))
    (hu : P.underlying ty = some d) (hd : (match d with | .struct _ | .array _ _ => true | _ => false) = true) (hi : (P.info? ty).map (·.size) = some cs.size)
    (h : wpList P ops Q rest (a.put o.dst (.agg cs)) w) : wpList P ops Q (o :: rest) a w :=
  wpList_step fun K hK => by rw [if_pos hw]; exact wp_load_row ty x ho g hx t cs fr d hg hu hd hi (hK _ _ h)
theorem rec_eq' (n : Nat) (w : World) (L M : List Int) (hL : L.length = 21) (hM : M.length = 21) : (Op.equalIn (n + 3) 24 (.agg (encs (Value.int .i64) L).toArray) (.agg (encs (Value.int .i64) M).toArray)).run Tryd.prog w = .ok (decide (L = M)) w := rec_eq n w L M hL hM
theorem get_at (n : Nat) (A : Option Addr) (c : Nat) (l R : List Int) (ok : Bool) (w : World) (hn : l.length = n) (hr : Kd.C (Kd.int .u8) w A l.length l) (hc : l.length ≤ c) (h : inode_Get.f l = (R, ok)) :
    Calls Tryd.prog 10 #[.slice A n c] w fun e w' => e = .returned (.tuple #[.agg (encs (Value.int .i64) R).toArray, .bool ok]) ∧ Below w.heap.size w w' := by
  subst hn; exact inode_Get.calls A c l R ok w hr hc h
set_option maxHeartbeats 2000000 in
theorem far (l : List Int) (i : Nat) (t x p : Int) (P R : List Int) (ok : Bool) (w : World) (hl : l.length = 21) (hi : i < 56) (ht : t ≠ 0) (hp : inode_Put.f l = (P, true)) (hP : P.length = 56) (hpi : P.getD i 0 = p) (hx : Go.bits .xor .u8 p t = x)
    (hg : inode_Get.f (P.set i x) = (R, ok)) (hR : R.length = 21) (hne : decide (R = l) = true → ok = false) :
    Calls Tryd.prog 4 #[.agg (encs (Value.int .i64) l).toArray, .int .i64 i, .int .u8 t] w fun e w' => e = .returned (.bool true) ∧ Below w.heap.size w w' := by
  have HLL := Lib.hid hl
  have HPF := Lib.hid hp
  have HPL := Lib.hid hP
  have HPI := Lib.hid hpi
  have HX := Lib.hid hx
  have HGF := Lib.hid hg
  have HRL := Lib.hid hR
  have HNE := Lib.hid hne
  have hsz : ∀ L : List Int, L.length = 21 → (Tryd.prog.info? 24).map (·.size) = some (encs (Value.int .i64) L).toArray.size := by
    intro L hL
    rw [show (encs (Value.int .i64) L).toArray.size = 21 from by rw [List.size_toArray, encs_length]; exact hL]
    kernel_rfl
  have HSZ := Lib.hid (hsz l hl)
  have HSR := Lib.hid (hsz R hR)
  have hi' : (i : Int) < 56 := by omega
  have hi0 : (0 : Int) ≤ (i : Int) := by omega
  have ht' : (t == 0) = false := by rw [beq_eq_false_iff_ne]; exact ht
  clear hp hP hpi hx hg hR hne hsz hl
  go_enter Tryd.func4, Tryd.ntmps4
  go_wp2_with (first | ((with_reducible refine gate_dst (N := 3) rfl ?_); refine box_event ?hg (N := 3) ?hd (cs := (encs (Value.int .i64) l).toArray) (t := 24) ?hr ?_; (case hd => rfl); (case hg => rfl); (case hr => first | (go_simp; done) | (go_simp; rfl)); intro gb hgb w0 hbox hb; subst hgb; have HK : Hid (Keep w (encs (Value.int .i64) l).toArray 24 w0) := ⟨hbox, hb⟩; clear hbox hb) | (go_at_call 6; refine (morainelaw14_alive.calls true _ rfl).mono ?_; rintro e w1 ⟨rfl, hB⟩; have t_ := Lib.hid (Keep.step HK.out hB); clear HK; have HK := t_; clear t_ hB) | ((with_reducible refine gate_dst (N := 14) rfl ?_); refine wpList_load_row rfl 24 (.tmp 3) rfl w.heap.size rfl 24 (encs (Value.int .i64) l).toArray (0, 0) _ HK.out.1 Tryd.underlying24 rfl HSZ.out ?_) | (go_at_call 8; go_must (refine (inode_Put.calls l HLL.out _).mono ?_); rintro e w2 ⟨v0, rfl, hR2, hB⟩; rw [HPF.out] at hR2 ⊢; have hR3 : RU w2 _ v0 P := hR2; obtain ⟨g, c, rfl, hg0, hg1, hcell⟩ := RU.at_ hR3 (by rw [HPL.out]; decide); have HG0 : Hid (w.heap.size + 1 ≤ g) := Nat.le_trans (Array.getElem?_eq_some_iff.1 HK.out.1).1 hg0; have HR2 := Lib.hid hR3; have hz := (hcell i (by rw [HPL.out]; exact hi)).1; rw [HPI.out] at hz; have hf := (hcell i (by rw [HPL.out]; exact hi)).2; have t_ := Lib.hid (Keep.step HK.out hB); clear HK; have HK := t_; clear t_ hB hcell hg0 hg1 hR2 hR3; rw [HPL.out]))
  rw [HX.out]
  have hq := Kd.R_putg HR2.out (i : Int) x
  simp only [Int.toNat_natCast] at hq
  have hC : Kd.C (Kd.int .u8) (w2.setCell ⟨g, i, none⟩ (.int .u8 x)) (some ⟨g, 0, none⟩) (P.set i x).length (P.set i x) := (Kd.R_reads' hq.1).2.2
  have hc : (P.set i x).length ≤ c := by rw [List.length_set]; exact (Kd.R_reads' hq.1).2.1
  have t_ : Hid (Keep w (encs (Value.int .i64) l).toArray 24 (w2.setCell ⟨g, i, none⟩ (.int .u8 x))) := ⟨(heap_setCell_other _ _ _ _ (show w.heap.size ≠ g by have := HG0.out; omega)).trans HK.out.1, below_set HK.out.2 (by show w.heap.size ≤ g; have := HG0.out; omega)⟩
  clear HK; have HK := t_; clear t_
  refine (get_at 56 (some ⟨g, 0, none⟩) c (P.set i x) R ok _ (by rw [List.length_set]; exact HPL.out) hC hc HGF.out).mono ?_
  rintro e w3 ⟨rfl, hB⟩
  have t_ := Lib.hid (Keep.step HK.out hB)
  clear HK; have HK := t_; clear t_ hB hC hc hq hz hf HR2
  cases ok with
  | false =>
    go_wp2_with (first | ((with_reducible refine gate_dst (N := 9) rfl ?_); refine box_event ?hg (N := 9) ?hd (cs := (List.replicate 21 (Value.int .i64 0)).toArray) (t := 24) ?hr ?_; (case hd => rfl); (case hg => rfl); (case hr => first | (go_simp; done) | (go_simp; rfl)); intro gs hgs w4 hbox hb; have HS := Lib.hid (And.intro hgs hbox); have HGS : Hid (w.heap.size ≤ gs) := by { rw [hgs]; exact HK.out.2.size }; have HLT : Hid (w.heap.size < w3.heap.size) := (Array.getElem?_eq_some_iff.1 HK.out.1).1; have t_ := Lib.hid (Keep.step HK.out hb); clear HK; have HK := t_; clear t_ hbox hb hgs) | (refine wpList_store_row rfl 24 (.tmp 9) (.tmp 54) rfl gs (encs (Value.int .i64) R).toArray rfl rfl 24 _ HS.out.2 HSR.out (by rw [List.size_toArray, List.size_toArray, encs_length, HRL.out]; rfl) (encs_one R) ?_))
    go_ret
    exact ⟨rfl, below_setRow HK.out.2 HGS.out _⟩
  | true =>
    have hr : decide (R = l) = false := by
      cases hd : decide (R = l) with
      | false => rfl
      | true => exact absurd (HNE.out hd) (by simp)
    go_wp2_with (first | ((with_reducible refine gate_dst (N := 9) rfl ?_); refine box_event ?hg (N := 9) ?hd (cs := (List.replicate 21 (Value.int .i64 0)).toArray) (t := 24) ?hr ?_; (case hd => rfl); (case hg => rfl); (case hr => first | (go_simp; done) | (go_simp; rfl)); intro gs hgs w4 hbox hb; have HS := Lib.hid (And.intro hgs hbox); have HGS : Hid (w.heap.size ≤ gs) := by { rw [hgs]; exact HK.out.2.size }; have HLT : Hid (w.heap.size < w3.heap.size) := (Array.getElem?_eq_some_iff.1 HK.out.1).1; have t_ := Lib.hid (Keep.step HK.out hb); clear HK; have HK := t_; clear t_ hbox hb hgs) | (refine wpList_store_row rfl 24 (.tmp 9) (.tmp 54) rfl gs (encs (Value.int .i64) R).toArray rfl rfl 24 _ HS.out.2 HSR.out (by rw [List.size_toArray, List.size_toArray, encs_length, HRL.out]; rfl) (encs_one R) ?_) | ((with_reducible refine gate_dst (N := 59) rfl ?_); refine wpList_load_rowG (by first | rfl | (go_simp; done)) 24 (.tmp 9) rfl gs rfl 24 (encs (Value.int .i64) R).toArray (0, 0) _ (setRow_heap _ gs _ _ _ _ HS.out.2) Tryd.underlying24 rfl HSR.out ?_) | ((with_reducible refine gate_dst (N := 60) rfl ?_); refine wpList_load_rowG (by first | rfl | (go_simp; done)) 24 (.tmp 3) rfl w.heap.size rfl 24 (encs (Value.int .i64) l).toArray (0, 0) _ ((setRow_other _ gs _ _ (by have := HS.out.1; have := HLT.out; omega)).trans HK.out.1) Tryd.underlying24 rfl HSZ.out ?_; have heq := fun n W => rec_eq' n W R l HRL.out HLL.out; rw [hr] at heq))
    go_ret
    exact ⟨rfl, below_setRow HK.out.2 HGS.out _⟩
set_option maxHeartbeats 1000000 in
theorem no (l : List Int) (a t : Int) (w : World) (hl : l.length = 21) (hp : inode_Put.f l = ([], false)) :
    Calls Tryd.prog 4 #[.agg (encs (Value.int .i64) l).toArray, .int .i64 a, .int .u8 t] w fun e w' => e = .returned (.bool true) ∧ Below w.heap.size w w' := by
  have hsz : (Tryd.prog.info? 24).map (·.size) = some (encs (Value.int .i64) l).toArray.size := by
    rw [show (encs (Value.int .i64) l).toArray.size = 21 from by rw [List.size_toArray, encs_length]; exact hl]
    kernel_rfl
  have HSZ := Lib.hid hsz
  have HLL := Lib.hid hl
  have HPF := Lib.hid hp
  clear hsz hl hp
  go_enter Tryd.func4, Tryd.ntmps4
  go_wp2_with (first | ((with_reducible refine gate_dst (N := 3) rfl ?_); refine box_event ?hg (N := 3) ?hd (cs := (encs (Value.int .i64) l).toArray) (t := 24) ?hr ?_; (case hd => rfl); (case hg => rfl); (case hr => first | (go_simp; done) | (go_simp; rfl)); intro gb hgb w0 hbox hb; subst hgb; have HK : Hid (Keep w (encs (Value.int .i64) l).toArray 24 w0) := ⟨hbox, hb⟩; clear hbox hb) | (go_at_call 6; refine (morainelaw14_alive.calls true _ rfl).mono ?_; rintro e w1 ⟨rfl, hB⟩; have t_ := Lib.hid (Keep.step HK.out hB); clear HK; have HK := t_; clear t_ hB) | ((with_reducible refine gate_dst (N := 14) rfl ?_); refine wpList_load_row rfl 24 (.tmp 3) rfl w.heap.size rfl 24 (encs (Value.int .i64) l).toArray (0, 0) _ HK.out.1 Tryd.underlying24 rfl HSZ.out ?_) | (go_at_call 8; go_must (refine (inode_Put.calls l HLL.out _).mono ?_); rintro e w2 ⟨v0, rfl, hR2, hB⟩; rw [HPF.out] at hR2 ⊢; obtain ⟨A, c, rfl⟩ := Kd.R_slice hR2; have t_ := Lib.hid (Keep.step HK.out hB); clear HK; have HK := t_; clear t_ hB hR2))
  go_ret
  exact ⟨rfl, HK.out.2⟩
set_option maxHeartbeats 1000000 in
theorem mid (l : List Int) (a t : Int) (P : List Int) (w : World) (hl : l.length = 21) (hp : inode_Put.f l = (P, true)) (hP : P.length = 56) (h : a < 0 ∨ (¬ a < 0 ∧ 56 ≤ a) ∨ (¬ a < 0 ∧ ¬ 56 ≤ a ∧ t = 0)) :
    Calls Tryd.prog 4 #[.agg (encs (Value.int .i64) l).toArray, .int .i64 a, .int .u8 t] w fun e w' => e = .returned (.bool true) ∧ Below w.heap.size w w' := by
  have HPL := Lib.hid hP
  clear hP
  have hsz : (Tryd.prog.info? 24).map (·.size) = some (encs (Value.int .i64) l).toArray.size := by
    rw [show (encs (Value.int .i64) l).toArray.size = 21 from by rw [List.size_toArray, encs_length]; exact hl]
    kernel_rfl
  have HSZ := Lib.hid hsz
  have HLL := Lib.hid hl
  have HPF := Lib.hid hp
  clear hsz hl hp
  rcases h with h1 | ⟨h1, h2⟩ | ⟨h1, h2, rfl⟩
  all_goals (
    go_enter Tryd.func4, Tryd.ntmps4
    go_wp2_with (first | ((with_reducible refine gate_dst (N := 3) rfl ?_); refine box_event ?hg (N := 3) ?hd (cs := (encs (Value.int .i64) l).toArray) (t := 24) ?hr ?_; (case hd => rfl); (case hg => rfl); (case hr => first | (go_simp; done) | (go_simp; rfl)); intro gb hgb w0 hbox hb; subst hgb; have HK : Hid (Keep w (encs (Value.int .i64) l).toArray 24 w0) := ⟨hbox, hb⟩; clear hbox hb) | (go_at_call 6; refine (morainelaw14_alive.calls true _ rfl).mono ?_; rintro e w1 ⟨rfl, hB⟩; have t_ := Lib.hid (Keep.step HK.out hB); clear HK; have HK := t_; clear t_ hB) | ((with_reducible refine gate_dst (N := 14) rfl ?_); refine wpList_load_row rfl 24 (.tmp 3) rfl w.heap.size rfl 24 (encs (Value.int .i64) l).toArray (0, 0) _ HK.out.1 Tryd.underlying24 rfl HSZ.out ?_) | (go_at_call 8; go_must (refine (inode_Put.calls l HLL.out _).mono ?_); rintro e w2 ⟨v0, rfl, hR2, hB⟩; rw [HPF.out] at hR2 ⊢; have hR3 : RU w2 _ v0 P := hR2; obtain ⟨A, c, rfl⟩ := Kd.R_slice hR3; rw [HPL.out]; have t_ := Lib.hid (Keep.step HK.out hB); clear HK; have HK := t_; clear t_ hB hR2 hR3))
    go_ret
    exact ⟨rfl, HK.out.2⟩)
end Go.Proofs.YthmfhhkedmloeaaDoor.TurnedWalk
namespace Go.Proofs.YthmfhhkedmloeaaDoor.PInodeTurned
open Go.RowKit Go.Proofs.YthmfhhkedmloeaaDoorW.PrintWords Go.Proofs.YthmfhhkedmloeaaDoorW.PrintLast Go.Proofs.YthmfhhkedmloeaaDoorW.PrintMore Go.Proofs.YthmfhhkedmloeaaDoor.Given
set_option linter.unusedVariables false
theorem morainelaw14_InodeTurned.calls (l : List Int) (a t : Int) (b : Bool) (w : World) (hl : l.length = 21) (ht : 0 ≤ t ∧ t ≤ 255) :
    Calls Tryd.prog 4 #[.agg (l.map (Value.int .i64)).toArray, .int .i64 a, .int .u8 t] w fun e w' => e = .returned (.bool true) ∧ Below w.heap.size w w' := by
  cases hk : okRec l with
  | false => exact TurnedWalk.no l a t w hl (by unfold inode_Put.f; rw [hk]; rfl)
  | true =>
    have hp : inode_Put.f l = (recBytes l, true) := by unfold inode_Put.f; rw [hk]; rfl
    have hP := Pure.bytes_len hl hk
    by_cases h1 : a < 0
    · exact TurnedWalk.mid l a t _ w hl hp hP (.inl h1)
    by_cases h2 : 56 ≤ a
    · exact TurnedWalk.mid l a t _ w hl hp hP (.inr (.inl ⟨h1, h2⟩))
    by_cases h3 : t = 0
    · exact TurnedWalk.mid l a t _ w hl hp hP (.inr (.inr ⟨h1, h2, h3⟩))
    obtain ⟨i, rfl⟩ : ∃ i : Nat, a = (i : Int) := ⟨a.toNat, by omega⟩
    exact TurnedWalk.far l i t _ _ _ _ _ w hl (by omega) h3 hp hP rfl rfl rfl (Pure.get_len _) (Pure.turned_far hl hk i (by omega) t ht h3 _ _ rfl)
end Go.Proofs.YthmfhhkedmloeaaDoor.PInodeTurned
namespace Go.Proofs.YthmfhhkedmloeaaDoor.Pure
open Go.RowKit
set_option linter.unusedVariables false
theorem InodeTurned (l : List Int) (a t : Int) (hl : l.length = 21) (hw : ∀ x ∈ l, (Lit.int .i64 x).wf = true) (wa : (Lit.int .i64 a).wf = true) (wt : (Lit.int .u8 t).wf = true) : 0 ≤ t ∧ t ≤ 255 := u8_bd wt
end Go.Proofs.YthmfhhkedmloeaaDoor.Pure
