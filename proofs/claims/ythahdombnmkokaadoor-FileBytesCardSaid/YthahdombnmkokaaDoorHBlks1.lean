/- HBlks1: HivBlk, HivBlk2, HivBlk3, GivNought, HivBlk4, HivBlk5. -/
import Derived.Test.YthahdombnmkokaaDoorBase
import Derived.Maps.OwnSet
import Derived.WalkKit
import Derived.OwnWalk
import Derived.LoopTactic
import Derived.Outline
import Derived.Lib.Hide
import Derived.Lib.SliceRun
import Derived.Test.YthahdombnmkokaaDoorProg
import Derived.Test.YthahdombnmkokaaDoorWWords
import Derived.Test.YthahdombnmkokaaDoorWLast
import Derived.KernelRfl
import Derived.Deep.QuietTactic
import Derived.BigQuiet
import Derived.Deep.RegionHeld3
import Derived.Deep.RegionWith
/- The map of a file's blocks (block.Map): its state, told by two functions. -/
namespace Go.Proofs.YthahdombnmkokaaDoor.Given
open Go.RowKit Go.Maps Go.Proofs.YthahdombnmkokaaDoorW.PrintWords Go.Proofs.YthahdombnmkokaaDoorW.PrintLast Go.Proofs.YthahdombnmkokaaDoorW.PrintMore Go.Proofs.YthahdombnmkokaaDoor.Base
set_option linter.unusedVariables false
set_option linter.unusedSimpArgs false
variable {G : Nat → Prop}
theorem addr_block (a : Addr) (k : Nat) : (a.add k).block = a.block := by unfold Addr.add; split <;> rfl
theorem cell_block {w w1 : World} {p : Addr} (h : w1.heap[p.block]? = w.heap[p.block]?) : w1.cell? p = w.cell? p := by unfold World.cell?; rw [h]
/-- A map's element, told as it is. -/
def tok (v : Value) : DataW Value := .held v
def tokR (v : Value) : Option (DataW Value × List MemPlace) := some (tok v, [])
theorem tok_inj {u v : Value} (h : tok u = tok v) : u = v := by injection h
theorem tokR_of {v u : Value} {ps : List MemPlace} (h : tokR v = some (tok u, ps)) : v = u := by
  unfold tokR at h
  injection h with h
  exact tok_inj (congrArg Prod.fst h)
theorem keyLit (x : Int) : WideAt.IsKeyLit (.int .i64 x) := by trivial
theorem keyNe {x y : Int} (h : ¬ x = y) : Lit.int .i64 x ≠ Lit.int .i64 y := by simpa using h
/-- What a map's datum holds. -/
structure Holds (D : DataW Value) (m : Int → Option Value) : Prop where
  tidy : Tidy D
  at_ : ∀ k z, D.atKey (.int .i64 k) (tok z) = tok ((m k).getD z)
  has : ∀ k, has D (.int .i64 k) = (m k).isSome
theorem Holds.empty : Holds (.map []) (fun _ => none) := ⟨tidy_empty, fun k z => rfl, fun k => rfl⟩
theorem Holds.put {D : DataW Value} {m : Int → Option Value} (h : Holds D m) (k : Int) (v : Value) : Holds (D.put (.int .i64 k) (tok v)) (fun j => if j = k then some v else m j) := by
  refine ⟨h.tidy.put (keyLit k) _, fun j z => ?_, fun j => ?_⟩
  · by_cases e : j = k
    · subst e; rw [atKey_put_same h.tidy.isMap (keyLit j), if_pos rfl]; rfl
    · rw [atKey_put_other (keyNe e), if_neg e, h.at_]
  · by_cases e : j = k
    · subst e; rw [has_put_same h.tidy.isMap (keyLit j), if_pos rfl]; rfl
    · rw [has_put_other (keyNe e), if_neg e, h.has]
theorem Holds.del {D : DataW Value} {m : Int → Option Value} (h : Holds D m) (k : Int) : Holds (D.del (.int .i64 k)) (fun j => if j = k then none else m j) := by
  refine ⟨h.tidy.del _, fun j z => ?_, fun j => ?_⟩
  · by_cases e : j = k
    · subst e; rw [atKey_del_same, if_pos rfl]; rfl
    · rw [atKey_del_other (keyNe e), if_neg e, h.at_]
  · by_cases e : j = k
    · subst e; rw [has_del_same, if_pos rfl]; rfl
    · rw [has_del_other (keyNe e), if_neg e, h.has]
theorem law3 : Keyed Tryd.prog 3 := int_keyed Tryd.underlying3
theorem zeroI (w : World) : (zeroValue 3).run Tryd.prog w = .ok (.int .i64 0) w := by kernel_rfl
theorem zeroS (w : World) : (zeroValue 34).run Tryd.prog w = .ok (.slice none 0 0) w := by kernel_rfl
/-- Bytes that lie in a block of G. -/
def CG (G : Nat → Prop) (w : World) (A : Option Addr) (r : List Int) : Prop := Kd.C (Kd.int .u8) w A r.length r ∧ ∀ ad, A = some ad → G ad.block
/-- A slice of bytes that stands in no block that is no cells, wherever it lies. -/
def Byt56 (G : Nat → Prop) (w : World) (u : Value) (r : List Int) : Prop := ∃ A c, u = .slice A r.length c ∧ r.length ≤ c ∧ r.length = 56 ∧ CG G w A r
/-- The block that a slice of bytes stands in. -/
theorem C_kept {w w1 : World} {A : Option Addr} {n : Nat} {xs : List Int} (h : Kd.C (Kd.int .u8) w A n xs) (hk : ∀ (b : Nat) (cs : Array Value) (t : Nat) (z : Nat × Nat), w.heap[b]? = some (.cells cs t z) → w1.heap[b]? = w.heap[b]?) : Kd.C (Kd.int .u8) w1 A n xs := by
  refine ⟨h.1, h.2.1, fun hn => ?_⟩
  obtain ⟨ad, e, hc⟩ := h.2.2 hn
  refine ⟨ad, e, fun j p hj => ?_⟩
  obtain ⟨c, hs, hr, hcell⟩ := hc j p hj
  refine ⟨c, hs, hr, fun i u hu => ?_⟩
  have h0 := hcell i u hu
  rw [← h0]
  refine cell_block ?_
  rw [addr_block]
  unfold World.cell? at h0
  rw [addr_block] at h0
  cases hb : w.heap[ad.block]? with
  | none => rw [hb] at h0; simp at h0
  | some o =>
    cases o with
    | cells cs t z => rw [hk _ cs t z hb]; exact hb
    | _ => rw [hb] at h0; simp at h0

section
variable {P : Program} (w : World) {ops : Array Oper} {rest : List Oper} {o : Oper} {a : Act} {Q : Exit → Act → World → Prop}
/-- 'm[k]'. -/
theorem wp_look (hg : o.guard = none) (m x : Operand) (t : TypeId) (hop : o.op = Op.lookup t m x false) (k e : TypeId) (K : Keyed P k) (ht : P.underlying t = some (.map k e)) {z : Value} (hz : (zeroValue e).run P w = .ok z w) (b n : Nat) (D : DataW Value) (f : Int → Option Value)
    (hm : a.eval m = .map (some b)) (hown : w.ownsMap P k tokR b n D) (H : Holds D f) (i : Int) (hx : a.eval x = .int .i64 i) (hkey : keyOf P k (.int .i64 i) = some (.int .i64 i)) (hK : wpList P ops Q rest (a.put o.dst ((f i).getD z)) w) :
    wpList P ops Q (o :: rest) a w := by
  refine wpList_plain hg fun K' hK' => ?_
  obtain ⟨v, ps, hrun, hv⟩ := hown.lookup K ht hz (zd := tok z) (zp := []) rfl hkey
  rw [H.at_] at hv
  have e := tokR_of hv
  subst e
  unfold Oper.wp
  simp [execOp, hop, hm, hx, hrun, Result.andThen]
  exact hK' _ _ hK
/-- 'v, ok := m[k]'. -/
theorem wp_look_ok (hg : o.guard = none) (m x : Operand) (t : TypeId) (hop : o.op = Op.lookup t m x true) (k e : TypeId) (K : Keyed P k) (ht : P.underlying t = some (.map k e)) {z : Value} (hz : (zeroValue e).run P w = .ok z w) (b n : Nat) (D : DataW Value) (f : Int → Option Value)
    (hm : a.eval m = .map (some b)) (hown : w.ownsMap P k tokR b n D) (H : Holds D f) (i : Int) (hx : a.eval x = .int .i64 i) (hkey : keyOf P k (.int .i64 i) = some (.int .i64 i)) (hK : wpList P ops Q rest (a.put o.dst (.tuple #[(f i).getD z, .bool (f i).isSome])) w) :
    wpList P ops Q (o :: rest) a w := by
  refine wpList_lookup_own_ok w hg m x t hop k e K ht tokR hz (tok z) [] rfl b n D hm hown _ _ hx hkey fun v ps hv => ?_
  rw [H.at_] at hv
  have e := tokR_of hv
  subst e
  rw [H.has]
  exact hK
/-- 'm[k] = v'. -/
theorem wp_upd (hg : o.guard = none) (m x v : Operand) (t : TypeId) (hop : o.op = Op.mapUpdate t m x v) (k e : TypeId) (K : Keyed P k) (ht : P.underlying t = some (.map k e)) (b n : Nat) (D : DataW Value) (f : Int → Option Value)
    (hm : a.eval m = .map (some b)) (hown : w.ownsMap P k tokR b n D) (H : Holds D f) (hn : n < maxLen) (i : Int) (u : Value) (hx : a.eval x = .int .i64 i) (hv : a.eval v = u) (hkey : keyOf P k (.int .i64 i) = some (.int .i64 i))
    (hK : ∀ w' D', w'.ownsMap P k tokR b (n + 1) D' → Holds D' (fun j => if j = i then some u else f j) → w.grownBy w' (some b) → wpList P ops Q rest (a.put o.dst undef) w') :
    wpList P ops Q (o :: rest) a w :=
  wpList_mapUpdate_own w hg m x v t hop k e K ht tokR b n D hm hown hn _ _ _ hx hv hkey (tok u) [] rfl fun w' h1 h2 => hK w' _ h1 (H.put i u) h2
/-- 'delete(m, k)'. -/
theorem wp_del (hg : o.guard = none) (m x : Operand) (t k : TypeId) (hop : o.op = Op.call { callee := Callee.builtin Builtin.delete, args := #[m, x], argTypes := #[t, k] }) (e : TypeId) (K : Keyed P k) (ht : P.underlying t = some (.map k e)) (b n : Nat) (D : DataW Value) (f : Int → Option Value)
    (hm : a.eval m = .map (some b)) (hown : w.ownsMap P k tokR b n D) (H : Holds D f) (i : Int) (hx : a.eval x = .int .i64 i) (hkey : keyOf P k (.int .i64 i) = some (.int .i64 i))
    (hK : ∀ w' D', w'.ownsMap P k tokR b n D' → Holds D' (fun j => if j = i then none else f j) → w.grownBy w' (some b) → wpList P ops Q rest (a.put o.dst (.tuple #[])) w') :
    wpList P ops Q (o :: rest) a w :=
  wpList_delete_own w hg m x t k hop e K ht tokR b n D hm hown _ _ hx hkey fun w' h1 h2 => hK w' _ h1 (H.del i) h2.grown
end
/-- A block.Map, its parts named. -/
structure BW (G : Nat → Prop) (w : World) (base p N bA bF : Nat) (DA DF : DataW Value) (a : Int → Option Int) (mF : Int → Option Value) (f : Int → Option (List Int)) : Prop where
  hp : w.heap[p]? = some (.cells #[.map (some bA), .map (some bF)] 74 (0, 0))
  bp : base ≤ p
  ba : base ≤ bA
  bf : base ≤ bF
  ne : bA ≠ bF
  oA : w.ownsMap Tryd.prog 3 tokR bA N DA
  hA : Holds DA (fun k => (a k).map (Value.int .i64))
  oF : w.ownsMap Tryd.prog 3 tokR bF N DF
  hF : Holds DF mF
  el : ∀ k, (f k = none → mF k = none) ∧ ∀ r, f k = some r → ∃ u, mF k = some u ∧ Byt56 G w u r
def BM (G : Nat → Prop) (w : World) (base p N : Nat) (a : Int → Option Int) (f : Int → Option (List Int)) : Prop := ∃ bA bF DA DF mF, BW G w base p N bA bF DA DF a mF f
theorem map_cells {w w1 : World} {k : TypeId} {b n : Nat} {D : DataW Value} (o : w.ownsMap Tryd.prog k tokR b n D) (hg : w.grownBy w1 (some b)) : ∀ (c : Nat) (cs : Array Value) (t : Nat) (z : Nat × Nat), w.heap[c]? = some (.cells cs t z) → w1.heap[c]? = w.heap[c]? := by
  intro c cs t z hc
  obtain ⟨es, ck, hb, _⟩ := o
  refine hg.block c (Array.getElem?_eq_some_iff.1 hc).1 (fun e => ?_)
  have e : c = b := Option.some.inj e
  subst e
  rw [hb] at hc
  cases hc
theorem Byt56.kept {w w1 : World} {u : Value} {r : List Int} (h : Byt56 G w u r) (hk : ∀ (b : Nat) (cs : Array Value) (t : Nat) (z : Nat × Nat), w.heap[b]? = some (.cells cs t z) → w1.heap[b]? = w.heap[b]?) : Byt56 G w1 u r := by
  obtain ⟨A, c, rfl, h1, h2, h3⟩ := h
  exact ⟨A, c, rfl, h1, h2, C_kept h3.1 hk, h3.2⟩
theorem own_more {w : World} {k : TypeId} {b n m : Nat} {D : DataW Value} (h : w.ownsMap Tryd.prog k tokR b n D) (hm : n ≤ m) : w.ownsMap Tryd.prog k tokR b m D := h.mono hm
theorem BW.below {w w1 : World} {base p N bA bF : Nat} {DA DF : DataW Value} {a : Int → Option Int} {mF : Int → Option Value} {f : Int → Option (List Int)} (h : BW G w base p N bA bF DA DF a mF f) (hb : Below w.heap.size w w1) : BW G w1 base p N bA bF DA DF a mF f where
  hp := blk_below h.hp hb
  bp := h.bp
  ba := h.ba
  bf := h.bf
  ne := h.ne
  oA := h.oA.kept (grown_of_below hb none) (by simp)
  hA := h.hA
  oF := h.oF.kept (grown_of_below hb none) (by simp)
  hF := h.hF
  el := fun k => ⟨(h.el k).1, fun r hr => by
    obtain ⟨u, hu, A, c, rfl, h1, h2, h3⟩ := (h.el k).2 r hr
    exact ⟨_, hu, A, c, rfl, h1, h2, Kd.C_below h3.1 hb, h3.2⟩⟩
theorem BW.turnA {w w1 : World} {base p N N1 bA bF : Nat} {DA DF DA1 : DataW Value} {a a1 : Int → Option Int} {mF : Int → Option Value} {f : Int → Option (List Int)} (h : BW G w base p N bA bF DA DF a mF f) (hN : N ≤ N1) (hg : w.grownBy w1 (some bA)) (o : w1.ownsMap Tryd.prog 3 tokR bA N1 DA1) (H : Holds DA1 (fun k => (a1 k).map (Value.int .i64))) : BW G w1 base p N1 bA bF DA1 DF a1 mF f where
  hp := (map_cells h.oA hg _ _ _ _ h.hp).trans h.hp
  bp := h.bp
  ba := h.ba
  bf := h.bf
  ne := h.ne
  oA := o
  hA := H
  oF := (h.oF.kept hg (by have := h.ne; simpa using this.symm)).mono hN
  hF := h.hF
  el := fun k => ⟨(h.el k).1, fun r hr => by
    obtain ⟨u, hu, h1⟩ := (h.el k).2 r hr
    exact ⟨u, hu, h1.kept (map_cells h.oA hg)⟩⟩
theorem BW.turnF {w w1 : World} {base p N N1 bA bF : Nat} {DA DF DF1 : DataW Value} {a : Int → Option Int} {mF mF1 : Int → Option Value} {f f1 : Int → Option (List Int)} (h : BW G w base p N bA bF DA DF a mF f) (hN : N ≤ N1) (hg : w.grownBy w1 (some bF)) (o : w1.ownsMap Tryd.prog 3 tokR bF N1 DF1) (H : Holds DF1 mF1)
    (he : ∀ k, (f1 k = none → mF1 k = none) ∧ ∀ r, f1 k = some r → ∃ u, mF1 k = some u ∧ Byt56 G w u r) : BW G w1 base p N1 bA bF DA DF1 a mF1 f1 where
  hp := (map_cells h.oF hg _ _ _ _ h.hp).trans h.hp
  bp := h.bp
  ba := h.ba
  bf := h.bf
  ne := h.ne
  oA := (h.oA.kept hg (by have := h.ne; simpa using this)).mono hN
  hA := h.hA
  oF := o
  hF := H
  el := fun k => ⟨(he k).1, fun r hr => by
    obtain ⟨u, hu, h1⟩ := (he k).2 r hr
    exact ⟨u, hu, h1.kept (map_cells h.oF hg)⟩⟩
/-- The map's functions, a key set. -/
def setF {β : Type} (a : Int → Option β) (k : Int) (v : Option β) : Int → Option β := fun j => if j = k then v else a j
theorem map_set (a : Int → Option Int) (k : Int) (v : Option Int) : (fun j => (setF a k v j).map (Value.int .i64)) = fun j => if j = k then v.map (Value.int .i64) else (a j).map (Value.int .i64) := by
  funext j
  unfold setF
  split <;> rfl
set_option maxHeartbeats 1000000 in
/-- At: the address that a block is at. -/
theorem at_calls {w : World} {base p N : Nat} {a : Int → Option Int} {f : Int → Option (List Int)} (h : BM G w base p N a f) (k : Int) (hk : (Lit.int .i64 k).wf = true) :
    Calls Tryd.prog 20 #[.pointer (some ⟨p, 0, none⟩), .int .i64 k] w fun e w' => e = .returned (.int .i64 ((a k).getD 0)) ∧ w = w' := by
  obtain ⟨bA, bF, DA, DF, mF, hB⟩ := h
  have c0 : w.cell? ⟨p, 0, none⟩ = some (.map (some bA)) := (blk_cell hB.hp 0).trans rfl
  have hu := Tryd.underlying74
  have HB := Lib.hid hB
  have HK := Lib.hid hk
  have HV : Hid (((a k).map (Value.int .i64)).getD (.int .i64 0) = .int .i64 ((a k).getD 0)) := by show _ = _; cases a k <;> rfl
  clear hB hk
  go_enter Tryd.func20, Tryd.ntmps20
  go_wp2_with (at_lookup; refine wp_look _ rfl _ _ 70 rfl 3 3 law3 Tryd.underlying70 (zeroI _) bA N DA _ rfl HB.out.oA HB.out.hA k rfl (keyOf_int_mk Tryd.underlying3 HK.out) ?_; rw [HV.out])
  go_ret
  exact ⟨rfl, rfl⟩
end Go.Proofs.YthahdombnmkokaaDoor.Given

/- block.Map: Bytes, Place; slices.Clone of bytes: by hand. -/
namespace Go.Proofs.YthahdombnmkokaaDoor.Given
open Go.RowKit Go.Maps Go.Proofs.YthahdombnmkokaaDoorW.PrintWords Go.Proofs.YthahdombnmkokaaDoorW.PrintLast Go.Proofs.YthahdombnmkokaaDoorW.PrintMore Go.Proofs.YthahdombnmkokaaDoor.Base
set_option linter.unusedVariables false
set_option linter.unusedSimpArgs false
variable {G : Nat → Prop}
theorem infoB : (Tryd.prog.info? 5).map (fun i => (i.zero, i.size, i.bytes)) = some (some (.int .u8 0), 1, 1) := by kernel_rfl
set_option maxRecDepth 100000 in
set_option maxHeartbeats 1000000 in
theorem clone_none (c : Nat) (w : World) : Calls Tryd.prog 30 #[.slice none 0 c] w fun e w' => e = .returned (.slice none 0 0) ∧ w = w' := by
  have q30 : ∀ (w : World) (a : Option Addr) (n c n' c' : Nat), (binOp .eql 34 (.slice a n c) (.slice none n' c')).run Tryd.prog w = .ok (.bool a.isNone) w := fun w a n c n' c' => Lib.run_eql_slice_nil w _ _ a n c n' c' Tryd.underlying34
  go_enter Tryd.func30, Tryd.ntmps30
  go_wp2
  go_ret
  exact ⟨rfl, rfl⟩
set_option maxRecDepth 100000 in
set_option maxHeartbeats 1000000 in
theorem clone_some (ad : Addr) (c : Nat) (l : List Int) (w : World) (hC : Kd.C (Kd.int .u8) w (some ad) l.length l) (hl : l.length ≤ 1000000) :
    Calls Tryd.prog 30 #[.slice (some ad) l.length c] w fun e w' => ∃ v0 : Value, e = .returned v0 ∧ Kd.R (Kd.int .u8) 5 w' w.heap.size (fun _ => True) v0 l ∧ Below w.heap.size w w' := by
  have HR0 := Lib.hid hC
  have HB := Lib.hid (Below.refl w.heap.size w)
  clear hC
  have q30 : ∀ (w : World) (a : Option Addr) (n c n' c' : Nat), (binOp .eql 34 (.slice a n c) (.slice none n' c')).run Tryd.prog w = .ok (.bool a.isNone) w := fun w a n c n' c' => Lib.run_eql_slice_nil w _ _ a n c n' c' Tryd.underlying34
  go_enter Tryd.func30, Tryd.ntmps30
  go_wp2_with (first | ((with_reducible refine gate_dst (N := 5) rfl ?_); refine Kd.R_lit (Kd.int .u8) _ 5 ?hg (N := 5) ?hd (xs := ([] : List Int)) (inner := []) (ok := fun _ => True) (okp := fun _ => True) ?hr ?hp (fun _ hk => hk) trivial (Below.refl _ _) (Nat.le_refl _) (by simp) ?_; (case hd => rfl); (case hg => rfl); (case hr => first | (go_simp; done) | (go_simp; rfl)); (case hp => exact (Reps.none _ _)); intro v3 w3 ho hb hg_ hnew_; have HB3 := Lib.hid hb; have HO3 := Lib.hid ho; clear ho hb hg_ hnew_) | ((with_reducible refine gate_builtin (b := .append) (xs := #[.tmp 5, .tmp 6]) rfl ?_); at_builtin; refine Kd.R_append_rows (Kd.int .u8) (w0 := w) w.heap.size rfl (.tmp 5) (.tmp 6) 34 5 (.int .u8 0) 1 rfl Tryd.underlying34 infoB rfl (by decide) (by omega) v3 [] l _ _ _ (fun _ => True) (fun _ => False) rfl rfl ?aO ?aR (fun _ _ h => h) (fun _ h => h.elim) ?aF ?aB ?aS ?aL ?_; (case aR => exact Kd.C_below HR0.out HB3.out); (case aB => exact HB3.out); (case aF => exact (fun _ _ => trivial)); (case aO => exact HO3.out); (case aS => exact HB3.out.size); (case aL => simp only [List.length_nil]; omega); intro v5 w5 ho hb hg hat; have HB5 := Lib.hid hb; have HO5 := Lib.hid ho; clear ho hb hg hat))
  go_ret
  exact ⟨_, rfl, HO5.out, HB5.out⟩
/-- A slice that was made is a block's bytes. -/
theorem byt_of_R {w : World} {base : Nat} {ok : Nat → Prop} {v : Value} {r : List Int} (h : Kd.R (Kd.int .u8) 5 w base ok v r) (hr : r.length = 56) (hG : ∀ b, base ≤ b → G b) : Byt56 G w v r := by
  obtain ⟨A, c, rfl⟩ := Kd.R_slice h
  refine ⟨A, c, rfl, (Kd.R_reads' h).2.1, hr, (Kd.R_reads' h).2.2, fun ad e => hG _ ((Kd.R_bound h).1 ad.block ?_).2.1⟩
  rw [e]
  have := Kd.own_of_R h
  rcases this.2 with ⟨e2, _⟩ | ⟨g, cap, cur, e2, _⟩
  · injection e2 with e2; rw [e] at e2; cases e2
  · injection e2 with e2; rw [e] at e2; injection e2 with e2; rw [e2]; rfl
set_option maxHeartbeats 1000000 in
/-- Bytes: a new block's bytes. -/
theorem bytes_some {w : World} {base p N : Nat} {a : Int → Option Int} {f : Int → Option (List Int)} (h : BM G w base p N a f) (k : Int) (hk : (Lit.int .i64 k).wf = true) (r : List Int) (hr : f k = some r) :
    Calls Tryd.prog 38 #[.pointer (some ⟨p, 0, none⟩), .int .i64 k] w fun e w' => ∃ v0 : Value, e = .returned (.tuple #[v0, .bool true]) ∧ Kd.R (Kd.int .u8) 5 w' w.heap.size (fun _ => True) v0 r ∧ Below w.heap.size w w' := by
  obtain ⟨bA, bF, DA, DF, mF, hB⟩ := h
  have c0 : w.cell? ⟨p, 1, none⟩ = some (.map (some bF)) := (blk_cell hB.hp 1).trans rfl
  have hu := Tryd.underlying74
  obtain ⟨u, hu1, A, c, rfl, hc, h56, hC⟩ := (hB.el k).2 r hr
  have hC := hC.1
  obtain ⟨ad, rfl, _⟩ := hC.2.2 (by omega)
  have HB := Lib.hid hB
  have HK := Lib.hid hk
  have HC := Lib.hid hC
  have HV : Hid ((mF k).getD (.slice none 0 0) = .slice (some ad) r.length c ∧ (mF k).isSome = true) := by show _ ∧ _; rw [hu1]; exact ⟨rfl, rfl⟩
  have H56 := Lib.hid h56
  clear hB hk hC hu1 hr h56
  go_enter Tryd.func38, Tryd.ntmps38
  go_wp2_with (at_lookup; refine wp_look_ok _ rfl _ _ 72 rfl 3 34 law3 Tryd.underlying72 (zeroS _) bF N DF _ rfl HB.out.oF HB.out.hF k rfl (keyOf_int_mk Tryd.underlying3 HK.out) ?_; rw [HV.out.1, HV.out.2])
  refine (clone_some ad c r _ HC.out (by rw [H56.out]; decide)).mono ?_
  rintro e w1 ⟨v0, rfl, hR, hb⟩
  have HR := Lib.hid hR
  have HBe := Lib.hid hb
  clear hR hb
  go_wp2
  go_ret2
  exact ⟨v0, rfl, HR.out, HBe.out⟩
set_option maxHeartbeats 1000000 in
theorem bytes_none {w : World} {base p N : Nat} {a : Int → Option Int} {f : Int → Option (List Int)} (h : BM G w base p N a f) (k : Int) (hk : (Lit.int .i64 k).wf = true) (hr : f k = none) :
    Calls Tryd.prog 38 #[.pointer (some ⟨p, 0, none⟩), .int .i64 k] w fun e w' => e = .returned (.tuple #[.slice none 0 0, .bool false]) ∧ w = w' := by
  obtain ⟨bA, bF, DA, DF, mF, hB⟩ := h
  have c0 : w.cell? ⟨p, 1, none⟩ = some (.map (some bF)) := (blk_cell hB.hp 1).trans rfl
  have hu := Tryd.underlying74
  have hu1 := (hB.el k).1 hr
  have HB := Lib.hid hB
  have HK := Lib.hid hk
  have HV : Hid ((mF k).getD (.slice none 0 0) = .slice none 0 0 ∧ (mF k).isSome = false) := by show _ ∧ _; rw [hu1]; exact ⟨rfl, rfl⟩
  clear hB hk hu1 hr
  go_enter Tryd.func38, Tryd.ntmps38
  go_wp2_with (at_lookup; refine wp_look_ok _ rfl _ _ 72 rfl 3 34 law3 Tryd.underlying72 (zeroS _) bF N DF _ rfl HB.out.oF HB.out.hF k rfl (keyOf_int_mk Tryd.underlying3 HK.out) ?_; rw [HV.out.1, HV.out.2])
  refine (clone_none 0 _).mono ?_
  rintro e w1 ⟨rfl, rfl⟩
  go_wp2
  go_ret2
  exact ⟨rfl, rfl⟩
end Go.Proofs.YthahdombnmkokaaDoor.Given

/- block.Map: Place: by hand. -/
namespace Go.Proofs.YthahdombnmkokaaDoor.Given
open Go.RowKit Go.Maps Go.Proofs.YthahdombnmkokaaDoorW.PrintWords Go.Proofs.YthahdombnmkokaaDoorW.PrintLast Go.Proofs.YthahdombnmkokaaDoorW.PrintMore Go.Proofs.YthahdombnmkokaaDoor.Base
set_option linter.unusedVariables false
set_option linter.unusedSimpArgs false
variable {G : Nat → Prop}
theorem wf_i {k : Int} (h0 : 0 ≤ k) (h1 : k ≤ 4611686018427387904) : (Lit.int .i64 k).wf = true := WalkArith.wf_i64 (by omega)
theorem el_del {w : World} {mF : Int → Option Value} {f : Int → Option (List Int)} (h : ∀ k, (f k = none → mF k = none) ∧ ∀ r, f k = some r → ∃ u, mF k = some u ∧ Byt56 G w u r) (k : Int) : ∀ j, (setF f k none j = none → (if j = k then none else mF j) = none) ∧ ∀ r, setF f k none j = some r → ∃ u, (if j = k then none else mF j) = some u ∧ Byt56 G w u r := by
  intro j
  unfold setF
  by_cases e : j = k
  · rw [if_pos e, if_pos e]; exact ⟨fun _ => rfl, fun r h => by cases h⟩
  · rw [if_neg e, if_neg e]; exact h j
theorem el_put {w : World} {mF : Int → Option Value} {f : Int → Option (List Int)} (h : ∀ k, (f k = none → mF k = none) ∧ ∀ r, f k = some r → ∃ u, mF k = some u ∧ Byt56 G w u r) (k : Int) (u : Value) (r : List Int) (hu : Byt56 G w u r) : ∀ j, (setF f k (some r) j = none → (if j = k then some u else mF j) = none) ∧ ∀ r1, setF f k (some r) j = some r1 → ∃ v, (if j = k then some u else mF j) = some v ∧ Byt56 G w v r1 := by
  intro j
  unfold setF
  by_cases e : j = k
  · rw [if_pos e, if_pos e]; exact ⟨fun h => by (cases h), fun r1 h => by cases h; exact ⟨u, rfl, hu⟩⟩
  · rw [if_neg e, if_neg e]; exact h j
theorem hA_set {DA : DataW Value} {a : Int → Option Int} {k : Int} {v : Option Int} {m : Int → Option Value} (h : Holds DA m) (e : ∀ j, m j = if j = k then v.map (Value.int .i64) else (a j).map (Value.int .i64)) : Holds DA (fun j => (setF a k v j).map (Value.int .i64)) := by
  rw [map_set]
  have : m = fun j => if j = k then v.map (Value.int .i64) else (a j).map (Value.int .i64) := funext e
  rwa [← this]
theorem addr_yes (n : Int) (w : World) (h1 : 1 ≤ n) (h2 : n ≤ 65535) : Calls Tryd.prog 36 #[.int .i64 n] w fun e w' => e = .returned (.bool true) ∧ w = w' := by
  go_enter Tryd.func36, Tryd.ntmps36
  go_wp2
  go_ret
  exact ⟨rfl, rfl⟩
theorem addr_no (n : Int) (w : World) (h : n < 1 ∨ 65535 < n) : Calls Tryd.prog 36 #[.int .i64 n] w fun e w' => e = .returned (.bool false) ∧ w = w' := by
  rcases h with h | h
  · have h' : decide (1 ≤ n) = false := decide_eq_false (by omega)
    go_enter Tryd.func36, Tryd.ntmps36
    go_wp2
    go_ret
    exact ⟨rfl, rfl⟩
  · have h' : 1 ≤ n := by omega
    have h'' : decide (n ≤ 65535) = false := decide_eq_false (by omega)
    go_enter Tryd.func36, Tryd.ntmps36
    go_wp2
    go_ret
    exact ⟨rfl, rfl⟩
end Go.Proofs.YthahdombnmkokaaDoor.Given

/- The contract of bits.Nought (bytes.Trim at the byte 0), in the printed contracts' form: by hand. -/
namespace Go.Proofs.YthahdombnmkokaaDoor.Given
open Go.RowKit Go.Proofs.YthahdombnmkokaaDoorW.PrintWords Go.Proofs.YthahdombnmkokaaDoorW.PrintLast
set_option linter.unusedVariables false
set_option linter.unusedSimpArgs false

def slLen : Value → Nat
  | .slice _ m _ => m
  | _ => 0
/-- How many bytes stay when the noughts at the end go. -/
def tl (xs : List Int) : Nat → Nat
  | 0 => 0
  | n + 1 => if xs.getD n 0 = 0 then tl xs n else n + 1
theorem tl_le (xs : List Int) (n : Nat) : tl xs n ≤ n := by
  induction n with
  | zero => exact Nat.le_refl _
  | succ n ih => simp only [tl]; split <;> omega
theorem tl_last (xs : List Int) (n : Nat) (h : 0 < tl xs n) : xs.getD (tl xs n - 1) 0 ≠ 0 := by
  induction n with
  | zero => simp [tl] at h
  | succ n ih =>
    simp only [tl] at h ⊢
    split
    · rename_i h0; rw [if_pos h0] at h; exact ih h
    · rename_i h0; simpa using h0
theorem tl_zero (xs : List Int) (n : Nat) : tl xs n = 0 ↔ ∀ j, j < n → xs.getD j 0 = 0 := by
  induction n with
  | zero => simp [tl]
  | succ n ih =>
    simp only [tl]
    split
    · rename_i h0
      rw [ih]
      constructor
      · intro h j hj
        rcases Nat.lt_succ_iff_lt_or_eq.1 hj with h1 | h1
        · exact h j h1
        · rw [h1]; exact h0
      · intro h j hj; exact h j (by omega)
    · rename_i h0
      constructor
      · intro h; omega
      · intro h; exact absurd (h n (by omega)) h0

set_option maxHeartbeats 1000000 in
theorem trim_right (A : Option Addr) (n c : Nat) (xs : List Int) (w : World) (h : Kd.C (Kd.int .u8) w A n xs) (hc : n ≤ c) :
    Calls Tryd.prog 56 #[.slice A n c, .int .u8 0] w fun e w' => e = .returned (.slice A (tl xs n) c) ∧ w = w' := by
  have hr := Kd.reads_of_C (d := (0 : Int)) h
  have hn := hr.2.1
  have HC : Hid (0 < n → ∃ ad, A = some ad ∧ ∀ j, j < n → w.cell? (ad.add j) = some (.int .u8 (xs.getD j 0))) := hr.2.2
  clear h hr
  go_enter Tryd.func56, Tryd.ntmps56
  go_wp2
  go_loop [0] (fun s => ∃ m : Nat, m ≤ n ∧ s = .slice A m c ∧ Hid (tl xs m = tl xs n)) slLen
  case atStart => exact ⟨n, Nat.le_refl _, rfl, rfl⟩
  case round =>
    obtain ⟨m, hm, rfl, ht⟩ := hrel
    cases m with
    | zero =>
      go_wp2
      go_ret
      exact ⟨by rw [← ht.out]; rfl, rfl⟩
    | succ k =>
      obtain ⟨ad, rfl, hcell⟩ := HC.out (by omega)
      have hk := hcell k (by omega)
      obtain ⟨y, hy⟩ : ∃ y, xs.getD k 0 = y := ⟨_, rfl⟩
      rw [hy] at hk
      have HY : Hid (xs.getD k 0 = y) := hy
      clear hy hcell
      by_cases h0 : y = 0
      · subst h0
        go_wp2
        go_round
        case rel => exact ⟨k, by omega, rfl, by have e := ht.out; simp only [tl] at e; rw [if_pos HY.out] at e; exact e⟩
        case measure => simp [slLen]
      · have h1 : (y == 0) = false := beq_eq_false_iff_ne.2 h0
        have H0 : Hid (y ≠ 0) := h0
        clear h0
        go_wp2
        go_ret
        refine ⟨?_, rfl⟩
        rw [← ht.out]; simp only [tl]; rw [if_neg (by rw [HY.out]; exact H0.out)]; rfl

/-- The slice behind the leading noughts. -/
def leadV (xs : List Int) (m : Nat) : Nat → Addr → Nat → Value
  | 0, _, _ => .slice none 0 0
  | q + 1, a, c => if xs.getD (m - (q + 1)) 0 = 0 then leadV xs m q (a.add 1) (c - 1) else .slice (some a) (q + 1) c
theorem leadV_len (xs : List Int) (m : Nat) (hl : xs.getD (m - 1) 0 ≠ 0) : ∀ (q : Nat) (a : Addr) (c : Nat), 1 ≤ q → q ≤ m → ∃ a' q' c', leadV xs m q a c = .slice (some a') q' c' ∧ 1 ≤ q' := by
  intro q
  induction q with
  | zero => intro a c h1 h2; omega
  | succ q ih =>
    intro a c h1 h2
    simp only [leadV]
    split
    · rename_i h0
      by_cases hq : q = 0
      · subst hq; exact absurd h0 hl
      · exact ih _ _ (by omega) (by omega)
    · exact ⟨_, _, _, rfl, by omega⟩
theorem add_one_add (a : Addr) (j : Nat) : (a.add 1).add j = a.add (j + 1) := by
  unfold Addr.add
  split <;> simp_all <;> omega
theorem trim_left_none (A : Option Addr) (c : Nat) (w : World) :
    Calls Tryd.prog 55 #[.slice A 0 c, .int .u8 0] w fun e w' => e = .returned (.slice none 0 0) ∧ w = w' := by
  go_enter Tryd.func55, Tryd.ntmps55
  go_wp2
  go_loop [0] (fun s => s = .slice A 0 c) (fun s => 0)
  case atStart => rfl
  case round =>
    subst hrel
    go_wp2
    go_ret
    exact ⟨rfl, rfl⟩

set_option maxHeartbeats 1000000 in
theorem trim_left (ad : Addr) (m c : Nat) (xs : List Int) (w : World) (hcells : ∀ j, j < m → w.cell? (ad.add j) = some (.int .u8 (xs.getD j 0))) (hm : m ≤ 9223372036854775807) (hc : m ≤ c) (h0 : 1 ≤ m) (hl : xs.getD (m - 1) 0 ≠ 0) :
    Calls Tryd.prog 55 #[.slice (some ad) m c, .int .u8 0] w fun e w' => e = .returned (leadV xs m m ad c) ∧ w = w' := by
  have HC : Hid (∀ j, j < m → w.cell? (ad.add j) = some (.int .u8 (xs.getD j 0))) := hcells
  have HL : Hid (xs.getD (m - 1) 0 ≠ 0) := hl
  clear hcells hl
  obtain ⟨V, hV⟩ : ∃ V, leadV xs m m ad c = V := ⟨_, rfl⟩
  rw [hV]
  have HV : Hid (leadV xs m m ad c = V) := hV
  clear hV
  go_enter Tryd.func55, Tryd.ntmps55
  go_wp2
  go_loop [0] (fun s => ∃ (q c' : Nat) (a' : Addr), s = .slice (some a') (q + 1) c' ∧ q + 1 ≤ m ∧ q + 1 ≤ c' ∧ Hid (leadV xs m (q + 1) a' c' = V) ∧ Hid (∀ j, j < q + 1 → w.cell? (a'.add j) = some (.int .u8 (xs.getD (m - (q + 1) + j) 0)))) slLen
  case atStart =>
    obtain ⟨m', rfl⟩ : ∃ k, m = k + 1 := ⟨m - 1, by omega⟩
    refine ⟨m', c, ad, rfl, by omega, by omega, HV, ?_⟩
    intro j hj
    rw [show m' + 1 - (m' + 1) + j = j by omega]
    exact HC.out j hj
  case round =>
    obtain ⟨q, c', a', rfl, hq, hqc, hv, hcell⟩ := hrel
    have hk := hcell.out 0 (by omega)
    rw [show m - (q + 1) + 0 = m - (q + 1) by omega] at hk
    have a0 : a'.add 0 = a' := by cases a'; simp [Addr.add]
    rw [a0] at hk
    obtain ⟨y, hy⟩ : ∃ y, xs.getD (m - (q + 1)) 0 = y := ⟨_, rfl⟩
    rw [hy] at hk
    have HY : Hid (xs.getD (m - (q + 1)) 0 = y) := hy
    clear hy a0
    by_cases h0 : y = 0
    · have hq1 : 1 ≤ q := by
        rcases Nat.eq_zero_or_pos q with e | e
        · subst e; exact absurd (HY.out.trans h0) HL.out
        · exact e
      subst h0
      obtain ⟨q', rfl⟩ : ∃ j, q = j + 1 := ⟨q - 1, by omega⟩
      go_wp2
      go_round
      case rel =>
        refine ⟨q', c' - 1, a'.add 1, rfl, by omega, by omega, ?_, ?_⟩
        · have e := hv.out
          rw [leadV, if_pos HY.out] at e
          exact e
        · intro j hj
          have := hcell.out (j + 1) (by omega)
          rw [add_one_add, this, show m - (q' + 1 + 1) + (j + 1) = m - (q' + 1) + j by omega]
      case measure => simp [slLen]
    · have h1 : (y == 0) = false := beq_eq_false_iff_ne.2 h0
      have H0 : Hid (y ≠ 0) := h0
      clear h0
      go_wp2
      go_ret
      refine ⟨?_, rfl⟩
      rw [← hv.out]; simp only [leadV]; rw [if_neg (by rw [HY.out]; exact H0.out)]; rfl

def NoughtPost (xs : List Int) (n : Nat) (w : World) (e : Ending) (w' : World) : Prop := ∃ A' q c', e = .returned (.slice A' q c') ∧ (q = 0 ↔ tl xs n = 0) ∧ ∃ k, w' = w.drewN k

set_option maxHeartbeats 1000000 in
set_option maxRecDepth 100000 in
theorem trim_any (A : Option Addr) (n c : Nat) (xs : List Int) (w : World) (h : Kd.C (Kd.int .u8) w A n xs) (hc : n ≤ c) :
    Calls Tryd.prog 46 #[.slice A n c, .string ⟨#[0]⟩] w (NoughtPost xs n w) := by
  have hn : n ≤ 9223372036854775807 := (Kd.reads_of_C (d := (0 : Int)) h).2.1
  rcases Nat.eq_zero_or_pos n with hz | hpos
  · subst hz
    clear h
    go_enter Tryd.func46, Tryd.ntmps46
    go_wp2
    go_ret
    exact ⟨_, _, _, rfl, by simp [tl], 0, rfl⟩
  · obtain ⟨ad, rfl, hcells⟩ := (Kd.reads_of_C (d := (0 : Int)) h).2.2 hpos
    have HR : Hid (∀ w, Kd.C (Kd.int .u8) w (some ad) n xs → True) := fun _ _ => trivial
    have hle := tl_le xs n
    obtain ⟨m, hm⟩ : ∃ m, tl xs n = m := ⟨_, rfl⟩
    have K1 : Hid (∀ k, Calls Tryd.prog 56 #[.slice (some ad) n c, .int .u8 0] (w.drewN k) fun e w' => e = .returned (.slice (some ad) m c) ∧ w' = w.drewN k) := by
      intro k
      refine (trim_right (some ad) n c xs (w.drewN k) (Kd.C_below h ((Drawn0.step (Drawn0.refl w) k).below)) hc).mono ?_
      rintro e w' ⟨rfl, rfl⟩
      rw [hm]; exact ⟨rfl, rfl⟩
    have hn0 : ((n : Int) == 0) = false := beq_eq_false_iff_ne.2 (by omega)
    have HM : Hid (tl xs n = m) := hm
    rcases Nat.eq_zero_or_pos m with hm0 | hm1
    · subst hm0
      clear h hcells hm
      have K2 : Hid (∀ k, Calls Tryd.prog 55 #[.slice (some ad) 0 c, .int .u8 0] (w.drewN k) fun e w' => e = .returned (.slice none 0 0) ∧ w' = w.drewN k) := by
        intro k
        refine (trim_left_none (some ad) c (w.drewN k)).mono ?_
        rintro e w' ⟨rfl, rfl⟩
        exact ⟨rfl, rfl⟩
      go_enter Tryd.func46, Tryd.ntmps46
      go_wp2
      go_quiet ((first | (go_at_call 56; exact Calls.quiet_of_same (K1.out _)) | (go_at_call 55; exact Calls.quiet_of_same (K2.out _))))
      go_wp2
      go_ret
      exact ⟨_, _, _, rfl, by rw [HM.out], _, rfl⟩
    · have hlast : xs.getD (m - 1) 0 ≠ 0 := by rw [← hm]; exact tl_last xs n (by omega)
      obtain ⟨a', q', c', hV, hq⟩ := leadV_len xs m hlast m ad c (by omega) (Nat.le_refl _)
      have K2 : Hid (∀ k, Calls Tryd.prog 55 #[.slice (some ad) m c, .int .u8 0] (w.drewN k) fun e w' => e = .returned (.slice (some a') q' c') ∧ w' = w.drewN k) := by
        intro k
        refine (trim_left ad m c xs (w.drewN k) (fun j hj => ?_) (by omega) (by omega) (by omega) hlast).mono ?_
        · exact (((Drawn0.step (Drawn0.refl w) k).below).cell (World.block_lt_of_cell? w _ (hcells j (by omega)))).trans (hcells j (by omega))
        · rintro e w' ⟨rfl, rfl⟩
          rw [hV]; exact ⟨rfl, rfl⟩
      have HQ : Hid (1 ≤ q') := hq
      clear h hcells hm hV hq hlast
      have HN : Hid (1 ≤ m) := by show 1 ≤ m; omega
      go_enter Tryd.func46, Tryd.ntmps46
      go_wp2
      go_quiet ((first | (go_at_call 56; exact Calls.quiet_of_same (K1.out _)) | (go_at_call 55; exact Calls.quiet_of_same (K2.out _))))
      go_wp2
      go_ret
      exact ⟨_, _, _, rfl, by have h1 := HQ.out; have h2 := HN.out; rw [HM.out]; omega, _, rfl⟩

def bits_Nought.f (l : List Int) : Option Bool := some (decide (tl l l.length = 0))
theorem bits_Nought.calls (A0 : Option Addr) (c0 : Nat) (l0 : List Int) (r : Bool) (w : World) (hr0 : Kd.C (Kd.int .u8) w A0 l0.length l0) (hc0 : l0.length ≤ c0) (h : bits_Nought.f l0 = some r) :
    Calls Tryd.prog 37 #[.slice A0 l0.length c0] w fun e w' => e = .returned (.bool r) ∧ Drawn0 w w' := by
  unfold bits_Nought.f at h
  have hr := Option.some.inj h
  have HR : Hid (decide (tl l0 l0.length = 0) = r) := hr
  clear hr h
  obtain ⟨n, hn⟩ : ∃ n, l0.length = n := ⟨_, rfl⟩
  rw [hn] at hr0 hc0 HR ⊢
  clear hn
  go_enter Tryd.func37, Tryd.ntmps37
  go_wp2_with (go_at_call 46; refine (trim_any A0 n c0 l0 _ hr0 hc0).mono ?_; rintro e w' ⟨A', q, c', rfl, hq, k, rfl⟩; have HQ : Hid (q = 0 ↔ tl l0 n = 0) := hq; clear hq)
  go_ret
  refine ⟨?_, ⟨⟨k, rfl⟩⟩⟩
  have e : ((q : Int) == 0) = decide (tl l0 n = 0) := by
    rw [Bool.eq_iff_iff]; simp only [beq_iff_eq, decide_eq_true_eq]; rw [← HQ.out]; omega
  rw [← HR.out]
  exact congrArg (fun b => Ending.returned (.bool b)) e

end Go.Proofs.YthahdombnmkokaaDoor.Given

/- block.Map: Put: by hand. -/
namespace Go.Proofs.YthahdombnmkokaaDoor.Given
open Go.RowKit Go.Maps Go.Proofs.YthahdombnmkokaaDoorW.PrintWords Go.Proofs.YthahdombnmkokaaDoorW.PrintLast Go.Proofs.YthahdombnmkokaaDoorW.PrintMore Go.Proofs.YthahdombnmkokaaDoor.Base
set_option linter.unusedVariables false
set_option linter.unusedSimpArgs false
variable {G : Nat → Prop}
section
variable {P : Program} (w : World) {ops : Array Oper} {o : Oper} {a : Act} {Q : Exit → Act → World → Prop} {Kc : Act → World → Prop} {E : Prop}
theorem step_upd (hg : o.guard = none) (m x v : Operand) (t : TypeId) (hop : o.op = Op.mapUpdate t m x v) (k e : TypeId) (K : Keyed P k) (ht : P.underlying t = some (.map k e)) (b n : Nat) (D : DataW Value) (f : Int → Option Value)
    (hm : a.eval m = .map (some b)) (hown : w.ownsMap P k tokR b n D) (H : Holds D f) (hn : n < maxLen) (i : Int) (u : Value) (hx : a.eval x = .int .i64 i) (hv : a.eval v = u) (hkey : keyOf P k (.int .i64 i) = some (.int .i64 i))
    (hK : ∀ w' D', w'.ownsMap P k tokR b (n + 1) D' → Holds D' (fun j => if j = i then some u else f j) → w.grownBy w' (some b) → Kc (a.put o.dst undef) w') :
    if Region.wanted o (yielded ops a.tmps) = true then Oper.wp P o a w Kc Q else E := by
  have hw : Region.wanted o (yielded ops a.tmps) = true := by simp [Region.wanted, hg]
  rw [if_pos hw]
  obtain ⟨w', hrun, r1, r2⟩ := hown.update K ht hn hkey (d := tok u) (ps := []) (val := u) rfl
  unfold Oper.wp
  simp [execOp, hop, hm, hx, hv, hrun, Result.andThen]
  exact hK w' _ r1 (H.put i u) r2
end
set_option maxRecDepth 100000 in
set_option maxHeartbeats 2000000 in
/-- Put: no block's number, or no block's bytes. -/
theorem put_bad {w : World} (p : Nat) (k : Int) (A : Option Addr) (n c : Nat) (hn : n ≤ 140737488355328) (h : k < 0 ∨ 828 ≤ k ∨ n ≠ 56) :
    Calls Tryd.prog 27 #[.pointer (some ⟨p, 0, none⟩), .int .i64 k, .slice A n c] w fun e w' => e = .returned (.int .i64 28) ∧ w = w' := by
  by_cases h0 : k < 0
  · go_enter Tryd.func27, Tryd.ntmps27
    go_wp2
    go_ret
    exact ⟨rfl, rfl⟩
  · have d0 : decide (k < 0) = false := decide_eq_false h0
    by_cases h1 : 828 ≤ k
    · have d1 : decide (828 ≤ k) = true := decide_eq_true h1
      clear h0
      go_enter Tryd.func27, Tryd.ntmps27
      go_wp2
      go_ret
      exact ⟨rfl, rfl⟩
    · have d1 : decide (828 ≤ k) = false := decide_eq_false h1
      have hn : ((n : Int) != 56) = true := bne_iff_ne.2 (by omega)
      clear h h0 h1
      go_enter Tryd.func27, Tryd.ntmps27
      go_wp2
      go_ret
      exact ⟨rfl, rfl⟩
set_option maxRecDepth 100000 in
set_option maxHeartbeats 4000000 in
/-- Put: noughts are none. -/
theorem put_zero {w : World} {base p N : Nat} {a : Int → Option Int} {f : Int → Option (List Int)} (h : BM G w base p N a f) (k : Int) (h0 : 0 ≤ k) (h1 : k < 828) (A : Option Addr) (c : Nat) (b : List Int) (hb : b.length = 56) (hc : 56 ≤ c) (hC : Kd.C (Kd.int .u8) w A b.length b) (hz : bits_Nought.f b = some true) :
    Calls Tryd.prog 27 #[.pointer (some ⟨p, 0, none⟩), .int .i64 k, .slice A 56 c] w fun e w' => e = .returned (.int .i64 0) ∧ BM G w' base p N (setF a k none) (setF f k none) ∧ Below base w w' := by
  obtain ⟨bA, bF, DA, DF, mF, hB⟩ := h
  have c0 : w.cell? ⟨p, 0, none⟩ = some (.map (some bA)) := (blk_cell hB.hp 0).trans rfl
  have hu := Tryd.underlying74
  have d0 : decide (k < 0) = false := decide_eq_false (by omega)
  have d1 : decide (828 ≤ k) = false := decide_eq_false (by omega)
  have HB := Lib.hid hB
  have HC := Lib.hid hC
  have HZ := Lib.hid hz
  have H56 := Lib.hid hb
  have HK : Hid ((Lit.int .i64 k).wf = true) := wf_i h0 (by omega)
  have HBE := Lib.hid (Below.refl base w)
  clear hB hC hz hb
  go_enter Tryd.func27, Tryd.ntmps27
  go_wp2_with (first | (have t1 := c0; at_delete; refine wp_del _ rfl _ _ 70 3 rfl 3 law3 Tryd.underlying70 bA N DA _ rfl HB.out.oA HB.out.hA k rfl (keyOf_int_mk Tryd.underlying3 HK.out) ?_; intro w1 D1 ho1 hh1 hg1; have HB1 := Lib.hid (HB.out.turnA (Nat.le_refl _) hg1 ho1 (hA_set (a := a) (k := k) (v := none) hh1 (fun j => rfl))); have HE1 : Hid (Below base w w1) := HBE.out.grown hg1 (Nat.le_trans HB.out.bp (Nat.le_of_lt (blk_lt HB.out.hp))) (fun q e => by cases e; exact HB.out.ba); have HC1 := Lib.hid (C_kept HC.out (map_cells HB.out.oA hg1)); have c1 : w1.cell? ⟨p, 1, none⟩ = some (.map (some bF)) := (blk_cell HB1.out.hp 1).trans rfl; clear c0 ho1 hh1 hg1) | (have t1 := c1; at_delete; refine wp_del _ rfl _ _ 72 3 rfl 34 law3 Tryd.underlying72 bF N DF _ rfl HB1.out.oF HB1.out.hF k rfl (keyOf_int_mk Tryd.underlying3 HK.out) ?_; intro w2 D2 ho2 hh2 hg2; have HB2 := Lib.hid (HB1.out.turnF (Nat.le_refl _) hg2 ho2 hh2 (el_del HB1.out.el k)); have HE2 : Hid (Below base w w2) := HE1.out.grown hg2 (Nat.le_trans HB1.out.bp (Nat.le_of_lt (blk_lt HB1.out.hp))) (fun q e => by cases e; exact HB1.out.bf); have HC2 := Lib.hid (C_kept HC1.out (map_cells HB1.out.oF hg2)); clear c1 ho2 hh2 hg2))
  have hcn := bits_Nought.calls A c b true w2 HC2.out (by rw [H56.out]; exact hc) HZ.out
  rw [H56.out] at hcn
  refine hcn.mono ?_
  clear hcn
  rintro e w3 ⟨rfl, ⟨nd, rfl⟩⟩
  go_wp2
  go_ret
  exact ⟨rfl, ⟨_, _, _, _, _, HB2.out.below (pw_below_drewN (Below.refl _ _) nd)⟩, pw_below_drewN HE2.out nd⟩
theorem setF_setF {β : Type} (f : Int → Option β) (k : Int) (u v : Option β) : setF (setF f k u) k v = setF f k v := by
  funext j
  unfold setF
  by_cases e : j = k
  · rw [if_pos e, if_pos e]
  · rw [if_neg e, if_neg e, if_neg e]
theorem el_put6 {w : World} {mF : Int → Option Value} {f : Int → Option (List Int)} {k : Int} (h : ∀ j, (setF f k none j = none → mF j = none) ∧ ∀ r, setF f k none j = some r → ∃ u, mF j = some u ∧ Byt56 G w u r) (k' : Int) (u : Value) (r : List Int) (hu : Byt56 G w u r) (e : k' = k := by rfl) : ∀ j, (setF f k' (some r) j = none → (if j = k' then some u else mF j) = none) ∧ ∀ r1, setF f k' (some r) j = some r1 → ∃ v, (if j = k' then some u else mF j) = some v ∧ Byt56 G w v r1 := by
  subst e
  have := el_put h k' u r hu
  rwa [setF_setF] at this
end Go.Proofs.YthahdombnmkokaaDoor.Given

/- block.New: by hand. -/
namespace Go.Proofs.YthahdombnmkokaaDoor.Given
open Go.RowKit Go.Maps Go.Proofs.YthahdombnmkokaaDoorW.PrintWords Go.Proofs.YthahdombnmkokaaDoorW.PrintLast Go.Proofs.YthahdombnmkokaaDoorW.PrintMore Go.Proofs.YthahdombnmkokaaDoor.Base
set_option linter.unusedVariables false
set_option linter.unusedSimpArgs false
variable {G : Nat → Prop}
theorem addr_add (b off j : Nat) : (⟨b, off, none⟩ : Addr).add j = ⟨b, off + j, none⟩ := by unfold Addr.add; split <;> simp_all
theorem addr_of_C {k : IntKind} {w : World} {A : Option Addr} {n : Nat} {xs : List Int} (h : Kd.C (Kd.int k) w A n xs) (h0 : 0 < n) : ∃ b off, A = some ⟨b, off, none⟩ ∧ ∀ j, j < n → w.cell? ⟨b, off + j, none⟩ = some (.int k (xs.getD j 0)) := by
  obtain ⟨ad, e, hc⟩ := (Kd.reads_of_C (d := (0 : Int)) h).2.2 h0
  have h1 := hc 0 h0
  have hs : ad.spot = none := by
    have a0 : ad.add 0 = ad := by simp [Addr.add]
    rw [a0] at h1
    cases hsp : ad.spot with
    | none => rfl
    | some s =>
      exfalso
      unfold World.cell? at h1
      split at h1
      · rw [hsp] at h1; simp at h1
      · cases h1
  obtain ⟨b, off, sp⟩ := ad
  simp only at hs
  subst hs
  exact ⟨b, off, e, fun j hj => by rw [← addr_add]; exact hc j hj⟩
/-- The addresses of a list. -/
def adr (l : List Int) : Int → Option Int := fun k => if 0 ≤ k ∧ l.getD k.toNat 0 ≠ 0 then some (l.getD k.toNat 0) else none
def okA (x : Int) : Prop := 0 ≤ x ∧ x ≤ 65535
theorem adr_nil : adr [] = fun _ => none := by
  funext k
  unfold adr
  rw [if_neg]
  simp
theorem adr_snoc (P : List Int) (y : Int) : adr (P ++ [y]) = if y = 0 then adr P else setF (adr P) (P.length : Int) (some y) := by
  funext k
  have h1 : ∀ i, i ≠ P.length → (P ++ [y]).getD i 0 = P.getD i 0 := by
    intro i hi
    rcases Nat.lt_or_ge i P.length with h | h
    · simp [List.getD_eq_getElem?_getD, List.getElem?_append_left h]
    · rw [List.getD_eq_getElem?_getD, List.getD_eq_getElem?_getD, List.getElem?_eq_none (by simp; omega), List.getElem?_eq_none h]
  have h2 : (P ++ [y]).getD P.length 0 = y := by simp [List.getD_eq_getElem?_getD]
  have h3 : P.getD P.length 0 = 0 := by rw [List.getD_eq_getElem?_getD, List.getElem?_eq_none (Nat.le_refl _)]; rfl
  by_cases hk : 0 ≤ k ∧ k.toNat = P.length
  · have hkk : k = (P.length : Int) := by omega
    unfold adr
    rw [hk.2, h2]
    by_cases hy : y = 0
    · rw [if_pos hy, if_neg (by simp [hy]), hk.2, h3, if_neg (by simp)]
    · rw [if_neg hy, if_pos ⟨hk.1, hy⟩, hkk]
      unfold setF
      rw [if_pos rfl]
  · have e : (if y = 0 then adr P else setF (adr P) (P.length : Int) (some y)) k = adr P k := by
      split
      · rfl
      · unfold setF; rw [if_neg (by omega)]
    rw [e]
    unfold adr
    by_cases h0 : 0 ≤ k
    · rw [h1 k.toNat (fun e => hk ⟨h0, e⟩)]
    · rw [if_neg (fun h => h0 h.1), if_neg (fun h => h0 h.1)]
set_option maxHeartbeats 2000000 in
set_option maxRecDepth 100000 in
theorem new_many (A : Option Addr) (n c : Nat) (w : World) (h : 828 < n) (hn : n ≤ 17592186044416) :
    Calls Tryd.prog 25 #[.slice A n c] w fun e w' => e = .returned (.tuple #[.pointer none, .int .i64 28]) ∧ Below w.heap.size w w' := by
  have h1 : decide ((828 : Int) < (n : Int)) = true := decide_eq_true (by omega)
  have hmm := @run_makeMap Tryd.prog
  go_enter Tryd.func25, Tryd.ntmps25
  go_wp2
  go_ret2
  exact ⟨rfl, (((Below.refl _ w).alloc (Nat.le_refl _) _).alloc (by simp) _).alloc (by simp; omega) _⟩
theorem bw_new (w : World) : BW G (((w.alloc (.map #[] 0)).alloc (.map #[] 0)).alloc (.cells #[.map (some w.heap.size), .map (some (w.heap.size + 1))] 74)) w.heap.size (w.heap.size + 2) 0 w.heap.size (w.heap.size + 1) (.map []) (.map []) (adr []) (fun _ => none) (fun _ => none) where
  hp := by
    have := heap_alloc_new ((w.alloc (.map #[] 0)).alloc (.map #[] 0)) (.cells #[.map (some w.heap.size), .map (some (w.heap.size + 1))] 74)
    simpa using this
  bp := by omega
  ba := Nat.le_refl _
  bf := by omega
  ne := by omega
  oA := ((World.ownsMap_made w Tryd.prog 3 tokR).alloc _).alloc _
  hA := by rw [adr_nil]; exact Holds.empty
  oF := by
    have := (World.ownsMap_made (w.alloc (.map #[] 0)) Tryd.prog 3 tokR).alloc (.cells #[.map (some w.heap.size), .map (some (w.heap.size + 1))] 74)
    simpa using this
  hF := Holds.empty
  el := fun k => ⟨fun _ => rfl, fun r h => by cases h⟩
set_option maxHeartbeats 4000000 in
set_option maxRecDepth 100000 in
theorem new_ok (A : Option Addr) (c : Nat) (l : List Int) (w : World) (hC : Kd.C (Kd.int .i64) w A l.length l) (hl : l.length ≤ 828) (hok : ∀ x ∈ l, okA x) :
    Calls Tryd.prog 25 #[.slice A l.length c] w fun e w' => e = .returned (.tuple #[.pointer (some ⟨w.heap.size + 2, 0, none⟩), .int .i64 0]) ∧ BM G w' w.heap.size (w.heap.size + 2) 828 (adr l) (fun _ => none) ∧ Below w.heap.size w w' := by
  have h1 : decide ((828 : Int) < (l.length : Int)) = false := decide_eq_false (by omega)
  have h2 : (l.length : Int) ≤ 828 := by omega
  have hmm := @run_makeMap Tryd.prog
  have hu := Tryd.underlying74
  have HC := Lib.hid hC
  have HOK := Lib.hid hok
  clear hC hok
  go_enter Tryd.func25, Tryd.ntmps25
  go_wp2
  have HW := Lib.hid (bw_new (G := G) w)
  have HB0 : Hid (Below w.heap.size w (((w.alloc (.map #[] 0)).alloc (.map #[] 0)).alloc (.cells #[.map (some w.heap.size), .map (some (w.heap.size + 1))] 74))) := (((Below.refl _ w).alloc (Nat.le_refl _) _).alloc (by simp) _).alloc (by simp; omega) _
  go_loopw [16] (fun i wr => ∃ j : Nat, j ≤ l.length ∧ i = .int .i64 j ∧ Hid (∃ DA, BW G wr w.heap.size (w.heap.size + 2) j w.heap.size (w.heap.size + 1) DA (.map []) (adr (l.take j)) (fun _ => none) (fun _ => none)) ∧ Hid (Below w.heap.size w wr)) (fun i _ => l.length - (intOf i).toNat)
  case atStart => exact ⟨0, Nat.zero_le _, rfl, Lib.hid ⟨_, HW.out⟩, HB0⟩
  case round =>
    clear HW HB0
    obtain ⟨j, hj, rfl, HW, HB⟩ := hrel
    by_cases hlt : j < l.length
    · obtain ⟨b, off, rfl, hcl⟩ := addr_of_C HC.out (by omega)
      have hcell0 := hcl j hlt
      obtain ⟨y, hy⟩ : ∃ y, l.getD j 0 = y := ⟨_, rfl⟩
      rw [hy] at hcell0
      have hyl : l[j]'hlt = y := by rw [← hy, List.getD_eq_getElem?_getD, List.getElem?_eq_getElem hlt]; rfl
      have hyo : okA y := HOK.out y (hyl ▸ List.getElem_mem _)
      have hcell := pw_cell_below HB.out hcell0
      have HTK : Hid (adr (l.take (j + 1)) = if y = 0 then adr (l.take j) else setF (adr (l.take j)) (j : Int) (some y)) := by
        show _ = _
        rw [List.take_succ_eq_append_getElem hlt, hyl, adr_snoc, List.length_take, Nat.min_eq_left (by omega)]
      obtain ⟨DA, hW⟩ := HW.out
      have c0 : wr.cell? ⟨w.heap.size + 2, 0, none⟩ = some (.map (some w.heap.size)) := (blk_cell hW.hp 0).trans rfl
      have HW2 := Lib.hid hW
      have hj2 : (j : Int) ≤ 828 := by omega
      clear hcl hy hyl hcell0 hW HW
      obtain ⟨hy0, hy1⟩ := hyo
      by_cases hz : y = 0
      · subst hz
        go_wp2_with (go_at_call 36; refine (addr_no 0 _ (.inl (by decide))).mono ?_; rintro e w1 ⟨rfl, rfl⟩)
        go_roundw
        case rel => exact ⟨j + 1, by omega, by go_num, by rw [HTK.out, if_pos (by trivial)]; exact Lib.hid ⟨DA, by have h := HW2.out; exact { h with oA := h.oA.mono (Nat.le_succ _), oF := h.oF.mono (Nat.le_succ _) }⟩, HB⟩
        case measure => simp [intOf]; omega
      · have HZ := Lib.hid hz
        have hy2 : 1 ≤ y := by omega
        clear hz
        go_wp2_with (first | (go_at_call 36; refine (addr_yes y _ hy2 hy1).mono ?_; rintro e w1 ⟨rfl, rfl⟩) | (at_mapUpdate; refine wp_upd _ rfl _ _ _ 70 rfl 3 3 law3 Tryd.underlying70 w.heap.size j DA _ rfl HW2.out.oA HW2.out.hA (by unfold maxLen; omega) (j : Int) (.int .i64 y) rfl rfl (keyOf_int_mk Tryd.underlying3 (wf_i (by omega) (by omega))) ?_; intro w3 D3 ho3 hh3 hg3; have HB3 := Lib.hid (HW2.out.turnA (Nat.le_succ _) hg3 ho3 (hA_set (a := adr (l.take j)) (k := (j : Int)) (v := some y) hh3 (fun j => rfl))); have HE3 : Hid (Below w.heap.size w w3) := HB.out.grown hg3 HB.out.size (fun q e => by cases e; exact Nat.le_refl _); clear ho3 hh3 hg3))
        go_roundw
        case rel => exact ⟨j + 1, by omega, by go_num, by rw [HTK.out, if_neg HZ.out]; exact Lib.hid ⟨_, HB3.out⟩, HE3⟩
        case measure => simp [intOf]; omega
    · obtain rfl : j = l.length := by omega
      rw [List.take_length] at HW
      go_wp2
      go_ret2
      obtain ⟨DA, hW⟩ := HW.out
      refine ⟨rfl, ⟨_, _, _, _, _, { hW with oA := hW.oA.mono hl, oF := hW.oF.mono hl }⟩, HB.out⟩
set_option maxHeartbeats 4000000 in
set_option maxRecDepth 100000 in
theorem new_bad (A : Option Addr) (c : Nat) (l : List Int) (w : World) (j0 : Nat) (hj0 : j0 < l.length) (hbad : ¬ okA (l.getD j0 0)) (hC : Kd.C (Kd.int .i64) w A l.length l) (hl : l.length ≤ 828) (hok : ∀ x ∈ l.take j0, okA x) :
    Calls Tryd.prog 25 #[.slice A l.length c] w fun e w' => e = .returned (.tuple #[.pointer none, .int .i64 28]) ∧ Below w.heap.size w w' := by
  have h1 : decide ((828 : Int) < (l.length : Int)) = false := decide_eq_false (by omega)
  have h2 : (l.length : Int) ≤ 828 := by omega
  have hmm := @run_makeMap Tryd.prog
  have hu := Tryd.underlying74
  have HC := Lib.hid hC
  have HOK := Lib.hid hok
  clear hC hok
  go_enter Tryd.func25, Tryd.ntmps25
  go_wp2
  have HW := Lib.hid (bw_new (G := fun _ => True) w)
  have HB0 : Hid (Below w.heap.size w (((w.alloc (.map #[] 0)).alloc (.map #[] 0)).alloc (.cells #[.map (some w.heap.size), .map (some (w.heap.size + 1))] 74))) := (((Below.refl _ w).alloc (Nat.le_refl _) _).alloc (by simp) _).alloc (by simp; omega) _
  go_loopw [16] (fun i wr => ∃ j : Nat, j ≤ j0 ∧ i = .int .i64 j ∧ Hid (∃ DA, BW (fun _ => True) wr w.heap.size (w.heap.size + 2) j w.heap.size (w.heap.size + 1) DA (.map []) (adr (l.take j)) (fun _ => none) (fun _ => none)) ∧ Hid (Below w.heap.size w wr)) (fun i _ => l.length - (intOf i).toNat)
  case atStart => exact ⟨0, Nat.zero_le _, rfl, Lib.hid ⟨_, HW.out⟩, HB0⟩
  case round =>
    clear HW HB0
    obtain ⟨j, hj, rfl, HW, HB⟩ := hrel
    have hlt : j < l.length := by omega
    by_cases hj0l : j < j0
    · obtain ⟨b, off, rfl, hcl⟩ := addr_of_C HC.out (by omega)
      have hcell0 := hcl j hlt
      obtain ⟨y, hy⟩ : ∃ y, l.getD j 0 = y := ⟨_, rfl⟩
      rw [hy] at hcell0
      have hyl : l[j]'hlt = y := by rw [← hy, List.getD_eq_getElem?_getD, List.getElem?_eq_getElem hlt]; rfl
      have hyo : okA y := HOK.out y (List.mem_take_iff_getElem.2 ⟨j, by omega, hyl⟩)
      have hcell := pw_cell_below HB.out hcell0
      have HTK : Hid (adr (l.take (j + 1)) = if y = 0 then adr (l.take j) else setF (adr (l.take j)) (j : Int) (some y)) := by
        show _ = _
        rw [List.take_succ_eq_append_getElem hlt, hyl, adr_snoc, List.length_take, Nat.min_eq_left (by omega)]
      obtain ⟨DA, hW⟩ := HW.out
      have c0 : wr.cell? ⟨w.heap.size + 2, 0, none⟩ = some (.map (some w.heap.size)) := (blk_cell hW.hp 0).trans rfl
      have HW2 := Lib.hid hW
      have hj2 : (j : Int) ≤ 828 := by omega
      clear hcl hy hyl hcell0 hW HW
      obtain ⟨hy0, hy1⟩ := hyo
      by_cases hz : y = 0
      · subst hz
        go_wp2_with (go_at_call 36; refine (addr_no 0 _ (.inl (by decide))).mono ?_; rintro e w1 ⟨rfl, rfl⟩)
        go_roundw
        case rel => exact ⟨j + 1, by omega, by go_num, by rw [HTK.out, if_pos (by trivial)]; exact Lib.hid ⟨DA, by have h := HW2.out; exact { h with oA := h.oA.mono (Nat.le_succ _), oF := h.oF.mono (Nat.le_succ _) }⟩, HB⟩
        case measure => simp [intOf]; omega
      · have HZ := Lib.hid hz
        have hy2 : 1 ≤ y := by omega
        clear hz
        go_wp2_with (first | (go_at_call 36; refine (addr_yes y _ hy2 hy1).mono ?_; rintro e w1 ⟨rfl, rfl⟩) | (at_mapUpdate; refine wp_upd _ rfl _ _ _ 70 rfl 3 3 law3 Tryd.underlying70 w.heap.size j DA _ rfl HW2.out.oA HW2.out.hA (by unfold maxLen; omega) (j : Int) (.int .i64 y) rfl rfl (keyOf_int_mk Tryd.underlying3 (wf_i (by omega) (by omega))) ?_; intro w3 D3 ho3 hh3 hg3; have HB3 := Lib.hid (HW2.out.turnA (Nat.le_succ _) hg3 ho3 (hA_set (a := adr (l.take j)) (k := (j : Int)) (v := some y) hh3 (fun j => rfl))); have HE3 : Hid (Below w.heap.size w w3) := HB.out.grown hg3 HB.out.size (fun q e => by cases e; exact Nat.le_refl _); clear ho3 hh3 hg3))
        go_roundw
        case rel => exact ⟨j + 1, by omega, by go_num, by rw [HTK.out, if_neg HZ.out]; exact Lib.hid ⟨_, HB3.out⟩, HE3⟩
        case measure => simp [intOf]; omega
    · obtain rfl : j = j0 := by omega
      obtain ⟨b, off, rfl, hcl⟩ := addr_of_C HC.out (by omega)
      have hcell0 := hcl j hlt
      obtain ⟨y, hy⟩ : ∃ y, l.getD j 0 = y := ⟨_, rfl⟩
      rw [hy] at hcell0 hbad
      have hcell := pw_cell_below HB.out hcell0
      have hb2 : y < 1 ∨ 65535 < y := by unfold okA at hbad; omega
      have hyz : (y != 0) = true := bne_iff_ne.2 (fun e => hbad (by rw [e]; exact ⟨by decide, by decide⟩))
      have HB2 := Lib.hid hb2
      clear hcl hy hcell0 hbad hb2
      go_wp2_with (go_at_call 36; refine (addr_no y _ HB2.out).mono ?_; rintro e w1 ⟨rfl, rfl⟩)
      go_ret2
      exact ⟨rfl, HB.out⟩
end Go.Proofs.YthahdombnmkokaaDoor.Given
