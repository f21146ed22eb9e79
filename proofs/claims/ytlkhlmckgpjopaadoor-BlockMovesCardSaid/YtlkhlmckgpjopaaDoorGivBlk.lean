/- The map of a file's blocks (block.Map): its state, told by two functions. -/
import Derived.Test.YtlkhlmckgpjopaaDoorBase
import Derived.Maps.OwnSet
import Derived.WalkKit
import Derived.OwnWalk
import Derived.LoopTactic
import Derived.Outline
import Derived.Lib.Hide
namespace Go.Proofs.YtlkhlmckgpjopaaDoor.Given
open Go.RowKit Go.Maps Go.Proofs.YtlkhlmckgpjopaaDoorW.PrintWords Go.Proofs.YtlkhlmckgpjopaaDoorW.PrintLast Go.Proofs.YtlkhlmckgpjopaaDoorW.PrintMore Go.Proofs.YtlkhlmckgpjopaaDoor.Base
set_option linter.unusedVariables false
set_option linter.unusedSimpArgs false
theorem addr_block (a : Addr) (k : Nat) : (a.add k).block = a.block := by unfold Addr.add; split <;> rfl
theorem cell_block {w w1 : World} {p : Addr} (h : w1.heap[p.block]? = w.heap[p.block]?) : w1.cell? p = w.cell? p := by unfold World.cell?; rw [h]
/-- A map's element, told as it is. -/
def tok (v : Value) : DataW Value := .held v
def tokR (v : Value) : Option (DataW Value × List MemPlace) := some (tok v, [])
theorem tok_inj {u v : Value} (h : tok u = tok v) : u = v := by injection h
theorem tokR_of {v u : Value} {ps : List MemPlace} (h : tokR v = some (tok u, ps)) : v = u := by
  unfold tokR at h
  injection h with h
  exact tok_inj (congrArg Prod.fst h)
theorem keyLit (x : Int) : WideAt.IsKeyLit (.int .i64 x) := by trivial
theorem keyNe {x y : Int} (h : ¬ x = y) : Lit.int .i64 x ≠ Lit.int .i64 y := by simpa using h
/-- What a map's datum holds. -/
structure Holds (D : DataW Value) (m : Int → Option Value) : Prop where
  tidy : Tidy D
  at_ : ∀ k z, D.atKey (.int .i64 k) (tok z) = tok ((m k).getD z)
  has : ∀ k, has D (.int .i64 k) = (m k).isSome
theorem Holds.empty : Holds (.map []) (fun _ => none) := ⟨tidy_empty, fun k z => rfl, fun k => rfl⟩
theorem Holds.put {D : DataW Value} {m : Int → Option Value} (h : Holds D m) (k : Int) (v : Value) : Holds (D.put (.int .i64 k) (tok v)) (fun j => if j = k then some v else m j) := by
  refine ⟨h.tidy.put (keyLit k) _, fun j z => ?_, fun j => ?_⟩
  · by_cases e : j = k
    · subst e; rw [atKey_put_same h.tidy.isMap (keyLit j), if_pos rfl]; rfl
    · rw [atKey_put_other (keyNe e), if_neg e, h.at_]
  · by_cases e : j = k
    · subst e; rw [has_put_same h.tidy.isMap (keyLit j), if_pos rfl]; rfl
    · rw [has_put_other (keyNe e), if_neg e, h.has]
theorem Holds.del {D : DataW Value} {m : Int → Option Value} (h : Holds D m) (k : Int) : Holds (D.del (.int .i64 k)) (fun j => if j = k then none else m j) := by
  refine ⟨h.tidy.del _, fun j z => ?_, fun j => ?_⟩
  · by_cases e : j = k
    · subst e; rw [atKey_del_same, if_pos rfl]; rfl
    · rw [atKey_del_other (keyNe e), if_neg e, h.at_]
  · by_cases e : j = k
    · subst e; rw [has_del_same, if_pos rfl]; rfl
    · rw [has_del_other (keyNe e), if_neg e, h.has]
theorem law3 : Keyed Tryd.prog 3 := int_keyed Tryd.underlying3
theorem zeroI (w : World) : (zeroValue 3).run Tryd.prog w = .ok (.int .i64 0) w := by kernel_rfl
theorem zeroS (w : World) : (zeroValue 30).run Tryd.prog w = .ok (.slice none 0 0) w := by kernel_rfl
/-- A slice of bytes that stands in no block that is no cells, wherever it lies. -/
def Byt56 (w : World) (u : Value) (r : List Int) : Prop := ∃ A c, u = .slice A r.length c ∧ r.length ≤ c ∧ r.length = 56 ∧ Kd.C (Kd.int .u8) w A r.length r
/-- The block that a slice of bytes stands in. -/
theorem C_kept {w w1 : World} {A : Option Addr} {n : Nat} {xs : List Int} (h : Kd.C (Kd.int .u8) w A n xs) (hk : ∀ (b : Nat) (cs : Array Value) (t : Nat) (z : Nat × Nat), w.heap[b]? = some (.cells cs t z) → w1.heap[b]? = w.heap[b]?) : Kd.C (Kd.int .u8) w1 A n xs := by
  refine ⟨h.1, h.2.1, fun hn => ?_⟩
  obtain ⟨ad, e, hc⟩ := h.2.2 hn
  refine ⟨ad, e, fun j p hj => ?_⟩
  obtain ⟨c, hs, hr, hcell⟩ := hc j p hj
  refine ⟨c, hs, hr, fun i u hu => ?_⟩
  have h0 := hcell i u hu
  rw [← h0]
  refine cell_block ?_
  rw [addr_block]
  unfold World.cell? at h0
  rw [addr_block] at h0
  cases hb : w.heap[ad.block]? with
  | none => rw [hb] at h0; simp at h0
  | some o =>
    cases o with
    | cells cs t z => rw [hk _ cs t z hb]; exact hb
    | _ => rw [hb] at h0; simp at h0

section
variable {P : Program} (w : World) {ops : Array Oper} {rest : List Oper} {o : Oper} {a : Act} {Q : Exit → Act → World → Prop}
/-- 'm[k]'. -/
theorem wp_look (hg : o.guard = none) (m x : Operand) (t : TypeId) (hop : o.op = Op.lookup t m x false) (k e : TypeId) (K : Keyed P k) (ht : P.underlying t = some (.map k e)) {z : Value} (hz : (zeroValue e).run P w = .ok z w) (b n : Nat) (D : DataW Value) (f : Int → Option Value)
    (hm : a.eval m = .map (some b)) (hown : w.ownsMap P k tokR b n D) (H : Holds D f) (i : Int) (hx : a.eval x = .int .i64 i) (hkey : keyOf P k (.int .i64 i) = some (.int .i64 i)) (hK : wpList P ops Q rest (a.put o.dst ((f i).getD z)) w) :
    wpList P ops Q (o :: rest) a w := by
  refine wpList_plain hg fun K' hK' => ?_
  obtain ⟨v, ps, hrun, hv⟩ := hown.lookup K ht hz (zd := tok z) (zp := []) rfl hkey
  rw [H.at_] at hv
  have e := tokR_of hv
  subst e
  unfold Oper.wp
  simp [execOp, hop, hm, hx, hrun, Result.andThen]
  exact hK' _ _ hK
/-- 'v, ok := m[k]'. -/
theorem wp_look_ok (hg : o.guard = none) (m x : Operand) (t : TypeId) (hop : o.op = Op.lookup t m x true) (k e : TypeId) (K : Keyed P k) (ht : P.underlying t = some (.map k e)) {z : Value} (hz : (zeroValue e).run P w = .ok z w) (b n : Nat) (D : DataW Value) (f : Int → Option Value)
    (hm : a.eval m = .map (some b)) (hown : w.ownsMap P k tokR b n D) (H : Holds D f) (i : Int) (hx : a.eval x = .int .i64 i) (hkey : keyOf P k (.int .i64 i) = some (.int .i64 i)) (hK : wpList P ops Q rest (a.put o.dst (.tuple #[(f i).getD z, .bool (f i).isSome])) w) :
    wpList P ops Q (o :: rest) a w := by
  refine wpList_lookup_own_ok w hg m x t hop k e K ht tokR hz (tok z) [] rfl b n D hm hown _ _ hx hkey fun v ps hv => ?_
  rw [H.at_] at hv
  have e := tokR_of hv
  subst e
  rw [H.has]
  exact hK
/-- 'm[k] = v'. -/
theorem wp_upd (hg : o.guard = none) (m x v : Operand) (t : TypeId) (hop : o.op = Op.mapUpdate t m x v) (k e : TypeId) (K : Keyed P k) (ht : P.underlying t = some (.map k e)) (b n : Nat) (D : DataW Value) (f : Int → Option Value)
    (hm : a.eval m = .map (some b)) (hown : w.ownsMap P k tokR b n D) (H : Holds D f) (hn : n < maxLen) (i : Int) (u : Value) (hx : a.eval x = .int .i64 i) (hv : a.eval v = u) (hkey : keyOf P k (.int .i64 i) = some (.int .i64 i))
    (hK : ∀ w' D', w'.ownsMap P k tokR b (n + 1) D' → Holds D' (fun j => if j = i then some u else f j) → w.grownBy w' (some b) → wpList P ops Q rest (a.put o.dst undef) w') :
    wpList P ops Q (o :: rest) a w :=
  wpList_mapUpdate_own w hg m x v t hop k e K ht tokR b n D hm hown hn _ _ _ hx hv hkey (tok u) [] rfl fun w' h1 h2 => hK w' _ h1 (H.put i u) h2
/-- 'delete(m, k)'. -/
theorem wp_del (hg : o.guard = none) (m x : Operand) (t k : TypeId) (hop : o.op = Op.call { callee := Callee.builtin Builtin.delete, args := #[m, x], argTypes := #[t, k] }) (e : TypeId) (K : Keyed P k) (ht : P.underlying t = some (.map k e)) (b n : Nat) (D : DataW Value) (f : Int → Option Value)
    (hm : a.eval m = .map (some b)) (hown : w.ownsMap P k tokR b n D) (H : Holds D f) (i : Int) (hx : a.eval x = .int .i64 i) (hkey : keyOf P k (.int .i64 i) = some (.int .i64 i))
    (hK : ∀ w' D', w'.ownsMap P k tokR b n D' → Holds D' (fun j => if j = i then none else f j) → w.grownBy w' (some b) → wpList P ops Q rest (a.put o.dst (.tuple #[])) w') :
    wpList P ops Q (o :: rest) a w :=
  wpList_delete_own w hg m x t k hop e K ht tokR b n D hm hown _ _ hx hkey fun w' h1 h2 => hK w' _ h1 (H.del i) h2.grown
end
/-- A block.Map, its parts named. -/
structure BW (w : World) (base p N bA bF : Nat) (DA DF : DataW Value) (a : Int → Option Int) (mF : Int → Option Value) (f : Int → Option (List Int)) : Prop where
  hp : w.heap[p]? = some (.cells #[.map (some bA), .map (some bF)] 61 (0, 0))
  bp : base ≤ p
  ba : base ≤ bA
  bf : base ≤ bF
  ne : bA ≠ bF
  oA : w.ownsMap Tryd.prog 3 tokR bA N DA
  hA : Holds DA (fun k => (a k).map (Value.int .i64))
  oF : w.ownsMap Tryd.prog 3 tokR bF N DF
  hF : Holds DF mF
  el : ∀ k, (f k = none → mF k = none) ∧ ∀ r, f k = some r → ∃ u, mF k = some u ∧ Byt56 w u r
def BM (w : World) (base p N : Nat) (a : Int → Option Int) (f : Int → Option (List Int)) : Prop := ∃ bA bF DA DF mF, BW w base p N bA bF DA DF a mF f
theorem map_cells {w w1 : World} {k : TypeId} {b n : Nat} {D : DataW Value} (o : w.ownsMap Tryd.prog k tokR b n D) (hg : w.grownBy w1 (some b)) : ∀ (c : Nat) (cs : Array Value) (t : Nat) (z : Nat × Nat), w.heap[c]? = some (.cells cs t z) → w1.heap[c]? = w.heap[c]? := by
  intro c cs t z hc
  obtain ⟨es, ck, hb, _⟩ := o
  refine hg.block c (Array.getElem?_eq_some_iff.1 hc).1 (fun e => ?_)
  have e : c = b := Option.some.inj e
  subst e
  rw [hb] at hc
  cases hc
theorem Byt56.kept {w w1 : World} {u : Value} {r : List Int} (h : Byt56 w u r) (hk : ∀ (b : Nat) (cs : Array Value) (t : Nat) (z : Nat × Nat), w.heap[b]? = some (.cells cs t z) → w1.heap[b]? = w.heap[b]?) : Byt56 w1 u r := by
  obtain ⟨A, c, rfl, h1, h2, h3⟩ := h
  exact ⟨A, c, rfl, h1, h2, C_kept h3 hk⟩
theorem own_more {w : World} {k : TypeId} {b n m : Nat} {D : DataW Value} (h : w.ownsMap Tryd.prog k tokR b n D) (hm : n ≤ m) : w.ownsMap Tryd.prog k tokR b m D := h.mono hm
theorem BW.below {w w1 : World} {base p N bA bF : Nat} {DA DF : DataW Value} {a : Int → Option Int} {mF : Int → Option Value} {f : Int → Option (List Int)} (h : BW w base p N bA bF DA DF a mF f) (hb : Below w.heap.size w w1) : BW w1 base p N bA bF DA DF a mF f where
  hp := blk_below h.hp hb
  bp := h.bp
  ba := h.ba
  bf := h.bf
  ne := h.ne
  oA := h.oA.kept (grown_of_below hb none) (by simp)
  hA := h.hA
  oF := h.oF.kept (grown_of_below hb none) (by simp)
  hF := h.hF
  el := fun k => ⟨(h.el k).1, fun r hr => by
    obtain ⟨u, hu, A, c, rfl, h1, h2, h3⟩ := (h.el k).2 r hr
    exact ⟨_, hu, A, c, rfl, h1, h2, Kd.C_below h3 hb⟩⟩
theorem BW.turnA {w w1 : World} {base p N N1 bA bF : Nat} {DA DF DA1 : DataW Value} {a a1 : Int → Option Int} {mF : Int → Option Value} {f : Int → Option (List Int)} (h : BW w base p N bA bF DA DF a mF f) (hN : N ≤ N1) (hg : w.grownBy w1 (some bA)) (o : w1.ownsMap Tryd.prog 3 tokR bA N1 DA1) (H : Holds DA1 (fun k => (a1 k).map (Value.int .i64))) : BW w1 base p N1 bA bF DA1 DF a1 mF f where
  hp := (map_cells h.oA hg _ _ _ _ h.hp).trans h.hp
  bp := h.bp
  ba := h.ba
  bf := h.bf
  ne := h.ne
  oA := o
  hA := H
  oF := (h.oF.kept hg (by have := h.ne; simpa using this.symm)).mono hN
  hF := h.hF
  el := fun k => ⟨(h.el k).1, fun r hr => by
    obtain ⟨u, hu, h1⟩ := (h.el k).2 r hr
    exact ⟨u, hu, h1.kept (map_cells h.oA hg)⟩⟩
theorem BW.turnF {w w1 : World} {base p N N1 bA bF : Nat} {DA DF DF1 : DataW Value} {a : Int → Option Int} {mF mF1 : Int → Option Value} {f f1 : Int → Option (List Int)} (h : BW w base p N bA bF DA DF a mF f) (hN : N ≤ N1) (hg : w.grownBy w1 (some bF)) (o : w1.ownsMap Tryd.prog 3 tokR bF N1 DF1) (H : Holds DF1 mF1)
    (he : ∀ k, (f1 k = none → mF1 k = none) ∧ ∀ r, f1 k = some r → ∃ u, mF1 k = some u ∧ Byt56 w u r) : BW w1 base p N1 bA bF DA DF1 a mF1 f1 where
  hp := (map_cells h.oF hg _ _ _ _ h.hp).trans h.hp
  bp := h.bp
  ba := h.ba
  bf := h.bf
  ne := h.ne
  oA := (h.oA.kept hg (by have := h.ne; simpa using this)).mono hN
  hA := h.hA
  oF := o
  hF := H
  el := fun k => ⟨(he k).1, fun r hr => by
    obtain ⟨u, hu, h1⟩ := (he k).2 r hr
    exact ⟨u, hu, h1.kept (map_cells h.oF hg)⟩⟩
/-- The map's functions, a key set. -/
def setF {β : Type} (a : Int → Option β) (k : Int) (v : Option β) : Int → Option β := fun j => if j = k then v else a j
theorem map_set (a : Int → Option Int) (k : Int) (v : Option Int) : (fun j => (setF a k v j).map (Value.int .i64)) = fun j => if j = k then v.map (Value.int .i64) else (a j).map (Value.int .i64) := by
  funext j
  unfold setF
  split <;> rfl
set_option maxHeartbeats 1000000 in
/-- At: the address that a block is at. -/
theorem at_calls {w : World} {base p N : Nat} {a : Int → Option Int} {f : Int → Option (List Int)} (h : BM w base p N a f) (k : Int) (hk : (Lit.int .i64 k).wf = true) :
    Calls Tryd.prog 14 #[.pointer (some ⟨p, 0, none⟩), .int .i64 k] w fun e w' => e = .returned (.int .i64 ((a k).getD 0)) ∧ w = w' := by
  obtain ⟨bA, bF, DA, DF, mF, hB⟩ := h
  have c0 : w.cell? ⟨p, 0, none⟩ = some (.map (some bA)) := (blk_cell hB.hp 0).trans rfl
  have hu := Tryd.underlying61
  have HB := Lib.hid hB
  have HK := Lib.hid hk
  have HV : Hid (((a k).map (Value.int .i64)).getD (.int .i64 0) = .int .i64 ((a k).getD 0)) := by show _ = _; cases a k <;> rfl
  clear hB hk
  go_enter Tryd.func14, Tryd.ntmps14
  go_wp2_with (at_lookup; refine wp_look _ rfl _ _ 57 rfl 3 3 law3 Tryd.underlying57 (zeroI _) bA N DA _ rfl HB.out.oA HB.out.hA k rfl (keyOf_int_mk Tryd.underlying3 HK.out) ?_; rw [HV.out])
  go_ret
  exact ⟨rfl, rfl⟩
end Go.Proofs.YtlkhlmckgpjopaaDoor.Given
