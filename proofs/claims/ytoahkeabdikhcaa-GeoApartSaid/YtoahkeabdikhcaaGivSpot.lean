/- A set of spots (map[api.Spot]bool): by hand. -/
import Derived.Test.YtoahkeabdikhcaaPureApart
import Derived.Maps.OwnSet
import Derived.DeepKeys4
import Derived.WalkKit
import Derived.OwnWalk
import Derived.LoopTactic
import Derived.Outline
import Derived.Lib.Hide
namespace Go.Proofs.Ytoahkeabdikhcaa.Given
open Go.RowKit Go.Maps Go.Proofs.YtoahkeabdikhcaaW.PrintWords Go.Proofs.YtoahkeabdikhcaaW.PrintLast Go.Proofs.YtoahkeabdikhcaaW.PrintMore Go.Proofs.Ytoahkeabdikhcaa.Base Go.Proofs.Ytoahkeabdikhcaa.Pure
set_option linter.unusedVariables false
set_option linter.unusedSimpArgs false
theorem laidOutS : laidOutB Try.prog = true := by kernel_rfl
theorem wideS : (match Try.prog.underlying 31 with | some (.array _ _) | some (.struct _) => true | _ => false) = true := by rw [Try.underlying31]
theorem lawS : Keyed Try.prog 31 := Keyed.of_law (deep_law_laid laidOutS (m := 2) (by omega) (of_decide_eq_true (by kernel_rfl)) (by kernel_rfl) wideS)
theorem cellsS : Try.prog.cellsOf 31 = 2 := by kernel_rfl
theorem cellsI : Try.prog.cellsOf 3 = 1 := by kernel_rfl
abbrev spotV (p : Int × Int) : Value := .agg #[.int .i64 p.1, .int .i64 p.2]
theorem key_spot (p : Int × Int) (hx : (Lit.int .i64 p.1).wf = true) (hy : (Lit.int .i64 p.2).wf = true) : ∃ kl, keyOf Try.prog 31 (spotV p) = some kl := by
  have h1 : Try.prog.keyType 31 = true := by kernel_rfl
  have h2 : (spotV p).formed Try.prog 31 = true := by simp [Value.formed, Try.underlying31, cellsS]
  have h3 : ∃ ls, Try.prog.keyLits (Try.prog.types.size + 1) 31 [.int .i64 p.1, .int .i64 p.2] = some ls := by
    obtain ⟨m, hm⟩ : ∃ m, Try.prog.types.size = m + 1 := ⟨Try.prog.types.size - 1, by kernel_rfl⟩
    rw [hm]
    simp [Program.keyLits, Try.underlying31, Try.underlying3, cellsS, cellsI, hx, hy]
  obtain ⟨ls, hls⟩ := h3
  refine ⟨.string (keyBytes ls), ?_⟩
  unfold keyOf
  rw [Try.underlying31]
  simp only [h1, h2, Bool.and_self, if_true]
  rw [show (spotV p).cells.toList = [.int .i64 p.1, .int .i64 p.2] from rfl, hls]
  rfl
def tok (v : Value) : DataW Value := .held v
def tokR (v : Value) : Option (DataW Value × List MemPlace) := some (tok v, [])
theorem tokR_of {v u : Value} {ps : List MemPlace} (h : tokR v = some (tok u, ps)) : v = u := by
  unfold tokR at h
  injection h with h
  have := congrArg Prod.fst h
  injection this
/-- A map's datum is the set of a list's spots. -/
structure IsSpots (D : DataW Value) (L : List (Int × Int)) : Prop where
  tidy : Tidy D
  size : size D = L.length
  has : ∀ p kl, keyOf Try.prog 31 (spotV p) = some kl → has D kl = decide (p ∈ L)
theorem IsSpots.nil : IsSpots (.map []) [] := ⟨tidy_empty, rfl, fun p kl _ => by simp [has_eq]⟩
theorem spotV_inj {p q : Int × Int} (h : spotV p = spotV q) : p = q := by
  have : #[Value.int .i64 p.1, Value.int .i64 p.2] = #[Value.int .i64 q.1, Value.int .i64 q.2] := by injection h
  simp at this
  exact Prod.ext this.1 this.2
theorem IsSpots.put {D : DataW Value} {L : List (Int × Int)} (h : IsSpots D L) {p : Int × Int} {kl : Lit} (hk : keyOf Try.prog 31 (spotV p) = some kl) (hp : p ∉ L) (d : DataW Value) : IsSpots (D.put kl d) (p :: L) := by
  have hkl := lawS.key hk
  refine ⟨h.tidy.put hkl d, ?_, fun q ql hq => ?_⟩
  · rw [size_put h.tidy, h.has p kl hk, h.size, if_neg (by simp [hp])]; rfl
  · by_cases e : q = p
    · subst e
      rw [hk] at hq
      cases hq
      rw [has_put_same h.tidy.isMap hkl]; simp
    · rw [has_put_other (fun e1 => e (spotV_inj (lawS.inj (hq.trans (congrArg some e1)) hk))), h.has q ql hq]
      refine decide_eq_decide.2 ?_
      rw [List.mem_cons]
      exact ⟨fun k => .inr k, fun k => k.resolve_left e⟩
theorem zeroB (w : World) : (zeroValue 4).run Try.prog w = .ok (.bool false) w := by kernel_rfl
theorem look_none {w : World} {b n : Nat} {D : DataW Value} {L : List (Int × Int)} (hown : w.ownsMap Try.prog 31 tokR b n D) (h : IsSpots D L) {p : Int × Int} {kl : Lit} (hk : keyOf Try.prog 31 (spotV p) = some kl) (hp : p ∉ L) :
    (Instr.lookup 29 (.map (some b)) (spotV p) false).run Try.prog w = .ok (.bool false) w := by
  obtain ⟨v, ps, hrun, hv⟩ := hown.lookup lawS Try.underlying29 (zeroB w) (zd := tok (.bool false)) (zp := []) rfl hk
  have hn : has D kl = false := by rw [h.has p kl hk]; simp [hp]
  rw [atKey_of_not_has hn] at hv
  rw [hrun, tokR_of hv]
section
variable (w : World) {ops : Array Oper} {rest : List Oper} {o : Oper} {a : Act} {Q : Exit → Act → World → Prop}
theorem wp_free (hg : o.guard = none) (m x : Operand) (hop : o.op = Op.lookup 29 m x false) (b n : Nat) (D : DataW Value) (L : List (Int × Int)) (hm : a.eval m = .map (some b)) (hown : w.ownsMap Try.prog 31 tokR b n D) (h : IsSpots D L) (p : Int × Int) (kl : Lit) (hk : keyOf Try.prog 31 (spotV p) = some kl) (hp : p ∉ L) (hx : a.eval x = spotV p)
    (hK : wpList Try.prog ops Q rest (a.put o.dst (.bool false)) w) : wpList Try.prog ops Q (o :: rest) a w := by
  refine wpList_plain hg fun K' hK' => ?_
  have hrun := look_none hown h hk hp
  unfold Oper.wp
  simp [execOp, hop, hm, hx, hrun, Result.andThen]
  exact hK' _ _ hK
theorem wp_mark (hg : o.guard = none) (m x v : Operand) (hop : o.op = Op.mapUpdate 29 m x v) (b n : Nat) (D : DataW Value) (L : List (Int × Int)) (hm : a.eval m = .map (some b)) (hown : w.ownsMap Try.prog 31 tokR b n D) (h : IsSpots D L) (hn : n < maxLen) (p : Int × Int) (kl : Lit) (hk : keyOf Try.prog 31 (spotV p) = some kl) (hp : p ∉ L) (hx : a.eval x = spotV p) (u : Value) (hv : a.eval v = u)
    (hK : ∀ w' D', w'.ownsMap Try.prog 31 tokR b (n + 1) D' → IsSpots D' (p :: L) → w.grownBy w' (some b) → wpList Try.prog ops Q rest (a.put o.dst undef) w') : wpList Try.prog ops Q (o :: rest) a w :=
  wpList_mapUpdate_own w hg m x v _ hop _ _ lawS Try.underlying29 tokR b n D hm hown hn _ u kl hx hv hk (tok u) [] rfl fun w' h1 h2 => hK w' _ h1 (h.put hk hp _) h2
end
/-- What the walk keeps: what lies below, and the geometry's box. -/
def KG (w0 : World) (d r s : Int) (w : World) : Prop := Below w0.heap.size w0 w ∧ w.cell? ⟨w0.heap.size, 0, none⟩ = some (.int .i64 d) ∧ w.cell? ⟨w0.heap.size, 1, none⟩ = some (.int .i64 r) ∧ w.cell? ⟨w0.heap.size, 2, none⟩ = some (.int .i64 s)
theorem KG.step {w0 w w1 : World} {d r s : Int} (h : KG w0 d r s w) (hb : Below w.heap.size w w1) : KG w0 d r s w1 :=
  ⟨h.1.trans (hb.mono h.1.size), pw_cell_below hb h.2.1, pw_cell_below hb h.2.2.1, pw_cell_below hb h.2.2.2⟩
theorem cell_map {w w1 : World} {k : TypeId} {R : Value → Option (DataW Value × List MemPlace)} {b n : Nat} {D : DataW Value} (o : w.ownsMap Try.prog k R b n D) (hg : w.grownBy w1 (some b)) {p : Addr} {u : Value} (h0 : w.cell? p = some u) : w1.cell? p = some u := by
  obtain ⟨es, ck, hb, _⟩ := o
  unfold World.cell? at h0 ⊢
  by_cases e : p.block = b
  · rw [e, hb] at h0; simp at h0
  · cases hq : w.heap[p.block]? with
    | none => rw [hq] at h0; simp at h0
    | some q =>
      rw [hg.block _ (Array.getElem?_eq_some_iff.1 hq).1 (fun e1 => e (Option.some.inj e1)), hq]
      rw [hq] at h0; exact h0
theorem KG.turn {w0 w w1 : World} {d r s : Int} {k : TypeId} {R : Value → Option (DataW Value × List MemPlace)} {b n : Nat} {D : DataW Value} (h : KG w0 d r s w) (o : w.ownsMap Try.prog k R b n D) (hg : w.grownBy w1 (some b)) (hb : w0.heap.size ≤ b) : KG w0 d r s w1 :=
  ⟨h.1.grown hg h.1.size (fun q e => by cases e; exact hb), cell_map o hg h.2.1, cell_map o hg h.2.2.1, cell_map o hg h.2.2.2⟩
theorem own_below {w w1 : World} {k : TypeId} {R : Value → Option (DataW Value × List MemPlace)} {b n : Nat} {D : DataW Value} (o : w.ownsMap Try.prog k R b n D) (hb : Below w.heap.size w w1) : w1.ownsMap Try.prog k R b n D := o.kept (grown_of_below hb none) (by simp)
end Go.Proofs.Ytoahkeabdikhcaa.Given
