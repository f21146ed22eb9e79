/- An argument that is a record of three whole numbers and bytes, by value, as a law's row reads it, with its weights. -/
import Derived.Test.YthahdombnmkokaaDoorGivRecs
import Derived.Lib.SmallJoins
namespace Go.Proofs.YthahdombnmkokaaDoor.Given
open Go.RowKit Go.Deep Go.Joins Go.Proofs.YthahdombnmkokaaDoorW.PrintWords Go.Proofs.YthahdombnmkokaaDoorW.PrintLast Go.ChangeShapes Go.WideShapes
section
variable {H : Type} {enc : TypeId × Value → H} {P : Program} {W : World} {base : Nat} {held : Bool} {t e q : TypeId} {f0 f1 f2 f3 : Field} {k : IntKind} {v : Value} {r : Reach} {d : DataW H} {ps : List MemPlace} {ts : List TypeId} {ds : List (DataW H)} {j : Nat}
theorem rec_arg (hsz : (DataW.weightsEach P ts ds).all (· ≤ reachBytes) = true) (hj : ts[j]? = some t) (hd : ds[j]? = some d) (ht : P.underlying t = some (.struct #[f0, f1, f2, f3])) (hone : oneCellFields P #[f0, f1, f2, f3] = true) (hC : P.cellsOf t = 4)
    (h0 : P.underlying f0.type = some (.int .i64)) (h1 : P.underlying f1.type = some (.int .i64)) (h2 : P.underlying f2.type = some (.int .i64)) (h3 : P.underlying f3.type = some (.slice q)) (hq : P.underlying q = some (.int k)) (cq : P.cellsOf q = 1) (bq : 1 ≤ P.bytesOf q)
    (hv : Value.okWide P W r base t v) (h : DataW.Trod enc P W 0 (fun _ => true) held t v d ps) :
    ∃ (x0 x1 x2 : Int) (A : Option Addr) (c : Nat) (l : List Int), v = .agg #[.int .i64 x0, .int .i64 x1, .int .i64 x2, .slice A l.length c] ∧ l.length ≤ c ∧ Kd.C (Kd.int k) W A l.length l ∧ l.length ≤ 140737488351232 ∧ (Lit.int .i64 x0).wf = true ∧ (Lit.int .i64 x1).wf = true ∧ (Lit.int .i64 x2).wf = true := by
  have hrb : reachBytes = 140737488351232 := by decide
  obtain ⟨v0, v1, v2, v3, y0, y1, y2, y3, n, rfl, rfl, rfl, g0, g1, g2, g3⟩ := open_agg4 ht hone hC hv h
  obtain ⟨z0, rfl, w0⟩ := int_cell h0 g0
  obtain ⟨z1, rfl, w1⟩ := int_cell h1 g1
  obtain ⟨z2, rfl, w2⟩ := int_cell h2 g2
  have hw : ∀ x ∈ DataW.weights P f3.type y3.1, x ≤ reachBytes := fun x hx => by
    have := List.all_eq_true.1 hsz _ (DataW.weights_mem_each hj hd x (by simp [DataW.weights, ht, DataW.weightsEach, hx]))
    simpa using this
  rcases open_ints h3 hq cq g3 with ⟨hcs3, hy⟩ | ⟨a', len', cap', zs, hcs3, _, hl', hm', hz, hy, hcell', hwz⟩
  · obtain rfl : v3 = .slice none 0 0 := by simpa using hcs3
    exact ⟨z0, z1, z2, none, 0, [], rfl, Nat.le_refl _, Kd.C_nil _ _, by simp, w0, w1, w2⟩
  · obtain rfl : v3 = .slice (some a') len' cap' := by simpa using hcs3
    simp only [if_true] at hz
    have hzl : (zs.take len').length = len' := by rw [List.length_take]; omega
    refine ⟨z0, z1, z2, some a', cap', zs.take len', by rw [hzl], by rw [hzl]; exact hl', ?_, ?_, w0, w1, w2⟩
    · refine Kd.C_of_reads (d := (0 : Int)) (h1 := fun _ => rfl) ⟨rfl, by rw [hzl]; unfold maxLen at hm'; omega, fun _ => ⟨a', rfl, fun i' hi' => ?_⟩⟩
      rw [hzl] at hi'
      rw [hcell' i' (by omega)]
      congr 2
      rw [List.getD_eq_getElem?_getD, List.getD_eq_getElem?_getD, List.getElem?_take, if_pos hi']
    · rw [hzl]
      have e5 : (lits (H := H) k (zs.take len')).length = len' := by unfold lits; rw [List.length_map, hzl]
      have e6 : (lits (H := H) k (zs.drop len')).length = cap' - len' := by unfold lits; rw [List.length_map, List.length_drop, hz]
      have := hw ((len' + (cap' - len')) * P.bytesOf q) (by
        rw [(Prod.mk.inj hy).1]
        simp only [DataW.weights, h3, List.mem_cons]
        left
        rw [e5, e6])
      have h5 : len' ≤ len' + (cap' - len') := by omega
      rw [← hrb]
      exact Nat.le_trans h5 (Nat.le_trans (Nat.le_mul_of_pos_right _ bq) this)
end
end Go.Proofs.YthahdombnmkokaaDoor.Given
