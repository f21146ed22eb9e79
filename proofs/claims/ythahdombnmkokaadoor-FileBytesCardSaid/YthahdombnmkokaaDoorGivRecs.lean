/- An argument that is a slice of records of three whole numbers and a slice of whole numbers, as a law's row reads it, with its weights. -/
import Derived.Test.YthahdombnmkokaaDoorGivSized
import Derived.Deep.SlicePairs
import Derived.Deep.Slices
import Derived.ChangeArms
namespace Go.Proofs.YthahdombnmkokaaDoor.Given
open Go.RowKit Go.Deep Go.Proofs.YthahdombnmkokaaDoorW.PrintWords Go.Proofs.YthahdombnmkokaaDoorW.PrintLast Go.ChangeShapes Go.WideShapes
abbrev Rec3 := Int × Int × Int × List Int
abbrev kRec (e : TypeId) (k : IntKind) : Kd Rec3 := Kd.pair (Kd.int .i64) (Kd.pair (Kd.int .i64) (Kd.pair (Kd.int .i64) (Kd.slice e (Kd.int k))))
section
variable {H : Type} {enc : TypeId × Value → H} {P : Program} {W : World} {base : Nat} {held : Bool} {t e q : TypeId} {f0 f1 f2 f3 : Field} {k : IntKind} {a : Option Addr} {len cap : Nat} {d : DataW H} {ps : List MemPlace} {ts : List TypeId} {ds : List (DataW H)} {j : Nat}
theorem int_cell {t : TypeId} {n : Nat} {v : Value} {x : DataW H × List MemPlace} (ht : P.underlying t = some (.int k)) (h : DataW.trod enc P W base (fun _ => true) held n t [v] = some x) : ∃ z, v = .int k z ∧ (Lit.int k z).wf = true := by
  cases n with
  | zero => simp [DataW.trod] at h
  | succ n =>
    cases v <;> simp [DataW.trod, ht] at h
    obtain ⟨⟨rfl, hw⟩, _⟩ := h
    exact ⟨_, rfl, hw⟩
/-- One record, from its cells. -/
structure OneRec (P : Program) (W : World) (eq : TypeId) (k : IntKind) (a : Addr) (i : Nat) (r : Rec3) : Prop where
  c0 : W.cell? (a.add (i * 4)) = some (.int .i64 r.1)
  c1 : W.cell? (a.add (i * 4 + 1)) = some (.int .i64 r.2.1)
  c2 : W.cell? (a.add (i * 4 + 2)) = some (.int .i64 r.2.2.1)
  c3 : ∃ A c, W.cell? (a.add (i * 4 + 3)) = some (.slice A r.2.2.2.length c) ∧ r.2.2.2.length ≤ c ∧ Kd.C (Kd.int k) W A r.2.2.2.length r.2.2.2
  w0 : (Lit.int .i64 r.1).wf = true
  w1 : (Lit.int .i64 r.2.1).wf = true
  w2 : (Lit.int .i64 r.2.2.1).wf = true
  w3 : ∀ z ∈ r.2.2.2, (Lit.int k z).wf = true
theorem recs_all (hsz : (DataW.weightsEach P ts ds).all (· ≤ reachBytes) = true) (hj : ts[j]? = some t) (hd : ds[j]? = some d) (ht : P.underlying t = some (.slice e)) (he : P.underlying e = some (.struct #[f0, f1, f2, f3]))
    (ce : P.cellsOf e = 4) (o0 : f0.offset = 0) (o1 : f1.offset = 1) (o2 : f2.offset = 2) (o3 : f3.offset = 3) (h0 : P.underlying f0.type = some (.int .i64)) (h1 : P.underlying f1.type = some (.int .i64)) (h2 : P.underlying f2.type = some (.int .i64)) (h3 : P.underlying f3.type = some (.slice q))
    (n0 : P.cellsOf f0.type = 1) (n1 : P.cellsOf f1.type = 1) (n2 : P.cellsOf f2.type = 1) (n3 : P.cellsOf f3.type = 1) (hq : P.underlying q = some (.int k)) (cq : P.cellsOf q = 1) (bq : 1 ≤ P.bytesOf q) (be : 1 ≤ P.bytesOf e)
    (h : DataW.Trod enc P W base (fun _ => true) held t (.slice a len cap) d ps) :
    ∃ l : List Rec3, l.length = len ∧ Kd.C (kRec q k) W a len l ∧ len ≤ cap ∧ len ≤ 140737488351232 ∧ (∀ r ∈ l, r.2.2.2.length ≤ 140737488351232) ∧ ∀ r ∈ l, (Lit.int .i64 r.1).wf = true ∧ (Lit.int .i64 r.2.1).wf = true ∧ (Lit.int .i64 r.2.2.1).wf = true ∧ ∀ z ∈ r.2.2.2, (Lit.int k z).wf = true := by
  obtain ⟨fuel, hf⟩ := h
  have hrb : reachBytes = 140737488351232 := by decide
  rcases open_slice ht hf with ⟨hcs, _⟩ | ⟨ad, l0, c0, m, n, D, Pl, hcs, hb, hl, hm, hmm, hx, hel⟩
  · simp [Value.cells] at hcs
    obtain ⟨rfl, rfl, rfl⟩ := hcs
    exact ⟨[], rfl, Kd.C_nil _ _, Nat.le_refl _, by omega, by simp, by simp⟩
  simp [Value.cells] at hcs
  obtain ⟨rfl, rfl, rfl⟩ := hcs
  simp only [if_true] at hmm
  have hmm' := hmm.symm
  subst hmm'
  obtain ⟨hx, _⟩ := Prod.mk.inj hx
  have each : ∀ i, i < len → ∃ r : Rec3, OneRec P W q k ad i r ∧ r.2.2.2.length ≤ reachBytes := by
    intro i hi
    obtain ⟨cs, g1, g2⟩ := hel i (by omega)
    rw [ce] at g1
    obtain ⟨_, hlen, hcell⟩ := World.cells?_some g1
    obtain ⟨xs, n', _, hxy, _, hxl, hfs⟩ := DataW.trod_struct he g2
    match xs, hxl, cs, hlen with
    | [y0, y1, y2, y3], _, [v0, v1, v2, v3], _ =>
      have q0 := hfs 0 f0 rfl
      have q1 := hfs 1 f1 rfl
      have q2 := hfs 2 f2 rfl
      have q3 := hfs 3 f3 rfl
      simp [o0, o1, o2, o3, n0, n1, n2, n3] at q0 q1 q2 q3
      have e0 := hcell 0 (by omega)
      have e1 := hcell 1 (by omega)
      have e2 := hcell 2 (by omega)
      have e3 := hcell 3 (by omega)
      rw [Go.Deep.add_add] at e0 e1 e2 e3
      obtain ⟨z0, rfl, w0⟩ := int_cell h0 q0
      obtain ⟨z1, rfl, w1⟩ := int_cell h1 q1
      obtain ⟨z2, rfl, w2⟩ := int_cell h2 q2
      have hD : D i = .agg [y0.1, y1.1, y2.1, y3.1] := by simpa using (Prod.mk.inj hxy).1
      have hw : ∀ x ∈ DataW.weights P f3.type y3.1, x ≤ reachBytes := fun x hxm => by
        refine sized_inner hsz hj (by rw [hd, hx]) ht (d := D i) (List.mem_map.2 ⟨i, List.mem_range.2 hi, rfl⟩) x ?_
        rw [hD]
        simp [DataW.weights, he, DataW.weightsEach, hxm]
      rcases open_ints h3 hq cq q3 with ⟨hcs3, hy⟩ | ⟨a', len', cap', zs, hcs3, _, hl', hm', hz, hy, hcell', hwz⟩
      · obtain rfl : v3 = .slice none 0 0 := by simpa using hcs3
        refine ⟨(z0, z1, z2, []), ⟨by simpa using e0, by simpa using e1, by simpa using e2, ⟨none, 0, by simpa using e3, Nat.le_refl _, Kd.C_nil _ _⟩, w0, w1, w2, by simp⟩, by simp⟩
      · obtain rfl : v3 = .slice (some a') len' cap' := by simpa using hcs3
        simp only [if_true] at hz
        have hzl : (zs.take len').length = len' := by rw [List.length_take]; omega
        refine ⟨(z0, z1, z2, zs.take len'), ⟨by simpa using e0, by simpa using e1, by simpa using e2, ⟨some a', cap', by rw [hzl]; simpa using e3, by rw [hzl]; exact hl', ?_⟩, w0, w1, w2, fun z hzm => hwz z (List.mem_of_mem_take hzm)⟩, ?_⟩
        · refine Kd.C_of_reads (d := (0 : Int)) (h1 := fun _ => rfl) ⟨rfl, by rw [hzl]; unfold maxLen at hm'; omega, fun _ => ⟨a', rfl, fun i' hi' => ?_⟩⟩
          rw [hzl] at hi'
          rw [hcell' i' (by omega)]
          congr 2
          rw [List.getD_eq_getElem?_getD, List.getD_eq_getElem?_getD, List.getElem?_take, if_pos hi']
        · rw [hzl]
          have e5 : (lits (H := H) k (zs.take len')).length = len' := by unfold lits; rw [List.length_map, hzl]
          have e6 : (lits (H := H) k (zs.drop len')).length = cap' - len' := by unfold lits; rw [List.length_map, List.length_drop, hz]
          have := hw ((len' + (cap' - len')) * P.bytesOf q) (by
            rw [(Prod.mk.inj hy).1]
            simp only [DataW.weights, h3, List.mem_cons]
            left
            rw [e5, e6])
          have h5 : len' ≤ len' + (cap' - len') := by omega
          exact Nat.le_trans h5 (Nat.le_trans (Nat.le_mul_of_pos_right _ bq) this)
  obtain ⟨r, hr⟩ := choose_lt each
  have hlr : ((List.range len).map r).length = len := by simp
  refine ⟨(List.range len).map r, hlr, ⟨hlr, by unfold maxLen at hm; omega, fun _ => ⟨ad, rfl, fun i p hi => ?_⟩⟩, hl, ?_, ?_, ?_⟩
  · have hil : i < len := by have := (List.getElem?_eq_some_iff.1 hi).1; simpa using this
    obtain rfl : r i = p := by simpa [hil] using hi
    have hR := (hr i hil).1
    obtain ⟨A, c, g3, g4, g5⟩ := hR.c3
    refine ⟨[.int .i64 (r i).1, .int .i64 (r i).2.1, .int .i64 (r i).2.2.1, .slice A (r i).2.2.2.length c], rfl, ⟨[_], [_, _, _], rfl, rfl, ⟨[_], [_, _], rfl, rfl, ⟨[_], [_], rfl, rfl, ⟨A, c, rfl, g4, g5⟩⟩⟩⟩, fun i' u hu => ?_⟩
    show W.cell? (ad.add (i * 4 + i')) = some u
    match i', hu with
    | 0, hu => simp at hu; subst hu; exact hR.c0
    | 1, hu => simp at hu; subst hu; exact hR.c1
    | 2, hu => simp at hu; subst hu; exact hR.c2
    | 3, hu => simp at hu; subst hu; exact g3
  · have z := sized_slice hsz hj (by rw [hd, hx]) ht
    have z : (len + (cap - len)) * P.bytesOf e ≤ reachBytes := by simpa using z
    have h5 : len ≤ len + (cap - len) := by omega
    have := Nat.le_trans h5 (Nat.le_trans (Nat.le_mul_of_pos_right _ be) z)
    omega
  · intro x hxm
    obtain ⟨i, hi, rfl⟩ := List.mem_map.1 hxm
    have := (hr i (List.mem_range.1 hi)).2
    omega
  · intro x hxm
    obtain ⟨i, hi, rfl⟩ := List.mem_map.1 hxm
    have hR := (hr i (List.mem_range.1 hi)).1
    exact ⟨hR.w0, hR.w1, hR.w2, hR.w3⟩
end
end Go.Proofs.YthahdombnmkokaaDoor.Given
