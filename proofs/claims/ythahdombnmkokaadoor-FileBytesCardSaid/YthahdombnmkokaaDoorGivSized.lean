/- Arguments of types [][]byte, []byte and []int, as the rows of the laws read them, with their weights. -/
import Derived.Test.YthahdombnmkokaaDoorGivRows
import Derived.SizedLaws
import Derived.ChangeSlices
namespace Go.Proofs.YthahdombnmkokaaDoor.Given
open Go.RowKit Go.Proofs.YthahdombnmkokaaDoorW.PrintWords Go.Proofs.YthahdombnmkokaaDoorW.PrintLast Go.ChangeShapes Go.WideShapes

theorem weightsAll_mem {H : Type} {P : Program} {e : TypeId} : ∀ {l : List (DataW H)} {d : DataW H}, d ∈ l → ∀ n ∈ d.weights P e, n ∈ DataW.weightsAll P e l
  | [], _, h, _, _ => by simp at h
  | x :: r, d, h, n, hn => by
    simp only [DataW.weightsAll, List.mem_append]
    rcases List.mem_cons.1 h with rfl | h
    · exact .inl hn
    · exact .inr (weightsAll_mem h n hn)
/-- The inner weights of a slice of things. -/
theorem sized_inner {H : Type} {P : Program} {ts : List TypeId} {ds : List (DataW H)} (h : (DataW.weightsEach P ts ds).all (· ≤ reachBytes) = true) {j : Nat} {t e : TypeId} {elems spare : List (DataW H)} (ht : ts[j]? = some t) (hd : ds[j]? = some (.slice elems spare)) (hu : P.underlying t = some (.slice e))
    {d : DataW H} (hm : d ∈ elems) (n : Nat) (hn : n ∈ d.weights P e) : n ≤ reachBytes := by
  have := List.all_eq_true.1 h _ (DataW.weights_mem_each ht hd n (by simp only [DataW.weights, hu, List.mem_cons, List.mem_append]; exact .inr (.inl (weightsAll_mem hm n hn))))
  simpa using this

section
variable {H : Type} {enc : TypeId × Value → H} {P : Program} {W : World} {base : Nat} {held : Bool} {t e q : TypeId} {a : Option Addr} {len cap : Nat} {d : DataW H} {ps : List MemPlace} {ts : List TypeId} {ds : List (DataW H)} {j : Nat}

theorem rows_all (hsz : (DataW.weightsEach P ts ds).all (· ≤ reachBytes) = true) (hj : ts[j]? = some t) (hd : ds[j]? = some d) (ht : P.underlying t = some (.slice e)) (he : P.underlying e = some (.slice q)) (hq : P.underlying q = some (.int .u8))
    (ce : P.cellsOf e = 1) (cq : P.cellsOf q = 1) (be : P.bytesOf e = 24) (bq : P.bytesOf q = 1) (h : DataW.Trod enc P W base (fun _ => true) held t (.slice a len cap) d ps) :
    ∃ l, IsRows W a len l ∧ len ≤ cap ∧ len * 24 ≤ 140737488351232 ∧ ∀ b ∈ l, b.length ≤ 140737488351232 := by
  obtain ⟨fuel, hf⟩ := h
  rcases Go.Deep.open_int_rows ht he hq ce cq hf with ⟨hcs, _⟩ | ⟨x, l, c, A, L, C, Z, hcs, _, hl, hm, hx, hcell⟩
  · simp [Value.cells] at hcs
    obtain ⟨rfl, rfl, rfl⟩ := hcs
    exact ⟨[], rows_nil W, Nat.le_refl _, by omega, by simp⟩
  · simp [Value.cells] at hcs
    obtain ⟨rfl, rfl, rfl⟩ := hcs
    obtain ⟨hx, _⟩ := Prod.mk.inj hx
    subst hx
    refine ⟨_, rows_open hl hm hcell, hl, ?_, ?_⟩
    · have z := sized_slice hsz hj hd ht
      rw [be] at z
      have z : (len + (cap - len)) * 24 ≤ reachBytes := by simpa using z
      have hr : reachBytes = 140737488351232 := by decide
      omega
    · intro b hb
      simp only [List.mem_map, List.mem_range] at hb
      obtain ⟨r, hr, rfl⟩ := hb
      obtain ⟨_, h2, h3, h4, _, h6, _⟩ := hcell r (by omega)
      have hrb : reachBytes = 140737488351232 := by decide
      rw [List.length_take, ← hrb]
      cases hA : A r with
      | none => have := h6 hA; omega
      | some a' =>
        refine Nat.le_trans (Nat.min_le_left _ _) (Nat.le_trans h2 ?_)
        refine sized_inner hsz hj hd ht (d := Go.Deep.intRow .u8 (A r) (L r) (Z r)) (by simp only [List.mem_map, List.mem_range]; exact ⟨r, hr, rfl⟩) (C r) ?_
        rw [hA]
        simp only [Go.Deep.intRow, DataW.weights, he, bq, Nat.mul_one, List.mem_cons]
        left
        simp [lits]
        omega
theorem bytes_all (hsz : (DataW.weightsEach P ts ds).all (· ≤ reachBytes) = true) (hj : ts[j]? = some t) (hd : ds[j]? = some d) (ht : P.underlying t = some (.slice e)) (he : P.underlying e = some (.int .u8)) (ce : P.cellsOf e = 1) (be : P.bytesOf e = 1)
    (h : DataW.Trod enc P W base (fun _ => true) held t (.slice a len cap) d ps) : ∃ l, IsBytes W a len l ∧ len ≤ cap ∧ len ≤ 140737488351232 := by
  obtain ⟨fuel, hf⟩ := h
  rcases open_ints ht he ce hf with ⟨hcs, _⟩ | ⟨x, l, c, zs, hcs, _, hl, hm, hz, hx, hcell, hwz⟩
  · simp [Value.cells] at hcs
    obtain ⟨rfl, rfl, rfl⟩ := hcs
    exact ⟨[], bytes_nil W, Nat.le_refl _, by omega⟩
  · simp [Value.cells] at hcs
    obtain ⟨rfl, rfl, rfl⟩ := hcs
    obtain ⟨hx, _⟩ := Prod.mk.inj hx
    subst hx
    refine ⟨_, bytes_open hl hm (by simpa using hz) hcell hwz, hl, ?_⟩
    have z := sized_slice hsz hj hd ht
    rw [be] at z
    have hr : reachBytes = 140737488351232 := by decide
    simp [lits] at z hz
    omega
/-- What a row of a law knows of a slice of whole numbers. -/
def IsInts (w : World) (a : Option Addr) (len : Nat) (l : List Int) : Prop := l.length = len ∧ Kd.C (Kd.int .i64) w a len l ∧ ∀ x ∈ l, (Lit.int .i64 x).wf = true
theorem ints_all (hsz : (DataW.weightsEach P ts ds).all (· ≤ reachBytes) = true) (hj : ts[j]? = some t) (hd : ds[j]? = some d) (ht : P.underlying t = some (.slice e)) (he : P.underlying e = some (.int .i64)) (ce : P.cellsOf e = 1) (be : P.bytesOf e = 8)
    (h : DataW.Trod enc P W base (fun _ => true) held t (.slice a len cap) d ps) : ∃ l, IsInts W a len l ∧ len ≤ cap ∧ len * 8 ≤ 140737488351232 := by
  obtain ⟨fuel, hf⟩ := h
  rcases open_ints ht he ce hf with ⟨hcs, _⟩ | ⟨x, l, c, zs, hcs, _, hl, hm, hz, hx, hcell, hwz⟩
  · simp [Value.cells] at hcs
    obtain ⟨rfl, rfl, rfl⟩ := hcs
    exact ⟨[], ⟨rfl, Kd.C_of_reads (d := (0 : Int)) (h1 := fun _ => rfl) ⟨rfl, by decide, fun h => absurd h (by decide)⟩, by simp⟩, Nat.le_refl _, by omega⟩
  · simp [Value.cells] at hcs
    obtain ⟨rfl, rfl, rfl⟩ := hcs
    obtain ⟨hx, _⟩ := Prod.mk.inj hx
    subst hx
    have hz' : zs.length = cap := by simpa using hz
    have hlen : (zs.take len).length = len := by rw [List.length_take]; omega
    refine ⟨zs.take len, ⟨hlen, Kd.C_of_reads (d := (0 : Int)) (h1 := fun _ => rfl) ⟨hlen, by unfold maxLen at hm; omega, fun _ => ⟨x, rfl, fun i hi => ?_⟩⟩, fun y hy => hwz y (List.mem_of_mem_take hy)⟩, hl, ?_⟩
    · rw [hcell i (by omega)]
      have e : (zs.take len).getD i 0 = zs.getD i 0 := by rw [List.getD_eq_getElem?_getD, List.getD_eq_getElem?_getD, List.getElem?_take, if_pos hi]
      rw [e]
    · have z := sized_slice hsz hj hd ht
      rw [be] at z
      have hr : reachBytes = 140737488351232 := by decide
      simp [lits] at z
      omega
end
end Go.Proofs.YthahdombnmkokaaDoor.Given
