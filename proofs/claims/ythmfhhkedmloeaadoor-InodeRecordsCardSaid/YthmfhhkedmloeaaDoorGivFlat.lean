/- A struct of whole numbers alone, by value, as the rows of the laws read it. -/
import Derived.Test.YthmfhhkedmloeaaDoorProg
import Derived.Test.YthmfhhkedmloeaaDoorWWords
import Derived.OpenShut
import Derived.Lib.SmallJoins
namespace Go.Proofs.YthmfhhkedmloeaaDoor.Given
open Go.RowKit Go.ChangeShapes Go.WideShapes
set_option linter.unusedVariables false
set_option linter.unusedSimpArgs false

theorem cell_int {P : Program} {w : World} {r : Reach} {base : Nat} {t : TypeId} {v : Value} (hI : P.underlying t = some (.int .i64)) (h : Cell.okWide P w r base t v) : ∃ n, v = .int .i64 n ∧ (Lit.int .i64 n).wf = true := by
  have h2 : Cell.ok P w r base t v := by
    unfold Cell.okWide at h
    rw [hI] at h
    cases v <;> exact h
  clear h
  unfold Cell.ok at h2
  rw [hI] at h2
  cases v with
  | int k n =>
    obtain ⟨rfl, h⟩ := h2
    exact ⟨n, rfl, by simpa [Lit.wf, IntKind.has, IntKind.min, IntKind.max, IntKind.signed, IntKind.bits] using h⟩
  | _ => exact absurd h2 (by simp)
theorem list_ints : ∀ (vs : List Value), (∀ v ∈ vs, ∃ n, v = .int .i64 n ∧ (Lit.int .i64 n).wf = true) → ∃ l : List Int, vs = l.map (Value.int .i64) ∧ ∀ x ∈ l, (Lit.int .i64 x).wf = true
  | [], _ => ⟨[], rfl, by simp⟩
  | v :: vs, h => by
    obtain ⟨n, rfl, hn⟩ := h v (by simp)
    obtain ⟨l, rfl, hl⟩ := list_ints vs (fun u hu => h u (by simp [hu]))
    exact ⟨n :: l, rfl, fun x hx => by rcases List.mem_cons.1 hx with rfl | hx; · exact hn
                                       · exact hl x hx⟩
theorem open_flat {P : Program} {w : World} {r : Reach} {base n : Nat} {t T : TypeId} {v : Value} {fs : Array Field} (hs : P.underlying t = some (.struct fs)) (hC : P.cellsOf t = n) (hT : P.cellTypes P.depth t = some (List.replicate n T)) (hI : P.underlying T = some (.int .i64)) (hn : 0 < n)
    (hv : Value.okWide P w r base t v) : ∃ l : List Int, l.length = n ∧ v = .agg (l.map (Value.int .i64)).toArray ∧ ∀ x ∈ l, (Lit.int .i64 x).wf = true := by
  unfold Value.okWide at hv
  rw [hs] at hv
  obtain ⟨cs, rfl, hsz, ts, hts, _, hc⟩ := hv
  rw [hT] at hts
  cases hts
  obtain ⟨l, hl, hw⟩ := list_ints cs.toList (by
    intro v hv
    obtain ⟨i, hi, rfl⟩ := List.mem_iff_getElem.1 hv
    obtain ⟨u, hu, hk⟩ := hc i (cs.toList[i]) (by rw [Array.getElem?_eq_getElem (by simpa using hi)]; simp)
    have : u = T := by
      have := List.mem_of_getElem? hu
      exact (List.mem_replicate.1 this).2
    subst this
    exact cell_int hI hk)
  refine ⟨l, ?_, ?_, hw⟩
  · have := congrArg List.length hl
    rw [List.length_map, Array.length_toList] at this
    omega
  · rw [← hl]
theorem list1 (l : List Int) (h : l.length = 1) : ∃ q0, l = [q0] := by
  match l, h with
  | [q0], _ => exact ⟨_, rfl⟩
theorem list2 (l : List Int) (h : l.length = 2) : ∃ q0 q1, l = [q0, q1] := by
  match l, h with
  | [q0, q1], _ => exact ⟨_, _, rfl⟩
theorem list3 (l : List Int) (h : l.length = 3) : ∃ q0 q1 q2, l = [q0, q1, q2] := by
  match l, h with
  | [q0, q1, q2], _ => exact ⟨_, _, _, rfl⟩
theorem list4 (l : List Int) (h : l.length = 4) : ∃ q0 q1 q2 q3, l = [q0, q1, q2, q3] := by
  match l, h with
  | [q0, q1, q2, q3], _ => exact ⟨_, _, _, _, rfl⟩
end Go.Proofs.YthmfhhkedmloeaaDoor.Given
