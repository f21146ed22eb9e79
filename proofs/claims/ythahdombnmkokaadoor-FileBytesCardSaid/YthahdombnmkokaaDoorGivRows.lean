/- An argument of type [][]byte, as the rows of the laws read it. -/
import Derived.Test.YthahdombnmkokaaDoorWWords
import Derived.Test.YthahdombnmkokaaDoorWLast
import Derived.Deep.Matrix
namespace Go.Proofs.YthahdombnmkokaaDoor.Given
open Go.RowKit Go.Proofs.YthahdombnmkokaaDoorW.PrintWords Go.Proofs.YthahdombnmkokaaDoorW.PrintLast Go.ChangeShapes Go.WideShapes

/-- What a row of a law knows of a slice of slices of bytes. -/
def IsRows (w : World) (a : Option Addr) (len : Nat) (l : List (List Int)) : Prop :=
  l.length = len ∧ Kd.C (Kd.slice 5 (Kd.int .u8)) w a len l ∧ ∀ b ∈ l, ∀ x ∈ b, 0 ≤ x ∧ x ≤ 255
theorem rows_nil (w : World) : IsRows w none 0 [] := ⟨rfl, ⟨rfl, by decide, fun h => absurd h (by decide)⟩, by simp⟩
theorem u8_range {n : Int} (h : (Lit.int .u8 n).wf = true) : 0 ≤ n ∧ n ≤ 255 := by simpa [Lit.wf, IntKind.min, IntKind.max, IntKind.signed, IntKind.bits] using h
theorem rows_open {w : World} {a : Addr} {len cap : Nat} {A : Nat → Option Addr} {L C : Nat → Nat} {Z : Nat → List Int} {base : Nat} (hl : len ≤ cap) (hm : cap ≤ maxLen)
    (h : ∀ r, r < cap → w.cell? (a.add r) = some (.slice (A r) (L r) (C r)) ∧ L r ≤ C r ∧ C r ≤ maxLen ∧ (Z r).length = C r ∧ (∀ n ∈ Z r, (Lit.int .u8 n).wf = true) ∧ (A r = none → C r = 0) ∧
        ∀ a', A r = some a' → base ≤ a'.block ∧ ∀ c, c < C r → w.cell? (a'.add c) = some (.int .u8 ((Z r).getD c 0))) :
    IsRows w (some a) len ((List.range len).map fun r => (Z r).take (L r)) := by
  refine ⟨by simp, ⟨by simp, by unfold maxLen at hm; omega, fun _ => ⟨a, rfl, fun j p hj => ?_⟩⟩, ?_⟩
  · have hjl : j < len := by have := (List.getElem?_eq_some_iff.1 hj).1; simpa using this
    obtain rfl : (Z j).take (L j) = p := by simpa [hjl] using hj
    obtain ⟨h1, h2, h3, h4, h5, h6, h7⟩ := h j (by omega)
    have hlen : ((Z j).take (L j)).length = L j := by rw [List.length_take]; omega
    refine ⟨[.slice (A j) ((Z j).take (L j)).length (C j)], rfl, ⟨A j, C j, rfl, by rw [hlen]; exact h2, ?_⟩, fun i u hu => ?_⟩
    · refine Kd.C_of_reads (d := (0 : Int)) (h1 := fun _ => rfl) ⟨rfl, by rw [hlen]; unfold maxLen at h3; omega, fun h0 => ?_⟩
      rw [hlen] at h0
      cases hA : A j with
      | none => have := h6 hA; omega
      | some a' =>
        refine ⟨a', rfl, fun i hi => ?_⟩
        rw [hlen] at hi
        rw [(h7 a' hA).2 i (by omega)]
        have e : ((Z j).take (L j)).getD i 0 = (Z j).getD i 0 := by
          rw [List.getD_eq_getElem?_getD, List.getD_eq_getElem?_getD, List.getElem?_take, if_pos hi]
        rw [e]
    · match i, hu with
      | 0, hu =>
        simp at hu; subst hu
        have hjz : j * 1 + 0 = j := by omega
        show w.cell? (a.add (j * 1 + 0)) = _
        rw [hjz, h1, h4, Nat.min_eq_left h2]
  · intro b hb x hx
    simp only [List.mem_map, List.mem_range] at hb
    obtain ⟨r, hr, rfl⟩ := hb
    exact u8_range ((h r (by omega)).2.2.2.2.1 x (List.mem_of_mem_take hx))

/-- The same of a slice of bytes. -/
def IsBytes (w : World) (a : Option Addr) (len : Nat) (l : List Int) : Prop := l.length = len ∧ Kd.C (Kd.int .u8) w a len l ∧ ∀ x ∈ l, 0 ≤ x ∧ x ≤ 255
theorem bytes_nil (w : World) : IsBytes w none 0 [] := ⟨rfl, Kd.C_of_reads (d := (0 : Int)) (h1 := fun _ => rfl) ⟨rfl, by decide, fun h => absurd h (by decide)⟩, by simp⟩
theorem bytes_open {w : World} {a : Addr} {len cap : Nat} {zs : List Int} (hl : len ≤ cap) (hm : cap ≤ maxLen) (hz : zs.length = cap) (hc : ∀ i, i < zs.length → w.cell? (a.add i) = some (.int .u8 (zs.getD i 0))) (hw : ∀ n ∈ zs, (Lit.int .u8 n).wf = true) : IsBytes w (some a) len (zs.take len) := by
  have hlen : (zs.take len).length = len := by rw [List.length_take]; omega
  refine ⟨hlen, Kd.C_of_reads (d := (0 : Int)) (h1 := fun _ => rfl) ⟨hlen, by unfold maxLen at hm; omega, fun _ => ⟨a, rfl, fun i hi => ?_⟩⟩, fun x hx => u8_range (hw x (List.mem_of_mem_take hx))⟩
  rw [hc i (by omega)]
  have e : (zs.take len).getD i 0 = zs.getD i 0 := by rw [List.getD_eq_getElem?_getD, List.getD_eq_getElem?_getD, List.getElem?_take, if_pos hi]
  rw [e]

end Go.Proofs.YthahdombnmkokaaDoor.Given
