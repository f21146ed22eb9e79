/- need.There's list: the plain laws. -/
import Derived.Test.YtfkkhobbmcepmaaDoorGivThere
namespace Go.Proofs.YtfkkhobbmcepmaaDoor.Given
set_option linter.unusedVariables false
set_option linter.unusedSimpArgs false
/-- The chunks below m that aren't noughts. -/
def thM (b : List Int) (m : Nat) : List Int := ((List.range m).filter fun j => !nb (chk b j)).map fun (j : Nat) => (j : Int)
def thL (b : List Int) : List Int := thM b (chN b.length)
theorem th_thL (b : List Int) : th b (List.range (chN b.length)) = thL b := by
  unfold th thL thM
  rw [List.length_range]
  congr 1
  refine List.filter_congr fun j hj => ?_
  rw [List.mem_range] at hj
  rw [List.getD_eq_getElem?_getD, List.getElem?_range hj]
  rfl
theorem nb_iff (b : List Int) (k : Nat) : nb (chk b k) = true ↔ ∀ i, i < 56 → b.getD (56 * k + i) 0 = 0 := by
  unfold nb
  rw [decide_eq_true_iff, tl_zero]
  constructor
  · intro h i hi
    by_cases hl : i < (chk b k).length
    · rw [← chk_get b k i hl]; exact h i hl
    · rw [chk_len] at hl
      rw [List.getD_eq_getElem?_getD, List.getElem?_eq_none (by omega)]
      rfl
  · intro h i hi
    rw [chk_get b k i hi]
    exact h i (by rw [chk_len] at hi; omega)
theorem nb_out {b : List Int} {k : Nat} (h : chN b.length ≤ k) : nb (chk b k) = true := by
  rw [nb_iff]
  intro i hi
  rw [List.getD_eq_getElem?_getD, List.getElem?_eq_none (by unfold chN at h; omega)]
  rfl
theorem thM_add (b : List Int) (d : Nat) : thM b (chN b.length + d) = thL b := by
  induction d with
  | zero => rfl
  | succ d ih =>
    rw [← ih]
    unfold thM
    rw [← Nat.add_assoc, List.range_succ, List.filter_append, List.map_append]
    have : nb (chk b (chN b.length + d)) = true := nb_out (by omega)
    simp [List.filter_cons, this]
theorem thM_ext {b : List Int} {m : Nat} (h : chN b.length ≤ m) : thM b m = thL b := by
  rw [show m = chN b.length + (m - chN b.length) by omega]
  exact thM_add b _
theorem thM_congr {b c : List Int} {m : Nat} (h : ∀ k i, k < m → i < 56 → b.getD (56 * k + i) 0 = c.getD (56 * k + i) 0) : thM b m = thM c m := by
  unfold thM
  congr 1
  refine List.filter_congr fun k hk => ?_
  rw [List.mem_range] at hk
  have : nb (chk b k) = nb (chk c k) := by
    rw [Bool.eq_iff_iff, nb_iff, nb_iff]
    exact ⟨fun q i hi => by rw [← h k i hk hi]; exact q i hi, fun q i hi => by rw [h k i hk hi]; exact q i hi⟩
  rw [this]
theorem getD_app (b : List Int) (n i : Nat) : (b ++ List.replicate n 0).getD i 0 = b.getD i 0 := by
  rw [List.getD_eq_getElem?_getD, List.getD_eq_getElem?_getD]
  by_cases h : i < b.length
  · rw [List.getElem?_append_left h]
  · rw [List.getElem?_append_right (by omega), List.getElem?_replicate, List.getElem?_eq_none (by omega)]
    split <;> rfl
/-- Noughts behind bytes: nothing more is there. -/
theorem thL_noughts (b : List Int) (n : Nat) : thL (b ++ List.replicate n 0) = thL b := by
  have h : chN b.length ≤ chN (b ++ List.replicate n 0).length := by rw [List.length_append]; unfold chN; omega
  rw [← thM_ext h]
  show thM _ _ = _
  exact thM_congr (fun k i _ _ => getD_app b n _)
theorem thL_zeros (n : Nat) : thL (List.replicate n 0) = [] := by
  have := thL_noughts [] n
  rw [List.nil_append] at this
  rw [this]
  rfl
theorem thL_mem {b : List Int} {x : Int} (h : x ∈ thL b) : 0 ≤ x ∧ x * 56 < (b.length : Int) := by
  unfold thL thM at h
  obtain ⟨j, hj, rfl⟩ := List.mem_map.1 h
  rw [List.mem_filter, List.mem_range] at hj
  refine ⟨by omega, ?_⟩
  have := hj.1
  unfold chN at this
  omega
theorem thL_up (b : List Int) : (thL b).Pairwise (· < ·) := by
  unfold thL thM
  refine List.pairwise_map.2 ((List.pairwise_lt_range.filter _).imp ?_)
  intro i j h
  omega
theorem thL_len (b : List Int) : (thL b).length ≤ chN b.length := by
  unfold thL thM
  rw [List.length_map]
  exact Nat.le_trans (List.length_filter_le _ _) (by simp)
/-- Bytes behind whole chunks: their places behind those. -/
theorem thL_parts (a b : List Int) (q : Nat) (h : a.length = 56 * q) : thL (a ++ b) = thL a ++ (thL b).map fun x => x + (q : Int) := by
  have h1 : chN a.length = q := by unfold chN; omega
  have h2 : chN (a ++ b).length = q + chN b.length := by rw [List.length_append]; unfold chN; omega
  unfold thL
  rw [h2, h1]
  unfold thM
  rw [List.range_add, List.filter_append, List.map_append, List.filter_map, List.map_map, List.map_map]
  congr 1
  · have := thM_congr (b := a ++ b) (c := a) (m := q) (fun k i hk hi => by
      rw [List.getD_eq_getElem?_getD, List.getD_eq_getElem?_getD, List.getElem?_append_left (by omega)])
    exact this
  · have e : ∀ j, nb (chk (a ++ b) (q + j)) = nb (chk b j) := fun j => by
      rw [Bool.eq_iff_iff, nb_iff, nb_iff]
      have : ∀ i, (a ++ b).getD (56 * (q + j) + i) 0 = b.getD (56 * j + i) 0 := fun i => by
        rw [List.getD_eq_getElem?_getD, List.getD_eq_getElem?_getD, List.getElem?_append_right (by omega)]
        congr 2
        omega
      exact ⟨fun k i hi => by rw [← this]; exact k i hi, fun k i hi => by rw [this]; exact k i hi⟩
    rw [show ((fun j => !nb (chk (a ++ b) j)) ∘ fun x => q + x) = fun j => !nb (chk b j) from funext fun j => by simp [e]]
    refine List.map_congr_left fun j _ => ?_
    simp
    omega
end Go.Proofs.YtfkkhobbmcepmaaDoor.Given
