/- Plain laws over whole numbers and lists: PureSectorParity. -/
import Derived.Test.YtljjlfjhkdbbfaaQSectorParityx
import Derived.Test.YtljjlfjhkdbbfaaPureSec
import Derived.KernelRfl
import Derived.Laws.BitsLemmas
import Derived.Laws.BitsAllLaws
namespace Go.Proofs.Ytljjlfjhkdbbfaa.Pure
open Go.RowKit Go.Proofs.Ytljjlfjhkdbbfaa.PSectorParity Go.Proofs.Ytljjlfjhkdbbfaa.Base Go.Proofs.Ytljjlfjhkdbbfaa.Given Go.Proofs.YtljjlfjhkdbbfaaW.PrintWords Go.Proofs.YtljjlfjhkdbbfaaW.PrintLast Go.Proofs.YtljjlfjhkdbbfaaW.PrintMore
set_option linter.unusedVariables false
set_option linter.unusedSimpArgs false
/-! rows of bytes: Weigh, CopyRows, SameRows -/
theorem weigh_loop (l : List (List Int)) (hs : ∀ b ∈ l, b.length ≤ 140737488351232) (hn : l.length ≤ 140737488351232) (M : Int) (hM : 0 ≤ M) (hM2 : M ≤ 1000000) (d : Nat) : ∀ (k i : Nat) (n : Int), i + d = l.length → d < k → 0 ≤ n → n ≤ M + 140737488351232 →
    ∃ r, moraineref00_Weigh.l0 k l M n (i : Int) = some r ∧ n ≤ r ∧ (r ≤ M → ∀ j, i ≤ j → j < l.length → ((l.getD j []).length : Int) ≤ r - n) := by
  induction d with
  | zero =>
    intro k i n hi hk h0 h1
    obtain ⟨k, rfl⟩ : ∃ m, k = m + 1 := ⟨k - 1, by omega⟩
    simp only [moraineref00_Weigh.l0]
    rw [if_neg (by omega)]
    exact ⟨n, rfl, Int.le_refl _, fun _ j h2 h3 => by omega⟩
  | succ d ih =>
    intro k i n hi hk h0 h1
    obtain ⟨k, rfl⟩ : ∃ m, k = m + 1 := ⟨k - 1, by omega⟩
    simp only [moraineref00_Weigh.l0]
    rw [if_pos (by omega)]
    by_cases hle : n ≤ M
    · have hb : (l.getD i []).length ≤ 140737488351232 := by
        rw [List.getD_eq_getElem?_getD, List.getElem?_eq_getElem (by omega)]
        exact hs _ (List.getElem_mem _)
      have e : rd_L1 l (i : Int) = l.getD i [] := rfl
      rw [if_pos hle, if_pos (by omega), e, w64 (n := n + ((l.getD i []).length : Int)) (by omega) (by omega), w64 (n := (i : Int) + 1) (by omega) (by omega)]
      obtain ⟨r, hr, h2, h3⟩ := ih k (i + 1) (n + ((l.getD i []).length : Int)) (by omega) (by omega) (by omega) (by omega)
      refine ⟨r, hr, by omega, fun hrM j hj hjl => ?_⟩
      rcases Nat.lt_or_ge i j with h | h
      · have := h3 hrM j (by omega) hjl; omega
      · have : j = i := by omega
        subst this; omega
    · rw [if_neg hle]
      exact ⟨n, rfl, Int.le_refl _, fun h => absurd h hle⟩
theorem weigh_eq (l : List (List Int)) (hs : ∀ b ∈ l, b.length ≤ 140737488351232) (hn : l.length ≤ 140737488351232) (M : Int) (hM : 0 ≤ M) (hM2 : M ≤ 1000000) (k : Nat) (hk : l.length < k) :
    ∃ r, moraineref00_Weigh.f k l M = some r ∧ (r ≤ M → (l.length : Int) ≤ M ∧ ∀ b ∈ l, (b.length : Int) ≤ M) := by
  unfold moraineref00_Weigh.f
  by_cases h : (l.length : Int) > M
  · rw [if_pos h, w64 (by omega) (by omega)]
    exact ⟨_, rfl, fun h => by omega⟩
  · rw [if_neg h]
    obtain ⟨r, hr, h1, h2⟩ := weigh_loop l hs hn M hM hM2 l.length k 0 (l.length : Int) (by omega) hk (by omega) (by omega)
    refine ⟨r, hr, fun hrM => ⟨by omega, fun b hb => ?_⟩⟩
    obtain ⟨j, hj, rfl⟩ := List.mem_iff_getElem.1 hb
    have := h2 hrM j (by omega) hj
    rw [List.getD_eq_getElem?_getD, List.getElem?_eq_getElem hj] at this
    simp only [Option.getD_some] at this
    omega
theorem copyb_eq (l : List Int) (h : l.length ≤ 140737488351232) : moraineref00_CopyBytes.f l = some l := by
  unfold moraineref00_CopyBytes.f
  simp only [Option.bind_some]
  rw [if_pos (by simp; omega)]
  rfl
theorem copyrows_loop (l : List (List Int)) (hs : ∀ b ∈ l, b.length ≤ 140737488351232) (hn : l.length ≤ 5864062014804) (d : Nat) : ∀ (k i : Nat), i + d = l.length → d < k → moraineref00_CopyRows.l0 k l (l.take i) (i : Int) = some l := by
  induction d with
  | zero =>
    intro k i hi hk
    obtain ⟨k, rfl⟩ : ∃ m, k = m + 1 := ⟨k - 1, by omega⟩
    simp only [moraineref00_CopyRows.l0]
    rw [if_neg (by omega), List.take_of_length_le (by omega)]
  | succ d ih =>
    intro k i hi hk
    obtain ⟨k, rfl⟩ : ∃ m, k = m + 1 := ⟨k - 1, by omega⟩
    have e : rd_L1 l (i : Int) = l[i]'(by omega) := by
      show l.getD i [] = _
      rw [List.getD_eq_getElem?_getD, List.getElem?_eq_getElem (by omega)]; rfl
    simp only [moraineref00_CopyRows.l0]
    rw [if_pos (by omega), if_pos (by omega), e, copyb_eq _ (hs _ (List.getElem_mem _))]
    simp only [Option.bind_some]
    rw [if_pos (by rw [List.length_take]; omega), w64 (by omega) (by omega)]
    have h := ih k (i + 1) (by omega) (by omega)
    rw [List.take_succ_eq_append_getElem (by omega)] at h
    exact h
theorem copyrows_eq (l : List (List Int)) (hs : ∀ b ∈ l, b.length ≤ 140737488351232) (hn : l.length ≤ 5864062014804) (k : Nat) (hk : l.length < k) : moraineref00_CopyRows.f k l = some l := by
  unfold moraineref00_CopyRows.f
  simpa using copyrows_loop l hs hn l.length k 0 (by omega) hk
theorem samerows_loop (l : List (List Int)) (hs : ∀ b ∈ l, b.length ≤ 140737488351232) (hn : l.length ≤ 5864062014804) (d : Nat) : ∀ (k i : Nat), i + d = l.length → d + 140737488351232 < k → moraineref00_SameRows.l0 k l l (i : Int) = some true := by
  induction d with
  | zero =>
    intro k i hi hk
    obtain ⟨k, rfl⟩ : ∃ m, k = m + 1 := ⟨k - 1, by omega⟩
    simp only [moraineref00_SameRows.l0]
    rw [if_neg (by omega)]
  | succ d ih =>
    intro k i hi hk
    obtain ⟨k, rfl⟩ : ∃ m, k = m + 1 := ⟨k - 1, by omega⟩
    have e : rd_L1 l (i : Int) = l[i]'(by omega) := by
      show l.getD i [] = _
      rw [List.getD_eq_getElem?_getD, List.getElem?_eq_getElem (by omega)]; rfl
    have hb := hs _ (List.getElem_mem (l := l) (n := i) (by omega))
    simp only [moraineref00_SameRows.l0]
    rw [if_pos (by omega), if_pos (by omega), if_pos (by omega), e, same_eq _ _ (by omega) k (by omega)]
    simp only [Option.bind_some, decide_true, if_true]
    rw [w64 (by omega) (by omega)]
    exact ih k (i + 1) (by omega) (by omega)
theorem samerows_eq (l : List (List Int)) (hs : ∀ b ∈ l, b.length ≤ 140737488351232) (hn : l.length ≤ 5864062014804) (k : Nat) (hk : l.length + 140737488351232 < k) : moraineref00_SameRows.f k l l = some true := by
  unfold moraineref00_SameRows.f
  rw [if_pos rfl]
  exact samerows_loop l hs hn l.length k 0 (by omega) hk
theorem xf_get (b : List Int) (k : Nat) (out : List Int) (i : Nat) (hi : i < out.length) : (xf b k out).getD i 0 = if 4 ≤ i ∧ i < 4 + k then xo (out.getD i 0) (b.getD i 0) else out.getD i 0 := by
  induction k with
  | zero => rw [if_neg (by omega)]; rfl
  | succ k ih =>
    simp only [xf]
    by_cases e : 4 + k = i
    · subst e
      rw [List.getD_eq_getElem?_getD, List.getElem?_set_self (by rw [xf_length]; exact hi), if_pos (by omega)]
      rw [if_neg (by omega)] at ih
      rw [ih]; rfl
    · rw [List.getD_eq_getElem?_getD, List.getElem?_set_ne e, ← List.getD_eq_getElem?_getD, ih]
      by_cases h : 4 ≤ i ∧ i < 4 + k
      · rw [if_pos h, if_pos (by omega)]
      · rw [if_neg h, if_neg (by omega)]
theorem getD_app {a b : List Int} (i : Nat) : (a ++ b).getD i 0 = if i < a.length then a.getD i 0 else b.getD (i - a.length) 0 := by
  rw [List.getD_eq_getElem?_getD, List.getElem?_append]
  split <;> rw [List.getD_eq_getElem?_getD]
theorem getD_drop' {a : List Int} (n i : Nat) : (a.drop n).getD i 0 = a.getD (n + i) 0 := by
  rw [List.getD_eq_getElem?_getD, List.getElem?_drop, List.getD_eq_getElem?_getD]
theorem getD_take' {a : List Int} (n i : Nat) (h : i < n) : (a.take n).getD i 0 = a.getD i 0 := by
  rw [List.getD_eq_getElem?_getD, List.getElem?_take, if_pos h, List.getD_eq_getElem?_getD]
theorem xf_row {b out : List Int} (hb : Byt b) (ho : Byt out) (h1 : b.length = 64) (h2 : out.length = 64) : xf b 60 out = out.take 4 ++ xorAll (out.drop 4) (b.drop 4) := by
  have l4 : (out.take 4).length = 4 := by rw [List.length_take]; omega
  apply ext_getD
  · rw [xf_length, List.length_append, l4, xorAll_length, List.length_drop, List.length_drop]; omega
  · intro i hi
    rw [xf_length] at hi
    rw [xf_get b 60 out i hi, getD_app, l4]
    by_cases h : i < 4
    · rw [if_neg (by omega), if_pos h, getD_take' _ _ h]
    · rw [if_pos (by omega), if_neg h, xorAll_get (drop_byt ho 4) (drop_byt hb 4), getD_drop', getD_drop', show 4 + (i - 4) = i by omega]
theorem nought_byt (n : Nat) : Byt (List.replicate n 0) := fun x hx => by rw [(List.mem_replicate.1 hx).2]; exact isB0
theorem noughts_xor {a : List Int} (ha : Byt a) {n : Nat} (h : n ≤ a.length) : xorAll (List.replicate n 0) a = a := by
  apply ext_getD
  · rw [xorAll_length, List.length_replicate]; omega
  · intro i hi
    rw [xorAll_get (nought_byt n) ha]
    have : (List.replicate n (0 : Int)).getD i 0 = 0 := by
      rw [List.getD_eq_getElem?_getD, List.getElem?_replicate]; split <;> rfl
    rw [this, zero_xo (getD_byt ha i)]
theorem xor_nil {a : List Int} (ha : Byt a) : xorAll [] a = a := noughts_xor (n := 0) ha (by omega)
theorem parS_snoc : ∀ (r : List (List Int)) (acc b : List Int), parS acc (r ++ [b]) = xorAll (parS acc r) (b.drop 4)
  | [], _, _ => rfl
  | _ :: r, _, b => parS_snoc r _ b
theorem parS_len : ∀ (r : List (List Int)) (acc : List Int), acc.length = 60 → (∀ b ∈ r, b.length = 64) → (parS acc r).length = 60
  | [], _, h, _ => h
  | b :: r, acc, h, hr => parS_len r _ (by rw [xorAll_length, List.length_drop, hr b (by simp)]; omega) (fun c hc => hr c (by simp [hc]))
theorem xfs_eq (l : List (List Int)) (hB : ∀ b ∈ l, Byt b) (hok : parOK l) : ∀ k, k ≤ l.length → xfs l k = (l.getD 0 []).take 4 ++ parS (List.replicate 60 0) (l.take k) := by
  have h0 : 0 < l.length := by
    rcases Nat.eq_zero_or_pos l.length with h | h
    · exact absurd (List.eq_nil_of_length_eq_zero h) hok.1
    · exact h
  have g : ∀ j, j < l.length → l.getD j [] ∈ l := fun j hj => by rw [List.getD_eq_getElem?_getD, List.getElem?_eq_getElem hj]; exact List.getElem_mem hj
  have h64 : (l.getD 0 []).length = 64 := (hok.2 _ (g 0 h0)).1
  have l4 : ((l.getD 0 []).take 4).length = 4 := by rw [List.length_take]; omega
  intro k
  induction k with
  | zero => intro _; simp only [List.take_zero, parS]; rfl
  | succ k ih =>
    intro hk
    have hb := g k (by omega)
    have e := ih (by omega)
    have hP : Byt (parS (List.replicate 60 0) (l.take k)) := parS_byt _ _ (nought_byt 60) (fun b hb' => hB b (List.mem_of_mem_take hb'))
    have hx : Byt (xfs l k) := by rw [e]; exact app_byt (take_byt (hB _ (g 0 h0)) 4) hP
    have et : l.take (k + 1) = l.take k ++ [l.getD k []] := by
      rw [List.take_succ_eq_append_getElem (by omega), List.getD_eq_getElem?_getD, List.getElem?_eq_getElem (by omega)]; rfl
    have t4 : (xfs l k).take 4 = (l.getD 0 []).take 4 := by rw [e, List.take_append_of_le_length (by omega), List.take_of_length_le (by omega)]
    have d4 : (xfs l k).drop 4 = parS (List.replicate 60 0) (l.take k) := by rw [e, List.drop_append_of_le_length (by omega), List.drop_of_length_le (by omega), List.nil_append]
    rw [et, parS_snoc]
    show xf (l.getD k []) 60 (xfs l k) = _
    rw [xf_row (hB _ hb) hx (hok.2 _ hb).1 (xfs_length l h64 k), t4, d4]
theorem refpar_eq (l : List (List Int)) (hB : ∀ b ∈ l, Byt b) (hn : l.length ≤ 9223372036854775806) : moraineref04_Parity.f l = some (parV l) := by
  unfold moraineref04_Parity.f parV
  rw [if_pos hn]
  have hiff : (l ≠ [] ∧ ∀ b ∈ l, ok4 l b) ↔ parOK l := Iff.rfl
  by_cases h : parOK l
  · rw [if_pos (hiff.2 h), if_pos h, xfs_eq l hB h l.length (Nat.le_refl _), List.take_length]
    cases l with
    | nil => exact absurd rfl h.1
    | cons b r =>
      have hb := hB b (by simp)
      have hg : b.length = 64 := (h.2 b (by simp)).1
      simp only [parS]
      rw [noughts_xor (drop_byt hb 4) (by rw [List.length_drop, hg]; omega), xor_nil (drop_byt hb 4)]
  · rw [if_neg (fun hh => h (hiff.1 hh)), if_neg h]
theorem SectorParity (l : List (List Int)) (hB : ∀ b ∈ l, ∀ x ∈ b, 0 ≤ x ∧ x ≤ 255) (hz : l.length * 24 ≤ 140737488351232) (hs : ∀ b ∈ l, b.length ≤ 140737488351232) : ∃ k, morainelaw04_SectorParity.f k l = some true := by
  obtain ⟨K, hK⟩ : ∃ K, K = l.length + 140737488352000 := ⟨_, rfl⟩
  refine ⟨K, ?_⟩
  unfold morainelaw04_SectorParity.f
  have ha : morainelaw04_alive.f = some true := rfl
  obtain ⟨r, hr, hr2⟩ := weigh_eq l hs (by omega) 10000 (by omega) (by omega) K (by omega)
  rw [ha, hr]
  simp only [Option.bind_some, if_true]
  by_cases hgt : r > 10000
  · rw [if_pos hgt]
  · have hl := (hr2 (by omega)).1
    have hlb := (hr2 (by omega)).2
    have hp : (parV l).1.length ≤ 1000 := by
      unfold parV
      split
      · rename_i hok
        have hok' := hok
        have := xfs_eq l hB hok l.length (Nat.le_refl _)
        rw [List.length_append]
        rw [List.length_take]
        have h60 : (parS [] l).length ≤ 60 := by
          cases l with
          | nil => exact absurd rfl hok.1
          | cons b q =>
            have hb := hB b (by simp)
            simp only [parS]
            rw [xor_nil (drop_byt hb 4), parS_len q _ (by rw [List.length_drop, (hok.2 b (by simp)).1]) (fun c hc => (hok.2 c (by simp [hc])).1)]
            exact Nat.le_refl _
        omega
      · simp
    rw [if_neg hgt, copyrows_eq l hs (by omega) K (by omega)]
    simp only [Option.bind_some]
    rw [par_eq l hB (by omega) K (by omega), restore_eq l hB (by omega) K (by omega), refpar_eq l hB (by omega)]
    simp only [Option.bind_some]
    rw [same_eq _ _ (by omega) K (by omega), samerows_eq l hs (by omega) K (by omega)]
    simp
end Go.Proofs.Ytljjlfjhkdbbfaa.Pure
