/- Plain laws over whole numbers and lists: PureSuperNewest. -/
import Derived.Test.YtkpipmhcjjncdaaDoorQSuperNewestx
import Derived.Test.YtkpipmhcjjncdaaDoorGivNewestC
import Derived.KernelRfl
import Derived.Laws.BitsLemmas
import Derived.Laws.BitsAllLaws
namespace Go.Proofs.YtkpipmhcjjncdaaDoor.Pure
open Go.RowKit Go.Proofs.YtkpipmhcjjncdaaDoor.Base Go.Proofs.YtkpipmhcjjncdaaDoor.Given Go.Proofs.YtkpipmhcjjncdaaDoorW.PrintWords Go.Proofs.YtkpipmhcjjncdaaDoorW.PrintLast Go.Proofs.YtkpipmhcjjncdaaDoorW.PrintMore
set_option linter.unusedVariables false
set_option linter.unusedSimpArgs false
/-! rows of bytes: Weigh, CopyRows, SameRows -/
theorem weigh_loop (l : List (List Int)) (hs : ∀ b ∈ l, b.length ≤ 140737488351232) (hn : l.length ≤ 140737488351232) (M : Int) (hM : 0 ≤ M) (hM2 : M ≤ 1000000) (d : Nat) : ∀ (k i : Nat) (n : Int), i + d = l.length → d < k → 0 ≤ n → n ≤ M + 140737488351232 →
    ∃ r, moraineref00_Weigh.l0 k l M n (i : Int) = some r ∧ n ≤ r ∧ (r ≤ M → ∀ j, i ≤ j → j < l.length → ((l.getD j []).length : Int) ≤ r - n) := by
  induction d with
  | zero =>
    intro k i n hi hk h0 h1
    obtain ⟨k, rfl⟩ : ∃ m, k = m + 1 := ⟨k - 1, by omega⟩
    simp only [moraineref00_Weigh.l0]
    rw [if_neg (by omega)]
    exact ⟨n, rfl, Int.le_refl _, fun _ j h2 h3 => by omega⟩
  | succ d ih =>
    intro k i n hi hk h0 h1
    obtain ⟨k, rfl⟩ : ∃ m, k = m + 1 := ⟨k - 1, by omega⟩
    simp only [moraineref00_Weigh.l0]
    rw [if_pos (by omega)]
    by_cases hle : n ≤ M
    · have hb : (l.getD i []).length ≤ 140737488351232 := by
        rw [List.getD_eq_getElem?_getD, List.getElem?_eq_getElem (by omega)]
        exact hs _ (List.getElem_mem _)
      have e : rd_L2 l (i : Int) = l.getD i [] := rfl
      rw [if_pos hle, if_pos (by omega), e, w64 (n := n + ((l.getD i []).length : Int)) (by omega) (by omega), w64 (n := (i : Int) + 1) (by omega) (by omega)]
      obtain ⟨r, hr, h2, h3⟩ := ih k (i + 1) (n + ((l.getD i []).length : Int)) (by omega) (by omega) (by omega) (by omega)
      refine ⟨r, hr, by omega, fun hrM j hj hjl => ?_⟩
      rcases Nat.lt_or_ge i j with h | h
      · have := h3 hrM j (by omega) hjl; omega
      · have : j = i := by omega
        subst this; omega
    · rw [if_neg hle]
      exact ⟨n, rfl, Int.le_refl _, fun h => absurd h hle⟩
theorem weigh_eq (l : List (List Int)) (hs : ∀ b ∈ l, b.length ≤ 140737488351232) (hn : l.length ≤ 140737488351232) (M : Int) (hM : 0 ≤ M) (hM2 : M ≤ 1000000) (k : Nat) (hk : l.length < k) :
    ∃ r, moraineref00_Weigh.f k l M = some r ∧ (r ≤ M → (l.length : Int) ≤ M ∧ ∀ b ∈ l, (b.length : Int) ≤ M) := by
  unfold moraineref00_Weigh.f
  by_cases h : (l.length : Int) > M
  · rw [if_pos h, w64 (by omega) (by omega)]
    exact ⟨_, rfl, fun h => by omega⟩
  · rw [if_neg h]
    obtain ⟨r, hr, h1, h2⟩ := weigh_loop l hs hn M hM hM2 l.length k 0 (l.length : Int) (by omega) hk (by omega) (by omega)
    refine ⟨r, hr, fun hrM => ⟨by omega, fun b hb => ?_⟩⟩
    obtain ⟨j, hj, rfl⟩ := List.mem_iff_getElem.1 hb
    have := h2 hrM j (by omega) hj
    rw [List.getD_eq_getElem?_getD, List.getElem?_eq_getElem hj] at this
    simp only [Option.getD_some] at this
    omega
theorem copyb_eq (l : List Int) (h : l.length ≤ 140737488351232) : moraineref00_CopyBytes.f l = some l := by
  unfold moraineref00_CopyBytes.f
  simp only [Option.bind_some]
  rw [if_pos (by simp; omega)]
  rfl
theorem copyrows_loop (l : List (List Int)) (hs : ∀ b ∈ l, b.length ≤ 140737488351232) (hn : l.length ≤ 5864062014804) (d : Nat) : ∀ (k i : Nat), i + d = l.length → d < k → moraineref00_CopyRows.l0 k l (l.take i) (i : Int) = some l := by
  induction d with
  | zero =>
    intro k i hi hk
    obtain ⟨k, rfl⟩ : ∃ m, k = m + 1 := ⟨k - 1, by omega⟩
    simp only [moraineref00_CopyRows.l0]
    rw [if_neg (by omega), List.take_of_length_le (by omega)]
  | succ d ih =>
    intro k i hi hk
    obtain ⟨k, rfl⟩ : ∃ m, k = m + 1 := ⟨k - 1, by omega⟩
    have e : rd_L2 l (i : Int) = l[i]'(by omega) := by
      show l.getD i [] = _
      rw [List.getD_eq_getElem?_getD, List.getElem?_eq_getElem (by omega)]; rfl
    simp only [moraineref00_CopyRows.l0]
    rw [if_pos (by omega), if_pos (by omega), e, copyb_eq _ (hs _ (List.getElem_mem _))]
    simp only [Option.bind_some]
    rw [if_pos (by rw [List.length_take]; omega), w64 (by omega) (by omega)]
    have h := ih k (i + 1) (by omega) (by omega)
    rw [List.take_succ_eq_append_getElem (by omega)] at h
    exact h
theorem copyrows_eq (l : List (List Int)) (hs : ∀ b ∈ l, b.length ≤ 140737488351232) (hn : l.length ≤ 5864062014804) (k : Nat) (hk : l.length < k) : moraineref00_CopyRows.f k l = some l := by
  unfold moraineref00_CopyRows.f
  simpa using copyrows_loop l hs hn l.length k 0 (by omega) hk
theorem samerows_loop (l : List (List Int)) (hs : ∀ b ∈ l, b.length ≤ 140737488351232) (hn : l.length ≤ 5864062014804) (d : Nat) : ∀ (k i : Nat), i + d = l.length → d + 140737488351232 < k → moraineref00_SameRows.l0 k l l (i : Int) = some true := by
  induction d with
  | zero =>
    intro k i hi hk
    obtain ⟨k, rfl⟩ : ∃ m, k = m + 1 := ⟨k - 1, by omega⟩
    simp only [moraineref00_SameRows.l0]
    rw [if_neg (by omega)]
  | succ d ih =>
    intro k i hi hk
    obtain ⟨k, rfl⟩ : ∃ m, k = m + 1 := ⟨k - 1, by omega⟩
    have e : rd_L2 l (i : Int) = l[i]'(by omega) := by
      show l.getD i [] = _
      rw [List.getD_eq_getElem?_getD, List.getElem?_eq_getElem (by omega)]; rfl
    have hb := hs _ (List.getElem_mem (l := l) (n := i) (by omega))
    simp only [moraineref00_SameRows.l0]
    rw [if_pos (by omega), if_pos (by omega), if_pos (by omega), e, same_eq _ _ (by omega) k (by omega)]
    simp only [Option.bind_some, decide_true, if_true]
    rw [w64 (by omega) (by omega)]
    exact ih k (i + 1) (by omega) (by omega)
theorem samerows_eq (l : List (List Int)) (hs : ∀ b ∈ l, b.length ≤ 140737488351232) (hn : l.length ≤ 5864062014804) (k : Nat) (hk : l.length + 140737488351232 < k) : moraineref00_SameRows.f k l l = some true := by
  unfold moraineref00_SameRows.f
  rw [if_pos rfl]
  exact samerows_loop l hs hn l.length k 0 (by omega) hk
theorem topM_cons {x : S23} {l : List S23} (h : 0 ≤ x.f0) : topM x.f0 (x :: l) = topM 0 (x :: l) := by
  show topM (if x.f0 < x.f0 then x.f0 else x.f0) l = topM (if (0 : Int) < x.f0 then x.f0 else 0) l
  congr 1
  split <;> split <;> omega
theorem newM_zero (l : List (List Int)) (h : ∀ x ∈ toldM markV l, 0 ≤ x.f0) : newM markV l = topM 0 (toldM markV l) := by
  unfold newM
  cases e : toldM markV l with
  | nil => rfl
  | cons x r => exact topM_cons (h x (by rw [e]; exact List.mem_cons_self))
theorem toldM_nonneg {l : List (List Int)} (hb : ∀ b ∈ l, Byt b) : ∀ x ∈ toldM markV l, 0 ≤ x.f0 := by
  intro x hx
  unfold toldM at hx
  obtain ⟨b, hbl, e⟩ := List.mem_filterMap.1 hx
  by_cases h : (markV b).2 = true
  · rw [if_pos h] at e; cases e; exact (markV_bd (hb b hbl)).1
  · rw [if_neg h] at e; cases e
theorem topM_app (m : Int) (l r : List S23) : topM m (l ++ r) = topM (topM m l) r := by unfold topM; rw [List.foldl_append]
theorem toldM_cons (b : List Int) (l : List (List Int)) : toldM markV (b :: l) = (if (markV b).2 = true then [⟨(markV b).1⟩] else []) ++ toldM markV l := by
  unfold toldM
  rw [List.filterMap_cons]
  by_cases h : (markV b).2 = true
  · rw [if_pos h, if_pos h]; rfl
  · rw [if_neg h, if_neg h]; rfl
theorem rd_L2_get {l : List (List Int)} {i : Nat} (h : i < l.length) : rd_L2 l (i : Int) = l[i] := by simp [rd_L2, h]
theorem refmark_loop (l : List (List Int)) (hb : ∀ b ∈ l, Byt b) (hn : l.length ≤ 1000000) : ∀ (d k i : Nat) (m : Int), i + d = l.length → d + 300 < k → moraineref05_NewestMark.l0 k l (i : Int) m = some (topM m (toldM markV (l.drop i))) := by
  intro d
  induction d with
  | zero =>
    intro k i m hi hk
    obtain ⟨k, rfl⟩ : ∃ m, k = m + 1 := ⟨k - 1, by omega⟩
    simp only [moraineref05_NewestMark.l0]
    rw [if_neg (by omega), List.drop_of_length_le (by omega)]; rfl
  | succ d ih =>
    intro k i m hi hk
    obtain ⟨k, rfl⟩ : ∃ m, k = m + 1 := ⟨k - 1, by omega⟩
    have ex : l.drop i = l[i]'(by omega) :: l.drop (i + 1) := List.drop_eq_getElem_cons (by omega)
    simp only [moraineref05_NewestMark.l0]
    rw [if_pos (by omega), if_pos (by omega), rd_L2_get (show i < l.length by omega), refGetMark_eq _ (hb _ (List.getElem_mem _)) k (by omega), Option.bind_some, w64 (n := (i : Int) + 1) (by omega) (by omega), ex, toldM_cons, topM_app]
    have h1 := fun m => ih k (i + 1) m (by omega) (by omega)
    simp only [show ((i + 1 : Nat) : Int) = (i : Int) + 1 by omega] at h1
    rw [h1, h1]
    by_cases h : (markV (l[i]'(by omega))).2 = true
    · rw [if_pos h, if_pos h]
      by_cases h2 : (markV (l[i]'(by omega))).1 > m
      · rw [if_pos h2]
        have : topM m [⟨(markV (l[i]'(by omega))).1⟩] = (markV (l[i]'(by omega))).1 := if_pos h2
        rw [this]
      · rw [if_neg h2]
        have : topM m [⟨(markV (l[i]'(by omega))).1⟩] = m := if_neg h2
        rw [this]
    · rw [if_neg h, if_neg h]; rfl
theorem refmark_eq (l : List (List Int)) (hb : ∀ b ∈ l, Byt b) (hn : l.length ≤ 1000000) (k : Nat) (hk : l.length + 300 < k) : moraineref05_NewestMark.f k l = some (newM markV l) := by
  unfold moraineref05_NewestMark.f
  have := refmark_loop l hb hn l.length k 0 0 (by omega) hk
  rw [newM_zero l (toldM_nonneg hb)]
  simpa using this
theorem topE_app (m : S25) (l r : List S25) : topE m (l ++ r) = topE (topE m l) r := by unfold topE; rw [List.foldl_append]
theorem toldE_cons (b : List Int) (l : List (List Int)) : toldE memS (b :: l) = (if (memS b).2 = true then [(memS b).1] else []) ++ toldE memS l := by
  unfold toldE
  rw [List.filterMap_cons]
  by_cases h : (memS b).2 = true
  · rw [if_pos h, if_pos h]; rfl
  · rw [if_neg h, if_neg h]; rfl
theorem refmem_loop (l : List (List Int)) (hb : ∀ b ∈ l, Byt b) (hn : l.length ≤ 1000000) : ∀ (d k i : Nat) (m : S25), i + d = l.length → d + 300 < k →
    moraineref05_NewestMember.l0 k l true (i : Int) m.f0 m.f1 m.f2 = some ((topE m (toldE memS (l.drop i))).f0, (topE m (toldE memS (l.drop i))).f1, (topE m (toldE memS (l.drop i))).f2) := by
  intro d
  induction d with
  | zero =>
    intro k i m hi hk
    obtain ⟨k, rfl⟩ : ∃ m, k = m + 1 := ⟨k - 1, by omega⟩
    simp only [moraineref05_NewestMember.l0]
    rw [if_neg (by omega), List.drop_of_length_le (by omega)]; rfl
  | succ d ih =>
    intro k i m hi hk
    obtain ⟨k, rfl⟩ : ∃ m, k = m + 1 := ⟨k - 1, by omega⟩
    have ex : l.drop i = l[i]'(by omega) :: l.drop (i + 1) := List.drop_eq_getElem_cons (by omega)
    simp only [moraineref05_NewestMember.l0]
    rw [if_pos (by omega), if_pos (by omega), rd_L2_get (show i < l.length by omega), refGetMember_eq _ (hb _ (List.getElem_mem _)) k (by omega), Option.bind_some, w64 (n := (i : Int) + 1) (by omega) (by omega), ex, toldE_cons, topE_app]
    have h1 := fun m => ih k (i + 1) m (by omega) (by omega)
    simp only [show ((i + 1 : Nat) : Int) = (i : Int) + 1 by omega] at h1
    by_cases h : (memG (l[i]'(by omega))).2.2.2 = true
    · have h' : (memS (l[i]'(by omega))).2 = true := h
      rw [if_pos h, if_pos h', if_pos trivial]
      by_cases h2 : (memG (l[i]'(by omega))).1 > m.f0
      · rw [if_pos h2]
        have : topE m [(memS (l[i]'(by omega))).1] = (memS (l[i]'(by omega))).1 := if_pos h2
        rw [this]
        exact h1 (memS (l[i]'(by omega))).1
      · rw [if_neg h2]
        have : topE m [(memS (l[i]'(by omega))).1] = m := if_neg h2
        rw [this]
        exact h1 m
    · have h' : ¬ (memS (l[i]'(by omega))).2 = true := h
      rw [if_neg h, if_neg h']
      exact h1 m
theorem refmem0_loop (l : List (List Int)) (hb : ∀ b ∈ l, Byt b) (hn : l.length ≤ 1000000) : ∀ (d k i : Nat), i + d = l.length → d + 300 < k →
    moraineref05_NewestMember.l0 k l false (i : Int) 0 0 0 = some ((newE memS (l.drop i)).f0, (newE memS (l.drop i)).f1, (newE memS (l.drop i)).f2) := by
  intro d
  induction d with
  | zero =>
    intro k i hi hk
    obtain ⟨k, rfl⟩ : ∃ m, k = m + 1 := ⟨k - 1, by omega⟩
    simp only [moraineref05_NewestMember.l0]
    rw [if_neg (by omega), List.drop_of_length_le (by omega)]; rfl
  | succ d ih =>
    intro k i hi hk
    obtain ⟨k, rfl⟩ : ∃ m, k = m + 1 := ⟨k - 1, by omega⟩
    have ex : l.drop i = l[i]'(by omega) :: l.drop (i + 1) := List.drop_eq_getElem_cons (by omega)
    simp only [moraineref05_NewestMember.l0]
    rw [if_pos (by omega), if_pos (by omega), rd_L2_get (show i < l.length by omega), refGetMember_eq _ (hb _ (List.getElem_mem _)) k (by omega), Option.bind_some, w64 (n := (i : Int) + 1) (by omega) (by omega), ex]
    unfold newE
    rw [toldE_cons]
    by_cases h : (memG (l[i]'(by omega))).2.2.2 = true
    · have h' : (memS (l[i]'(by omega))).2 = true := h
      rw [if_pos h, if_pos h', if_neg (show ¬ (false = true) by simp)]
      have := refmem_loop l hb hn d k (i + 1) (memS (l[i]'(by omega))).1 (by omega) (by omega)
      rw [show ((i + 1 : Nat) : Int) = (i : Int) + 1 by omega] at this
      have e : topE (rd_T25 ([(memS (l[i]'(by omega))).1] ++ toldE memS (l.drop (i + 1))) 0) ([(memS (l[i]'(by omega))).1] ++ toldE memS (l.drop (i + 1))) = topE (memS (l[i]'(by omega))).1 (toldE memS (l.drop (i + 1))) := by
        show topE (if (memS (l[i]'(by omega))).1.f0 < (memS (l[i]'(by omega))).1.f0 then _ else _) _ = _
        rw [if_neg (Int.lt_irrefl _)]; rfl
      rw [e]; exact this
    · have h' : ¬ (memS (l[i]'(by omega))).2 = true := h
      rw [if_neg h, if_neg h', List.nil_append]
      have := ih k (i + 1) (by omega) (by omega)
      rw [show ((i + 1 : Nat) : Int) = (i : Int) + 1 by omega] at this
      exact this
theorem refmem_eq (l : List (List Int)) (hb : ∀ b ∈ l, Byt b) (hn : l.length ≤ 1000000) (k : Nat) (hk : l.length + 300 < k) : moraineref05_NewestMember.f k l = some ((newE memS l).f0, (newE memS l).f1, (newE memS l).f2) := by
  unfold moraineref05_NewestMember.f
  have := refmem0_loop l hb hn l.length k 0 (by omega) hk
  simpa using this
theorem SuperNewest (l : List (List Int)) (hB : ∀ b ∈ l, ∀ x ∈ b, 0 ≤ x ∧ x ≤ 255) (hz : l.length * 24 ≤ 140737488351232) (hs : ∀ b ∈ l, b.length ≤ 140737488351232) : ∃ k, PSuperNewest.morainelaw05_SuperNewest.f k l = some true := by
  obtain ⟨K, hK⟩ : ∃ K, K = l.length + 140737488352000 := ⟨_, rfl⟩
  refine ⟨K, ?_⟩
  unfold PSuperNewest.morainelaw05_SuperNewest.f
  obtain ⟨r, hr, hr2⟩ := weigh_eq l hs (by omega) 20000 (by omega) (by omega) K (by omega)
  rw [alive_at K (by omega), hr]
  simp only [Option.bind_some, if_true]
  by_cases hgt : r > 20000
  · rw [if_pos hgt]
  · have hl := (hr2 (by omega)).1
    rw [if_neg hgt, copyrows_eq l hs (by omega) K (by omega)]
    simp only [Option.bind_some]
    have hok : okRows l := ⟨by omega, hB⟩
    unfold super_NewestMark.f super_NewestMember.f
    rw [if_pos hok, if_pos hok, refmark_eq l hB (by omega) K (by omega), refmem_eq l hB (by omega) K (by omega), samerows_eq l hs (by omega) K (by omega)]
    simp
end Go.Proofs.YtkpipmhcjjncdaaDoor.Pure
