/- Plain laws over whole numbers and lists: PureSuperOrder. -/
import Derived.Test.YtkpipmhcjjncdaaDoorLawOrderWalk
import Derived.KernelRfl
import Derived.Laws.BitsLemmas
import Derived.Laws.BitsAllLaws
namespace Go.Proofs.YtkpipmhcjjncdaaDoor.Pure
open Go.RowKit Go.Proofs.YtkpipmhcjjncdaaDoor.Base Go.Proofs.YtkpipmhcjjncdaaDoor.Given Go.Proofs.YtkpipmhcjjncdaaDoor.OrderWalk Go.Proofs.YtkpipmhcjjncdaaDoorW.PrintWords Go.Proofs.YtkpipmhcjjncdaaDoorW.PrintLast Go.Proofs.YtkpipmhcjjncdaaDoorW.PrintMore
set_option linter.unusedVariables false
set_option linter.unusedSimpArgs false
/-! rows of bytes: Weigh, CopyRows, SameRows -/
theorem weigh_loop (l : List (List Int)) (hs : ∀ b ∈ l, b.length ≤ 140737488351232) (hn : l.length ≤ 140737488351232) (M : Int) (hM : 0 ≤ M) (hM2 : M ≤ 1000000) (d : Nat) : ∀ (k i : Nat) (n : Int), i + d = l.length → d < k → 0 ≤ n → n ≤ M + 140737488351232 →
    ∃ r, moraineref00_Weigh.l0 k l M n (i : Int) = some r ∧ n ≤ r ∧ (r ≤ M → ∀ j, i ≤ j → j < l.length → ((l.getD j []).length : Int) ≤ r - n) := by
  induction d with
  | zero =>
    intro k i n hi hk h0 h1
    obtain ⟨k, rfl⟩ : ∃ m, k = m + 1 := ⟨k - 1, by omega⟩
    simp only [moraineref00_Weigh.l0]
    rw [if_neg (by omega)]
    exact ⟨n, rfl, Int.le_refl _, fun _ j h2 h3 => by omega⟩
  | succ d ih =>
    intro k i n hi hk h0 h1
    obtain ⟨k, rfl⟩ : ∃ m, k = m + 1 := ⟨k - 1, by omega⟩
    simp only [moraineref00_Weigh.l0]
    rw [if_pos (by omega)]
    by_cases hle : n ≤ M
    · have hb : (l.getD i []).length ≤ 140737488351232 := by
        rw [List.getD_eq_getElem?_getD, List.getElem?_eq_getElem (by omega)]
        exact hs _ (List.getElem_mem _)
      have e : rd_L2 l (i : Int) = l.getD i [] := rfl
      rw [if_pos hle, if_pos (by omega), e, w64 (n := n + ((l.getD i []).length : Int)) (by omega) (by omega), w64 (n := (i : Int) + 1) (by omega) (by omega)]
      obtain ⟨r, hr, h2, h3⟩ := ih k (i + 1) (n + ((l.getD i []).length : Int)) (by omega) (by omega) (by omega) (by omega)
      refine ⟨r, hr, by omega, fun hrM j hj hjl => ?_⟩
      rcases Nat.lt_or_ge i j with h | h
      · have := h3 hrM j (by omega) hjl; omega
      · have : j = i := by omega
        subst this; omega
    · rw [if_neg hle]
      exact ⟨n, rfl, Int.le_refl _, fun h => absurd h hle⟩
theorem weigh_eq (l : List (List Int)) (hs : ∀ b ∈ l, b.length ≤ 140737488351232) (hn : l.length ≤ 140737488351232) (M : Int) (hM : 0 ≤ M) (hM2 : M ≤ 1000000) (k : Nat) (hk : l.length < k) :
    ∃ r, moraineref00_Weigh.f k l M = some r ∧ (r ≤ M → (l.length : Int) ≤ M ∧ ∀ b ∈ l, (b.length : Int) ≤ M) := by
  unfold moraineref00_Weigh.f
  by_cases h : (l.length : Int) > M
  · rw [if_pos h, w64 (by omega) (by omega)]
    exact ⟨_, rfl, fun h => by omega⟩
  · rw [if_neg h]
    obtain ⟨r, hr, h1, h2⟩ := weigh_loop l hs hn M hM hM2 l.length k 0 (l.length : Int) (by omega) hk (by omega) (by omega)
    refine ⟨r, hr, fun hrM => ⟨by omega, fun b hb => ?_⟩⟩
    obtain ⟨j, hj, rfl⟩ := List.mem_iff_getElem.1 hb
    have := h2 hrM j (by omega) hj
    rw [List.getD_eq_getElem?_getD, List.getElem?_eq_getElem hj] at this
    simp only [Option.getD_some] at this
    omega
theorem copyb_eq (l : List Int) (h : l.length ≤ 140737488351232) : moraineref00_CopyBytes.f l = some l := by
  unfold moraineref00_CopyBytes.f
  simp only [Option.bind_some]
  rw [if_pos (by simp; omega)]
  rfl
theorem copyrows_loop (l : List (List Int)) (hs : ∀ b ∈ l, b.length ≤ 140737488351232) (hn : l.length ≤ 5864062014804) (d : Nat) : ∀ (k i : Nat), i + d = l.length → d < k → moraineref00_CopyRows.l0 k l (l.take i) (i : Int) = some l := by
  induction d with
  | zero =>
    intro k i hi hk
    obtain ⟨k, rfl⟩ : ∃ m, k = m + 1 := ⟨k - 1, by omega⟩
    simp only [moraineref00_CopyRows.l0]
    rw [if_neg (by omega), List.take_of_length_le (by omega)]
  | succ d ih =>
    intro k i hi hk
    obtain ⟨k, rfl⟩ : ∃ m, k = m + 1 := ⟨k - 1, by omega⟩
    have e : rd_L2 l (i : Int) = l[i]'(by omega) := by
      show l.getD i [] = _
      rw [List.getD_eq_getElem?_getD, List.getElem?_eq_getElem (by omega)]; rfl
    simp only [moraineref00_CopyRows.l0]
    rw [if_pos (by omega), if_pos (by omega), e, copyb_eq _ (hs _ (List.getElem_mem _))]
    simp only [Option.bind_some]
    rw [if_pos (by rw [List.length_take]; omega), w64 (by omega) (by omega)]
    have h := ih k (i + 1) (by omega) (by omega)
    rw [List.take_succ_eq_append_getElem (by omega)] at h
    exact h
theorem copyrows_eq (l : List (List Int)) (hs : ∀ b ∈ l, b.length ≤ 140737488351232) (hn : l.length ≤ 5864062014804) (k : Nat) (hk : l.length < k) : moraineref00_CopyRows.f k l = some l := by
  unfold moraineref00_CopyRows.f
  simpa using copyrows_loop l hs hn l.length k 0 (by omega) hk
theorem samerows_loop (l : List (List Int)) (hs : ∀ b ∈ l, b.length ≤ 140737488351232) (hn : l.length ≤ 5864062014804) (d : Nat) : ∀ (k i : Nat), i + d = l.length → d + 140737488351232 < k → moraineref00_SameRows.l0 k l l (i : Int) = some true := by
  induction d with
  | zero =>
    intro k i hi hk
    obtain ⟨k, rfl⟩ : ∃ m, k = m + 1 := ⟨k - 1, by omega⟩
    simp only [moraineref00_SameRows.l0]
    rw [if_neg (by omega)]
  | succ d ih =>
    intro k i hi hk
    obtain ⟨k, rfl⟩ : ∃ m, k = m + 1 := ⟨k - 1, by omega⟩
    have e : rd_L2 l (i : Int) = l[i]'(by omega) := by
      show l.getD i [] = _
      rw [List.getD_eq_getElem?_getD, List.getElem?_eq_getElem (by omega)]; rfl
    have hb := hs _ (List.getElem_mem (l := l) (n := i) (by omega))
    simp only [moraineref00_SameRows.l0]
    rw [if_pos (by omega), if_pos (by omega), if_pos (by omega), e, same_eq _ _ (by omega) k (by omega)]
    simp only [Option.bind_some, decide_true, if_true]
    rw [w64 (by omega) (by omega)]
    exact ih k (i + 1) (by omega) (by omega)
theorem samerows_eq (l : List (List Int)) (hs : ∀ b ∈ l, b.length ≤ 140737488351232) (hn : l.length ≤ 5864062014804) (k : Nat) (hk : l.length + 140737488351232 < k) : moraineref00_SameRows.f k l l = some true := by
  unfold moraineref00_SameRows.f
  rw [if_pos rfl]
  exact samerows_loop l hs hn l.length k 0 (by omega) hk
theorem topM_nonneg {l : List (List Int)} (hb : ∀ b ∈ l, Byt b) : ∀ x ∈ toldM markV l, 0 ≤ x.f0 := by
  intro x hx
  unfold toldM at hx
  obtain ⟨b, hbl, e⟩ := List.mem_filterMap.1 hx
  by_cases h : (markV b).2 = true
  · rw [if_pos h] at e; cases e; exact (markV_bd (hb b hbl)).1
  · rw [if_neg h] at e; cases e
theorem topM_spec (m : Int) : ∀ l : List S23, m ≤ topM m l ∧ (∀ x ∈ l, x.f0 ≤ topM m l) ∧ (topM m l = m ∨ ∃ x ∈ l, x.f0 = topM m l) := by
  intro l
  induction l generalizing m with
  | nil => exact ⟨Int.le_refl _, fun x hx => absurd hx (by simp), .inl rfl⟩
  | cons y l ih =>
    obtain ⟨h1, h2, h3⟩ := ih (if m < y.f0 then y.f0 else m)
    have e : topM m (y :: l) = topM (if m < y.f0 then y.f0 else m) l := rfl
    rw [e]
    have hm : m ≤ (if m < y.f0 then y.f0 else m) ∧ y.f0 ≤ (if m < y.f0 then y.f0 else m) := by split <;> omega
    refine ⟨by omega, fun x hx => ?_, ?_⟩
    · rcases List.mem_cons.1 hx with rfl | hx
      · omega
      · exact h2 x hx
    · rcases h3 with h3 | ⟨x, hx, h3⟩
      · by_cases hc : m < y.f0
        · rw [if_pos hc] at h3 ⊢; exact .inr ⟨y, List.mem_cons_self, h3.symm⟩
        · rw [if_neg hc] at h3 ⊢; exact .inl h3
      · exact .inr ⟨x, List.mem_cons_of_mem _ hx, h3⟩
theorem newM_spec {l : List (List Int)} (hb : ∀ b ∈ l, Byt b) : 0 ≤ newM markV l ∧ (∀ x ∈ toldM markV l, x.f0 ≤ newM markV l) ∧ (newM markV l = 0 ∨ ∃ x ∈ toldM markV l, x.f0 = newM markV l) := by
  unfold newM
  have hn := topM_nonneg hb
  cases e : toldM markV l with
  | nil => exact ⟨by decide, fun x hx => absurd hx (by simp), .inl rfl⟩
  | cons x r =>
    obtain ⟨h1, h2, h3⟩ := topM_spec x.f0 (x :: r)
    have h0 := hn x (by rw [e]; exact List.mem_cons_self)
    have ex : (rd_T23 (x :: r) 0).f0 = x.f0 := rfl
    rw [ex]
    refine ⟨by omega, h2, ?_⟩
    rcases h3 with h3 | h3
    · exact .inr ⟨x, List.mem_cons_self, h3.symm⟩
    · exact .inr h3
theorem topE_spec (m : S25) : ∀ l : List S25, m.f0 ≤ (topE m l).f0 ∧ (∀ x ∈ l, x.f0 ≤ (topE m l).f0) ∧ (topE m l = m ∨ topE m l ∈ l) := by
  intro l
  induction l generalizing m with
  | nil => exact ⟨Int.le_refl _, fun x hx => absurd hx (by simp), .inl rfl⟩
  | cons y l ih =>
    obtain ⟨h1, h2, h3⟩ := ih (if m.f0 < y.f0 then y else m)
    have e : topE m (y :: l) = topE (if m.f0 < y.f0 then y else m) l := rfl
    rw [e]
    have hm : m.f0 ≤ (if m.f0 < y.f0 then y else m).f0 ∧ y.f0 ≤ (if m.f0 < y.f0 then y else m).f0 := by split <;> omega
    refine ⟨by omega, fun x hx => ?_, ?_⟩
    · rcases List.mem_cons.1 hx with rfl | hx
      · omega
      · exact h2 x hx
    · rcases h3 with h3 | h3
      · by_cases hc : m.f0 < y.f0
        · rw [if_pos hc] at h3 ⊢; exact .inr (by rw [h3]; exact List.mem_cons_self)
        · rw [if_neg hc] at h3 ⊢; exact .inl h3
      · exact .inr (List.mem_cons_of_mem _ h3)
theorem newE_spec {l : List (List Int)} (hb : ∀ b ∈ l, Byt b) : 0 ≤ (newE memS l).f0 ∧ (∀ x ∈ toldE memS l, x.f0 ≤ (newE memS l).f0) ∧ ((newE memS l).f0 = 0 ∨ ∃ x ∈ toldE memS l, x.f0 = (newE memS l).f0) := by
  have hn : ∀ x ∈ toldE memS l, 0 ≤ x.f0 := by
    intro x hx
    unfold toldE at hx
    obtain ⟨b, hbl, e⟩ := List.mem_filterMap.1 hx
    by_cases h : (memS b).2 = true
    · rw [if_pos h] at e; cases e; exact (memS_bd (hb b hbl)).1
    · rw [if_neg h] at e; cases e
  unfold newE
  cases e : toldE memS l with
  | nil => exact ⟨by decide, fun x hx => absurd hx (by simp), .inl rfl⟩
  | cons x r =>
    obtain ⟨h1, h2, h3⟩ := topE_spec x (x :: r)
    have h0 := hn x (by rw [e]; exact List.mem_cons_self)
    have ex : rd_T25 (x :: r) 0 = x := rfl
    rw [ex]
    refine ⟨by omega, h2, ?_⟩
    rcases h3 with h3 | h3
    · exact .inr ⟨x, List.mem_cons_self, by rw [h3]⟩
    · exact .inr ⟨_, h3, rfl⟩
theorem mem_bkF (at_ : Int) : ∀ (l : List (List Int)) (i : Nat) (b : List Int), (b ∈ l → b ∈ bkF at_ i l) ∧ (b ∈ bkF at_ i l → b ∈ l ∨ b = [] ∨ b = List.replicate 64 0)
  | [], i, b => by simp [bkF]
  | a :: r, i, b => by
    obtain ⟨h1, h2⟩ := mem_bkF at_ r (i + 1) b
    simp only [bkF, List.mem_append, List.mem_cons, List.mem_singleton, List.not_mem_nil, or_false]
    refine ⟨fun h => ?_, fun h => ?_⟩
    · rcases h with h | h
      · exact .inl (.inr h)
      · exact .inl (.inl (h1 h))
    · rcases h with (h | h) | h
      · rcases h2 h with h | h
        · exact .inl (.inr h)
        · exact .inr h
      · exact .inl (.inl h)
      · by_cases hi : (i : Int) = at_
        · rw [if_pos hi] at h
          simp only [List.mem_cons, List.not_mem_nil, or_false] at h
          exact .inr h
        · rw [if_neg hi] at h
          exact absurd h (by simp)
theorem rec_nil (a : Int) : ¬ recOf a [] := fun h => absurd h.1 (by decide)
theorem rec_zero (a : Int) : ¬ recOf a (List.replicate 64 0) := fun h => absurd h.2.1 (by decide)
theorem told_iff {g : List Int → Int × Bool} {l : List (List Int)} {x : S23} : x ∈ toldM g l ↔ ∃ b ∈ l, (g b).2 = true ∧ x = ⟨(g b).1⟩ := by
  unfold toldM
  rw [List.mem_filterMap]
  refine exists_congr fun b => and_congr_right fun _ => ?_
  by_cases h : (g b).2 = true
  · rw [if_pos h]; exact ⟨fun e => ⟨h, (Option.some.inj e).symm⟩, fun e => by rw [e.2]⟩
  · rw [if_neg h]; exact ⟨fun e => (by cases e), fun e => absurd e.1 h⟩
theorem toldE_iff {g : List Int → S25 × Bool} {l : List (List Int)} {x : S25} : x ∈ toldE g l ↔ ∃ b ∈ l, (g b).2 = true ∧ x = (g b).1 := by
  unfold toldE
  rw [List.mem_filterMap]
  refine exists_congr fun b => and_congr_right fun _ => ?_
  by_cases h : (g b).2 = true
  · rw [if_pos h]; exact ⟨fun e => ⟨h, (Option.some.inj e).symm⟩, fun e => by rw [e.2]⟩
  · rw [if_neg h]; exact ⟨fun e => (by cases e), fun e => absurd e.1 h⟩
theorem markV_no {b : List Int} (h : ¬ recOf 2 b) : ¬ (markV b).2 = true := by unfold markV; rw [if_neg (fun k => h k.1)]; simp
theorem memS_no {b : List Int} (h : ¬ recOf 3 b) : ¬ (memS b).2 = true := by unfold memS memG; rw [if_neg (fun k => h k.1.1)]; simp
theorem told_bk (at_ : Int) (l : List (List Int)) (x : S23) : x ∈ toldM markV (bkF at_ 0 l) ↔ x ∈ toldM markV l := by
  rw [told_iff, told_iff]
  refine ⟨?_, fun ⟨b, hb, h⟩ => ⟨b, (mem_bkF at_ l 0 b).1 hb, h⟩⟩
  rintro ⟨b, hb, h, e⟩
  rcases (mem_bkF at_ l 0 b).2 hb with hb | rfl | rfl
  · exact ⟨b, hb, h, e⟩
  · exact absurd h (markV_no (rec_nil 2))
  · exact absurd h (markV_no (rec_zero 2))
theorem toldE_bk (at_ : Int) (l : List (List Int)) (x : S25) : x ∈ toldE memS (bkF at_ 0 l) ↔ x ∈ toldE memS l := by
  rw [toldE_iff, toldE_iff]
  refine ⟨?_, fun ⟨b, hb, h⟩ => ⟨b, (mem_bkF at_ l 0 b).1 hb, h⟩⟩
  rintro ⟨b, hb, h, e⟩
  rcases (mem_bkF at_ l 0 b).2 hb with hb | rfl | rfl
  · exact ⟨b, hb, h, e⟩
  · exact absurd h (memS_no (rec_nil 3))
  · exact absurd h (memS_no (rec_zero 3))
theorem SuperOrder (l : List (List Int)) (at_ : Int) (hB : ∀ b ∈ l, ∀ x ∈ b, 0 ≤ x ∧ x ≤ 255) (hz : l.length * 24 ≤ 140737488351232) (hs : ∀ b ∈ l, b.length ≤ 140737488351232) (_ : (Lit.int .i64 at_).wf = true) : PSuperOrder.morainelaw05_SuperOrder.f l at_ = some true := by
  unfold PSuperOrder.morainelaw05_SuperOrder.f
  refine if_pos ?_
  obtain ⟨K, hK⟩ : ∃ K, K = l.length + 140737488352000 := ⟨_, rfl⟩
  obtain ⟨r, hr, hr2⟩ := weigh_eq l hs (by omega) 10000 (by omega) (by omega) K (by omega)
  refine ⟨K, r, alive_at K (by omega), hr, ?_⟩
  by_cases h : 10000 < r
  · exact .inl h
  · have hl := (hr2 (by omega)).1
    have hok : okRows l := ⟨by omega, hB⟩
    have hB2 : ∀ b ∈ bkF at_ 0 l, Byt b := by
      intro b hb
      rcases (mem_bkF at_ l 0 b).2 hb with hb | rfl | rfl
      · exact hB b hb
      · exact fun x hx => absurd hx (by simp)
      · exact fun x hx => by rw [(List.mem_replicate.1 hx).2]; decide
    have hok2 : okRows (bkF at_ 0 l) := ⟨by have := bkF_len at_ l 0; omega, hB2⟩
    have e1 : newM markV (bkF at_ 0 l) = newM markV l := by
      obtain ⟨a1, a2, a3⟩ := newM_spec hB
      obtain ⟨b1, b2, b3⟩ := newM_spec hB2
      have x1 : newM markV (bkF at_ 0 l) ≤ newM markV l := by
        rcases b3 with b3 | ⟨x, hx, b3⟩
        · omega
        · rw [← b3]; exact a2 x ((told_bk at_ l x).1 hx)
      have x2 : newM markV l ≤ newM markV (bkF at_ 0 l) := by
        rcases a3 with a3 | ⟨x, hx, a3⟩
        · omega
        · rw [← a3]; exact b2 x ((told_bk at_ l x).2 hx)
      omega
    have e2 : (newE memS (bkF at_ 0 l)).f0 = (newE memS l).f0 := by
      obtain ⟨a1, a2, a3⟩ := newE_spec hB
      obtain ⟨b1, b2, b3⟩ := newE_spec hB2
      have x1 : (newE memS (bkF at_ 0 l)).f0 ≤ (newE memS l).f0 := by
        rcases b3 with b3 | ⟨x, hx, b3⟩
        · omega
        · rw [← b3]; exact a2 x ((toldE_bk at_ l x).1 hx)
      have x2 : (newE memS l).f0 ≤ (newE memS (bkF at_ 0 l)).f0 := by
        rcases a3 with a3 | ⟨x, hx, a3⟩
        · omega
        · rw [← a3]; exact b2 x ((toldE_bk at_ l x).2 hx)
      omega
    refine .inr ⟨h, by omega, newM markV l, (newE memS l).f0, (newE memS l).f1, (newE memS l).f2, (newE memS (bkF at_ 0 l)).f1, (newE memS (bkF at_ 0 l)).f2, ?_, ?_, ?_, ?_⟩
    · exact if_pos hok
    · unfold super_NewestMark.f; rw [if_pos hok2, e1]
    · exact if_pos hok
    · unfold super_NewestMember.f; rw [if_pos hok2, e2]
end Go.Proofs.YtkpipmhcjjncdaaDoor.Pure
