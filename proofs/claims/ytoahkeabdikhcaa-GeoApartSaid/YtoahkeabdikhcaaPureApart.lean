/- Plain laws over whole numbers and lists: PureApart. -/
import Derived.Test.YtoahkeabdikhcaaBase
import Derived.KernelRfl
import Derived.Laws.BitsLemmas
import Derived.Laws.BitsAllLaws
namespace Go.Proofs.Ytoahkeabdikhcaa.Pure
open Go.RowKit Go.Proofs.Ytoahkeabdikhcaa.Base Go.Proofs.YtoahkeabdikhcaaW.PrintWords Go.Proofs.YtoahkeabdikhcaaW.PrintLast Go.Proofs.YtoahkeabdikhcaaW.PrintMore
set_option linter.unusedVariables false
set_option linter.unusedSimpArgs false
theorem w64 {n : Int} (h0 : -9223372036854775808 ≤ n) (h1 : n ≤ 9223372036854775807) : wrap64 n = n := by unfold wrap64; omega
theorem mul_bd {a b A B : Int} (h0 : 0 ≤ a) (h1 : a ≤ A) (h2 : 0 ≤ b) (h3 : b ≤ B) : 0 ≤ a * b ∧ a * b ≤ A * B :=
  ⟨Int.mul_nonneg h0 h2, Int.mul_le_mul h1 h3 h2 (by omega)⟩
def pl (d r : Int) : Int := r * (d - 1) - 1
def ot (s : Int) : Int := 1 + s / 8
structure GB (d r s : Int) : Prop where
  d0 : 3 ≤ d
  d1 : d ≤ 16
  r0 : 1 ≤ r
  r1 : r ≤ 4
  s0 : 12 ≤ s
  s1 : s ≤ 64
def GR (d r s : Int) : Prop := GB d r s ∧ ot s * pl d r ≥ 8
theorem pl_bd {d r s : Int} (h : GB d r s) : 1 ≤ pl d r ∧ pl d r ≤ 59 := by
  obtain ⟨h1, h2, h3, h4, h5, h6⟩ := h
  unfold pl
  rcases (by omega : r = 1 ∨ r = 2 ∨ r = 3 ∨ r = 4) with rfl | rfl | rfl | rfl <;> omega
theorem ot_bd {d r s : Int} (h : GB d r s) : 2 ≤ ot s ∧ ot s ≤ 9 := by
  obtain ⟨h1, h2, h3, h4, h5, h6⟩ := h
  unfold ot; omega
theorem tdiv8 {s : Int} (h : 0 ≤ s) : Int.tdiv s 8 = s / 8 := Int.tdiv_eq_ediv_of_nonneg h
theorem within_eq (a b c : Int) : geo_within.f a b c = some (decide (b ≤ a ∧ a ≤ c)) := by
  unfold geo_within.f
  by_cases h : b ≤ a <;> simp [h]
theorem others_eq {d r s : Int} (h : GB d r s) : geo_others.f d r s = some (ot s) := by
  have h5 := h.s0; have h6 := h.s1
  unfold geo_others.f ot
  rw [tdiv8 (by omega), w64 (n := s / 8) (by omega) (by omega), w64 (by omega) (by omega)]
theorem places_eq {d r s : Int} (h : GB d r s) : geo_places.f d r s = some (pl d r) := by
  have h3 := pl_bd h
  have h1 := h.d0; have h2 := h.d1
  unfold geo_places.f
  unfold pl at *
  rw [w64 (n := d - 1) (by omega) (by omega), w64 (n := r * (d - 1)) (by omega) (by omega), w64 (by omega) (by omega)]
open Classical in
theorem Right_eq (d r s : Int) : geo_Right.f d r s = some (decide (GR d r s)) := by
  unfold geo_Right.f
  rw [within_eq, within_eq, within_eq]
  simp only [Option.bind_some]
  by_cases h1 : 3 ≤ d ∧ d ≤ 16
  · by_cases h2 : 1 ≤ r ∧ r ≤ 4
    · by_cases h3 : 12 ≤ s ∧ s ≤ 64
      · have hb : GB d r s := ⟨h1.1, h1.2, h2.1, h2.2, h3.1, h3.2⟩
        rw [if_pos (decide_eq_true h1), if_pos (decide_eq_true h2), if_pos (decide_eq_true h3), others_eq hb, places_eq hb]
        simp only [Option.bind_some]
        have hp := pl_bd hb; have ho := ot_bd hb
        have hm := mul_bd (a := ot s) (b := pl d r) (A := 9) (B := 59) (by omega) (by omega) (by omega) (by omega)
        rw [w64 (by omega) (by omega)]
        simp [GR, hb]
      · have : ¬ GR d r s := fun g => h3 ⟨g.1.s0, g.1.s1⟩
        rw [if_pos (decide_eq_true h1), if_pos (decide_eq_true h2), if_neg (by simpa using h3)]; simp [this]
    · have : ¬ GR d r s := fun g => h2 ⟨g.1.r0, g.1.r1⟩
      rw [if_pos (decide_eq_true h1), if_neg (by simpa using h2)]; simp [this]
  · have : ¬ GR d r s := fun g => h1 ⟨g.1.d0, g.1.d1⟩
    rw [if_neg (by simpa using h1)]; simp [this]
theorem Right_pos {d r s : Int} (h : GR d r s) : geo_Right.f d r s = some true := by rw [Right_eq]; simp [h]
theorem Right_neg {d r s : Int} (h : ¬ GR d r s) : geo_Right.f d r s = some false := by rw [Right_eq]; simp [h]
def cp (s : Int) : Int := (s - 2 - 2 * ot s) / 3
theorem cp_bd {d r s : Int} (h : GB d r s) : 2 ≤ cp s ∧ cp s ≤ 64 ∧ 3 * cp s + 2 * ot s + 2 ≤ s := by
  have h5 := h.s0; have h6 := h.s1
  unfold cp ot; omega
theorem Caps_pos {d r s : Int} (h : GR d r s) : geo_Caps.f d r s = some (cp s, ot s) := by
  have h5 := h.1.s0; have h6 := h.1.s1; have ho := ot_bd h.1
  have e : 0 ≤ s - 2 - 2 * ot s := by unfold ot; omega
  unfold geo_Caps.f cp
  rw [Right_pos h]; simp only [Option.bind_some]; rw [if_pos trivial, others_eq h.1]; simp only [Option.bind_some]
  rw [w64 (n := s - 2) (by omega) (by omega), w64 (n := 2 * ot s) (by omega) (by omega), w64 (n := s - 2 - 2 * ot s) (by omega) (by omega), Int.tdiv_eq_ediv_of_nonneg e, w64 (by omega) (by omega)]
theorem Caps_neg {d r s : Int} (h : ¬ GR d r s) : geo_Caps.f d r s = some (0, 0) := by
  unfold geo_Caps.f
  rw [Right_neg h]; simp only [Option.bind_some]; rw [if_neg (by simp)]
theorem Places_pos {d r s : Int} (h : GR d r s) : geo_Places.f d r s = some (pl d r) := by
  unfold geo_Places.f
  rw [Right_pos h]; simp only [Option.bind_some]; rw [if_pos trivial, places_eq h.1]; rfl
theorem Places_neg {d r s : Int} (h : ¬ GR d r s) : geo_Places.f d r s = some 0 := by
  unfold geo_Places.f
  rw [Right_neg h]; simp only [Option.bind_some]; rw [if_neg (by simp)]
theorem Sectors_pos {d r s : Int} (h : GR d r s) : geo_Sectors.f d r s = some (5 + s * r) := by
  have hm := mul_bd (a := s) (b := r) (A := 64) (B := 4) (by have := h.1.s0; omega) h.1.s1 (by have := h.1.r0; omega) h.1.r1
  unfold geo_Sectors.f
  rw [Right_pos h]; simp only [Option.bind_some]; rw [if_pos trivial, w64 (n := s * r) (by omega) (by omega), w64 (by omega) (by omega)]
theorem Sectors_neg {d r s : Int} (h : ¬ GR d r s) : geo_Sectors.f d r s = some 0 := by
  unfold geo_Sectors.f
  rw [Right_neg h]; simp only [Option.bind_some]; rw [if_neg (by simp)]
theorem seg_bd {d r s a k : Int} (h : GB d r s) (a0 : 0 ≤ a) (a1 : a ≤ s - 1) (k0 : 0 ≤ k) (k1 : k ≤ 100) : 0 ≤ a * pl d r ∧ a * pl d r ≤ 63 * 59 ∧ 0 ≤ a * pl d r + k := by
  have hp := pl_bd h; have h6 := h.s1
  have hm := mul_bd (a := a) (b := pl d r) (A := 63) (B := 59) a0 (by omega) (by omega) (by omega)
  omega
def AR (d r s a k : Int) : Prop := GR d r s ∧ (0 ≤ a ∧ a ≤ s - 1) ∧ (1 ≤ k ∧ k ≤ pl d r)
theorem Address_pos {d r s a k : Int} (h : AR d r s a k) : geo_Address.f d r s a k = some (a * pl d r + k) := by
  obtain ⟨h, ha, hk⟩ := h
  have hp := pl_bd h.1; have hs := h.1.s1; have hs0 := h.1.s0
  have hm := seg_bd (a := a) (k := k) h.1 ha.1 ha.2 (by omega) (by omega)
  unfold geo_Address.f
  rw [Right_pos h]; simp only [Option.bind_some]; rw [if_pos trivial, w64 (n := s - 1) (by omega) (by omega), within_eq]
  simp only [Option.bind_some]; rw [if_pos (decide_eq_true ha), places_eq h.1]
  simp only [Option.bind_some]; rw [within_eq]
  simp only [Option.bind_some]; rw [if_pos (decide_eq_true hk), w64 (n := a * pl d r) (by omega) (by omega), w64 (by omega) (by omega)]
theorem Address_neg {d r s a k : Int} (h : ¬ AR d r s a k) : geo_Address.f d r s a k = some 0 := by
  unfold geo_Address.f
  by_cases hg : GR d r s
  · have hs := hg.1.s1; have hs0 := hg.1.s0
    rw [Right_pos hg]; simp only [Option.bind_some]; rw [if_pos trivial, w64 (n := s - 1) (by omega) (by omega), within_eq]
    simp only [Option.bind_some]
    by_cases ha : 0 ≤ a ∧ a ≤ s - 1
    · rw [if_pos (decide_eq_true ha), places_eq hg.1]
      simp only [Option.bind_some]; rw [within_eq]
      simp only [Option.bind_some]; rw [if_neg (by simp only [decide_eq_true_eq]; exact fun hk => h ⟨hg, ha, hk⟩)]
    · rw [if_neg (by simpa using ha)]
  · rw [Right_neg hg]; simp only [Option.bind_some]; rw [if_neg (by simp)]
theorem tmod_nn {a b : Int} (h : 0 ≤ a) : Int.tmod a b = a % b := Int.tmod_eq_emod_of_nonneg h
theorem tdiv_nn {a b : Int} (h : 0 ≤ a) : Int.tdiv a b = a / b := Int.tdiv_eq_ediv_of_nonneg h
theorem spl_bd {d r s : Int} (h : GB d r s) : 0 ≤ s * pl d r ∧ s * pl d r ≤ 64 * 59 := by
  have hp := pl_bd h
  exact mul_bd (by have := h.s0; omega) h.s1 (by omega) hp.2
theorem alive_eq : morainelaw03_alive.f 1 = some true := by kernel_rfl
theorem alive_at (k : Nat) : morainelaw03_alive.f (k + 1) = some true := by
  induction k with
  | zero => exact alive_eq
  | succ k ih => exact morainelaw03_alive.mono _ _ ih
def PR (d r s a w : Int) : Prop := GR d r s ∧ (0 ≤ a ∧ a ≤ s - 1) ∧ (0 ≤ w ∧ w ≤ r - 1)
theorem str_bd {d r s a w : Int} (h : PR d r s a w) : 0 ≤ a * r ∧ a * r ≤ 63 * 4 ∧ 0 ≤ (a * r + w) % d ∧ (a * r + w) % d < d := by
  obtain ⟨h, ha, hw⟩ := h
  have h6 := h.1.s1; have h1 := h.1.d0
  have hm := mul_bd (a := a) (b := r) (A := 63) (B := 4) ha.1 (by omega) (by omega) h.1.r1
  exact ⟨hm.1, hm.2, Int.emod_nonneg _ (by omega), Int.emod_lt_of_pos _ (by omega)⟩
def pd (d r a w : Int) : Int := d - 1 - (a * r + w) % d
theorem Parity_pos {d r s a w : Int} (h : PR d r s a w) : geo_Parity.f d r s a w = some (pd d r a w, 5 + (a * r + w), true) := by
  have hb := str_bd h
  obtain ⟨h, ha, hw⟩ := h
  have h1 := h.1.d0; have h2 := h.1.d1; have h3 := h.1.r0; have h4 := h.1.r1; have h5 := h.1.s0; have h6 := h.1.s1
  unfold geo_Parity.f pd
  rw [Right_pos h]; simp only [Option.bind_some]; rw [if_pos trivial, w64 (n := s - 1) (by omega) (by omega), within_eq]
  simp only [Option.bind_some]; rw [if_pos (decide_eq_true ha), w64 (n := r - 1) (by omega) (by omega), within_eq]
  simp only [Option.bind_some]; rw [if_pos (decide_eq_true hw), if_neg (by omega), w64 (n := d - 1) (by omega) (by omega), w64 (n := a * r) (by omega) (by omega), w64 (n := a * r + w) (by omega) (by omega), tmod_nn (by omega),
    w64 (n := d - 1 - (a * r + w) % d) (by omega) (by omega), w64 (n := 5 + (a * r + w)) (by omega) (by omega)]
theorem Parity_neg {d r s a w : Int} (h : ¬ PR d r s a w) : geo_Parity.f d r s a w = some (0, 0, false) := by
  unfold geo_Parity.f
  by_cases hg : GR d r s
  · have h3 := hg.1.r0; have h4 := hg.1.r1; have h5 := hg.1.s0; have h6 := hg.1.s1
    rw [Right_pos hg]; simp only [Option.bind_some]; rw [if_pos trivial, w64 (n := s - 1) (by omega) (by omega), within_eq]
    simp only [Option.bind_some]
    by_cases ha : 0 ≤ a ∧ a ≤ s - 1
    · rw [if_pos (decide_eq_true ha), w64 (n := r - 1) (by omega) (by omega), within_eq]
      simp only [Option.bind_some]; rw [if_neg (by simp only [decide_eq_true_eq]; exact fun hw => h ⟨hg, ha, hw⟩)]
    · rw [if_neg (by simpa using ha)]
  · rw [Right_neg hg]; simp only [Option.bind_some]; rw [if_neg (by simp)]
def BR (d r s a k : Int) : Prop := GR d r s ∧ (0 ≤ a ∧ a ≤ s - 1) ∧ (0 ≤ k ∧ k ≤ pl d r)
theorem row_of {d r s a k : Int} (h : BR d r s a k) : PR d r s a (k / (d - 1)) := by
  obtain ⟨h, ha, hk⟩ := h
  have h1 := h.1.d0
  have hp := pl_bd h.1
  refine ⟨h, ha, Int.ediv_nonneg hk.1 (by omega), ?_⟩
  have : k / (d - 1) < r := Int.ediv_lt_of_lt_mul (by omega) (by unfold pl at *; omega)
  omega
def bd_ (d r a k : Int) : Int := (pd d r a (k / (d - 1)) + 1 + k % (d - 1)) % d
theorem Block_pos {d r s a k : Int} (n : Nat) (h : BR d r s a k) : geo_Block.f (n + 1) d r s a k = some (bd_ d r a k, 5 + (a * r + k / (d - 1)), true) := by
  have hP := row_of h
  have hb := str_bd hP
  obtain ⟨h, ha, hk⟩ := h
  have h1 := h.1.d0; have h2 := h.1.d1
  have hp := pl_bd h.1
  have m0 := Int.emod_nonneg k (show d - 1 ≠ 0 by omega)
  have m1 := Int.emod_lt_of_pos k (show 0 < d - 1 by omega)
  have q0 : 0 ≤ k / (d - 1) := Int.ediv_nonneg hk.1 (by omega)
  have q1 : k / (d - 1) ≤ k := Int.ediv_le_self _ (by omega)
  have hpd : 0 ≤ pd d r a (k / (d - 1)) ∧ pd d r a (k / (d - 1)) ≤ 15 := by unfold pd; omega
  unfold geo_Block.f
  rw [Right_pos h]; simp only [Option.bind_some]; rw [if_pos trivial, places_eq h.1]
  simp only [Option.bind_some]; rw [within_eq]
  simp only [Option.bind_some]; rw [decide_eq_true hk]
  simp only [geo_Block.j0]
  rw [if_neg (by simp), w64 (n := d - 1) (by omega) (by omega), if_neg (by omega), tdiv_nn hk.1, tmod_nn hk.1, w64 (n := k / (d - 1)) (by omega) (by omega), Parity_pos hP]
  simp only [Option.bind_some]
  rw [if_pos trivial, if_neg (by omega), w64 (n := pd d r a (k / (d - 1)) + 1) (by omega) (by omega), w64 (n := pd d r a (k / (d - 1)) + 1 + k % (d - 1)) (by omega) (by omega), tmod_nn (by omega)]; rfl
/-- The spot of a stripe's column. -/
def sp (d t c : Int) : Int × Int := ((d - t % d + c) % d, 5 + t)
theorem sp_inj {d t c u e : Int} (h0 : 3 ≤ d) (h1 : d ≤ 16) (c0 : 0 ≤ c) (c1 : c < d) (e0 : 0 ≤ e) (e1 : e < d) (h : sp d t c = sp d u e) : t = u ∧ c = e := by
  unfold sp at h
  obtain ⟨h2, h3⟩ := Prod.mk.inj h
  obtain rfl : t = u := by omega
  refine ⟨rfl, ?_⟩
  clear h h3
  rcases (by omega : d = 3 ∨ d = 4 ∨ d = 5 ∨ d = 6 ∨ d = 7 ∨ d = 8 ∨ d = 9 ∨ d = 10 ∨ d = 11 ∨ d = 12 ∨ d = 13 ∨ d = 14 ∨ d = 15 ∨ d = 16) with rfl | rfl | rfl | rfl | rfl | rfl | rfl | rfl | rfl | rfl | rfl | rfl | rfl | rfl <;> omega
theorem sp_bd {d t c : Int} (h0 : 3 ≤ d) : 0 ≤ (sp d t c).1 ∧ (sp d t c).1 < d := ⟨Int.emod_nonneg _ (by omega), Int.emod_lt_of_pos _ (by omega)⟩
theorem bd_sp (d r a k : Int) : bd_ d r a k = (sp d (a * r + k / (d - 1)) (k % (d - 1))).1 := by
  unfold bd_ pd sp
  show _ % d = _ % d
  congr 1
  omega
theorem pd_sp {d r a w : Int} (h0 : 3 ≤ d) : pd d r a w = (sp d (a * r + w) (d - 1)).1 := by
  have m0 := Int.emod_nonneg (a * r + w) (show d ≠ 0 by omega)
  have m1 := Int.emod_lt_of_pos (a * r + w) (show 0 < d by omega)
  unfold pd sp
  show _ = (d - (a * r + w) % d + (d - 1)) % d
  obtain ⟨q, hq⟩ : ∃ q, (a * r + w) % d = q := ⟨_, rfl⟩
  rw [hq] at m0 m1 ⊢
  rw [show d - q + (d - 1) = (d - 1 - q) + d by omega, Int.add_emod_right, Int.emod_eq_of_lt (by omega) (by omega)]
/-- The spots that have been, ahead of the block k, the parity w of the segment a. -/
def VA (d r a k t c : Int) : Prop := t < a * r ∨ (c < d - 1 ∧ (t - a * r) * (d - 1) + c < k)
def VB (d r a w t c : Int) : Prop := t < a * r ∨ (c < d - 1 ∧ (t - a * r) * (d - 1) + c < r * (d - 1)) ∨ (c = d - 1 ∧ t < a * r + w)
def Vis (V : Int → Int → Prop) (d : Int) (L : List (Int × Int)) : Prop := ∀ p ∈ L, ∃ t c, 0 ≤ c ∧ c < d ∧ p = sp d t c ∧ V t c
theorem Vis.fresh {V : Int → Int → Prop} {d : Int} {L : List (Int × Int)} (h : Vis V d L) (h0 : 3 ≤ d) (h1 : d ≤ 16) {t c : Int} (c0 : 0 ≤ c) (c1 : c < d) (hv : ¬ V t c) : sp d t c ∉ L := fun hm => by
  obtain ⟨u, e, e0, e1, he, hV⟩ := h _ hm
  obtain ⟨rfl, rfl⟩ := sp_inj h0 h1 c0 c1 e0 e1 he
  exact hv hV
theorem Vis.push {V V1 : Int → Int → Prop} {d : Int} {L : List (Int × Int)} (h : Vis V d L) {t c : Int} (c0 : 0 ≤ c) (c1 : c < d) (hv : V1 t c) (hm : ∀ t c, V t c → V1 t c) : Vis V1 d (sp d t c :: L) := by
  intro p hp
  rcases List.mem_cons.1 hp with rfl | hp
  · exact ⟨t, c, c0, c1, rfl, hv⟩
  · obtain ⟨u, e, e0, e1, he, hV⟩ := h p hp
    exact ⟨u, e, e0, e1, he, hm _ _ hV⟩
theorem Vis.turn {V V1 : Int → Int → Prop} {d : Int} {L : List (Int × Int)} (h : Vis V d L) (hm : ∀ t c, 0 ≤ c → c < d → V t c → V1 t c) : Vis V1 d L := by
  intro p hp
  obtain ⟨u, e, e0, e1, he, hV⟩ := h p hp
  exact ⟨u, e, e0, e1, he, hm _ _ e0 e1 hV⟩
theorem k_split (d k : Int) (h0 : 3 ≤ d) : (k / (d - 1)) * (d - 1) + k % (d - 1) = k := by
  rw [Int.mul_comm]; exact Int.mul_ediv_add_emod k (d - 1)
theorem VA_new {d r a k : Int} (h0 : 3 ≤ d) (hk : 0 ≤ k) : ¬ VA d r a k (a * r + k / (d - 1)) (k % (d - 1)) := by
  have q0 : 0 ≤ k / (d - 1) := Int.ediv_nonneg hk (by omega)
  have hs := k_split d k h0
  rintro (h | ⟨_, h⟩)
  · omega
  · rw [show a * r + k / (d - 1) - a * r = k / (d - 1) by omega] at h; omega
theorem VA_put {d r a k : Int} (h0 : 3 ≤ d) (hk : 0 ≤ k) : VA d r a (k + 1) (a * r + k / (d - 1)) (k % (d - 1)) := by
  have m1 := Int.emod_lt_of_pos k (show 0 < d - 1 by omega)
  have hs := k_split d k h0
  refine .inr ⟨m1, ?_⟩
  rw [show a * r + k / (d - 1) - a * r = k / (d - 1) by omega]; omega
theorem VA_mono {d r a k t c : Int} (h : VA d r a k t c) : VA d r a (k + 1) t c := h.imp id (fun q => ⟨q.1, by omega⟩)
theorem VA_VB {d r a t c : Int} (h : VA d r a (r * (d - 1)) t c) : VB d r a 0 t c := h.imp id (fun q => .inl q)
theorem VB_new {d r a w : Int} (hw : 0 ≤ w) : ¬ VB d r a w (a * r + w) (d - 1) := by
  rintro (h | ⟨h, _⟩ | ⟨_, h⟩) <;> omega
theorem VB_put {d r a w : Int} : VB d r a (w + 1) (a * r + w) (d - 1) := .inr (.inr ⟨rfl, by omega⟩)
theorem VB_mono {d r a w t c : Int} (h : VB d r a w t c) : VB d r a (w + 1) t c := h.imp id (fun q => q.imp id (fun q => ⟨q.1, by omega⟩))
theorem VB_VA {d r a t c : Int} (h0 : 3 ≤ d) (hr : 0 ≤ r) (c0 : 0 ≤ c) (h : VB d r a r t c) : VA d r (a + 1) 0 t c := by
  left
  rw [Int.add_mul, Int.one_mul]
  rcases h with h | ⟨_, h⟩ | ⟨_, h⟩
  · omega
  · by_cases e : t - a * r < r
    · omega
    · have := Int.mul_le_mul_of_nonneg_right (show r ≤ t - a * r by omega) (show (0 : Int) ≤ d - 1 by omega)
      omega
  · omega
end Go.Proofs.Ytoahkeabdikhcaa.Pure
