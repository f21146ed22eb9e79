/- The pure statement of GeoAnswers, over whole numbers and lists alone. -/
import Derived.Test.YtoahkeabdikhcaaQGeoAnswersx
import Derived.KernelRfl
namespace Go.Proofs.Ytoahkeabdikhcaa.Pure
open Go.RowKit Go.Proofs.Ytoahkeabdikhcaa.PGeoAnswers Go.Proofs.YtoahkeabdikhcaaW.PrintWords Go.Proofs.YtoahkeabdikhcaaW.PrintLast
set_option linter.unusedVariables false
theorem w64 {n : Int} (h0 : -9223372036854775808 ≤ n) (h1 : n ≤ 9223372036854775807) : wrap64 n = n := by unfold wrap64; omega
theorem mul_bd {a b A B : Int} (h0 : 0 ≤ a) (h1 : a ≤ A) (h2 : 0 ≤ b) (h3 : b ≤ B) : 0 ≤ a * b ∧ a * b ≤ A * B :=
  ⟨Int.mul_nonneg h0 h2, Int.mul_le_mul h1 h3 h2 (by omega)⟩
def pl (d r : Int) : Int := r * (d - 1) - 1
def ot (s : Int) : Int := 1 + s / 8
structure GB (d r s : Int) : Prop where
  d0 : 3 ≤ d
  d1 : d ≤ 16
  r0 : 1 ≤ r
  r1 : r ≤ 4
  s0 : 12 ≤ s
  s1 : s ≤ 64
def GR (d r s : Int) : Prop := GB d r s ∧ ot s * pl d r ≥ 8
theorem pl_bd {d r s : Int} (h : GB d r s) : 1 ≤ pl d r ∧ pl d r ≤ 59 := by
  obtain ⟨h1, h2, h3, h4, h5, h6⟩ := h
  unfold pl
  rcases (by omega : r = 1 ∨ r = 2 ∨ r = 3 ∨ r = 4) with rfl | rfl | rfl | rfl <;> omega
theorem ot_bd {d r s : Int} (h : GB d r s) : 2 ≤ ot s ∧ ot s ≤ 9 := by
  obtain ⟨h1, h2, h3, h4, h5, h6⟩ := h
  unfold ot; omega
theorem tdiv8 {s : Int} (h : 0 ≤ s) : Int.tdiv s 8 = s / 8 := Int.tdiv_eq_ediv_of_nonneg h
theorem within_eq (a b c : Int) : geo_within.f a b c = some (decide (b ≤ a ∧ a ≤ c)) := by
  unfold geo_within.f
  by_cases h : b ≤ a <;> simp [h]
theorem others_eq {d r s : Int} (h : GB d r s) : geo_others.f d r s = some (ot s) := by
  have h5 := h.s0; have h6 := h.s1
  unfold geo_others.f ot
  rw [tdiv8 (by omega), w64 (n := s / 8) (by omega) (by omega), w64 (by omega) (by omega)]
theorem places_eq {d r s : Int} (h : GB d r s) : geo_places.f d r s = some (pl d r) := by
  have h3 := pl_bd h
  have h1 := h.d0; have h2 := h.d1
  unfold geo_places.f
  unfold pl at *
  rw [w64 (n := d - 1) (by omega) (by omega), w64 (n := r * (d - 1)) (by omega) (by omega), w64 (by omega) (by omega)]
open Classical in
theorem Right_eq (d r s : Int) : geo_Right.f d r s = some (decide (GR d r s)) := by
  unfold geo_Right.f
  rw [within_eq, within_eq, within_eq]
  simp only [Option.bind_some]
  by_cases h1 : 3 ≤ d ∧ d ≤ 16
  · by_cases h2 : 1 ≤ r ∧ r ≤ 4
    · by_cases h3 : 12 ≤ s ∧ s ≤ 64
      · have hb : GB d r s := ⟨h1.1, h1.2, h2.1, h2.2, h3.1, h3.2⟩
        rw [if_pos (decide_eq_true h1), if_pos (decide_eq_true h2), if_pos (decide_eq_true h3), others_eq hb, places_eq hb]
        simp only [Option.bind_some]
        have hp := pl_bd hb; have ho := ot_bd hb
        have hm := mul_bd (a := ot s) (b := pl d r) (A := 9) (B := 59) (by omega) (by omega) (by omega) (by omega)
        rw [w64 (by omega) (by omega)]
        simp [GR, hb]
      · have : ¬ GR d r s := fun g => h3 ⟨g.1.s0, g.1.s1⟩
        rw [if_pos (decide_eq_true h1), if_pos (decide_eq_true h2), if_neg (by simpa using h3)]; simp [this]
    · have : ¬ GR d r s := fun g => h2 ⟨g.1.r0, g.1.r1⟩
      rw [if_pos (decide_eq_true h1), if_neg (by simpa using h2)]; simp [this]
  · have : ¬ GR d r s := fun g => h1 ⟨g.1.d0, g.1.d1⟩
    rw [if_neg (by simpa using h1)]; simp [this]
theorem Right_pos {d r s : Int} (h : GR d r s) : geo_Right.f d r s = some true := by rw [Right_eq]; simp [h]
theorem Right_neg {d r s : Int} (h : ¬ GR d r s) : geo_Right.f d r s = some false := by rw [Right_eq]; simp [h]
def cp (s : Int) : Int := (s - 2 - 2 * ot s) / 3
theorem cp_bd {d r s : Int} (h : GB d r s) : 2 ≤ cp s ∧ cp s ≤ 64 ∧ 3 * cp s + 2 * ot s + 2 ≤ s := by
  have h5 := h.s0; have h6 := h.s1
  unfold cp ot; omega
theorem Caps_pos {d r s : Int} (h : GR d r s) : geo_Caps.f d r s = some (cp s, ot s) := by
  have h5 := h.1.s0; have h6 := h.1.s1; have ho := ot_bd h.1
  have e : 0 ≤ s - 2 - 2 * ot s := by unfold ot; omega
  unfold geo_Caps.f cp
  rw [Right_pos h]; simp only [Option.bind_some]; rw [if_pos trivial, others_eq h.1]; simp only [Option.bind_some]
  rw [w64 (n := s - 2) (by omega) (by omega), w64 (n := 2 * ot s) (by omega) (by omega), w64 (n := s - 2 - 2 * ot s) (by omega) (by omega), Int.tdiv_eq_ediv_of_nonneg e, w64 (by omega) (by omega)]
theorem Caps_neg {d r s : Int} (h : ¬ GR d r s) : geo_Caps.f d r s = some (0, 0) := by
  unfold geo_Caps.f
  rw [Right_neg h]; simp only [Option.bind_some]; rw [if_neg (by simp)]
theorem Places_pos {d r s : Int} (h : GR d r s) : geo_Places.f d r s = some (pl d r) := by
  unfold geo_Places.f
  rw [Right_pos h]; simp only [Option.bind_some]; rw [if_pos trivial, places_eq h.1]; rfl
theorem Places_neg {d r s : Int} (h : ¬ GR d r s) : geo_Places.f d r s = some 0 := by
  unfold geo_Places.f
  rw [Right_neg h]; simp only [Option.bind_some]; rw [if_neg (by simp)]
theorem Sectors_pos {d r s : Int} (h : GR d r s) : geo_Sectors.f d r s = some (5 + s * r) := by
  have hm := mul_bd (a := s) (b := r) (A := 64) (B := 4) (by have := h.1.s0; omega) h.1.s1 (by have := h.1.r0; omega) h.1.r1
  unfold geo_Sectors.f
  rw [Right_pos h]; simp only [Option.bind_some]; rw [if_pos trivial, w64 (n := s * r) (by omega) (by omega), w64 (by omega) (by omega)]
theorem Sectors_neg {d r s : Int} (h : ¬ GR d r s) : geo_Sectors.f d r s = some 0 := by
  unfold geo_Sectors.f
  rw [Right_neg h]; simp only [Option.bind_some]; rw [if_neg (by simp)]
theorem seg_bd {d r s a k : Int} (h : GB d r s) (a0 : 0 ≤ a) (a1 : a ≤ s - 1) (k0 : 0 ≤ k) (k1 : k ≤ 100) : 0 ≤ a * pl d r ∧ a * pl d r ≤ 63 * 59 ∧ 0 ≤ a * pl d r + k := by
  have hp := pl_bd h; have h6 := h.s1
  have hm := mul_bd (a := a) (b := pl d r) (A := 63) (B := 59) a0 (by omega) (by omega) (by omega)
  omega
def AR (d r s a k : Int) : Prop := GR d r s ∧ (0 ≤ a ∧ a ≤ s - 1) ∧ (1 ≤ k ∧ k ≤ pl d r)
theorem Address_pos {d r s a k : Int} (h : AR d r s a k) : geo_Address.f d r s a k = some (a * pl d r + k) := by
  obtain ⟨h, ha, hk⟩ := h
  have hp := pl_bd h.1; have hs := h.1.s1; have hs0 := h.1.s0
  have hm := seg_bd (a := a) (k := k) h.1 ha.1 ha.2 (by omega) (by omega)
  unfold geo_Address.f
  rw [Right_pos h]; simp only [Option.bind_some]; rw [if_pos trivial, w64 (n := s - 1) (by omega) (by omega), within_eq]
  simp only [Option.bind_some]; rw [if_pos (decide_eq_true ha), places_eq h.1]
  simp only [Option.bind_some]; rw [within_eq]
  simp only [Option.bind_some]; rw [if_pos (decide_eq_true hk), w64 (n := a * pl d r) (by omega) (by omega), w64 (by omega) (by omega)]
theorem Address_neg {d r s a k : Int} (h : ¬ AR d r s a k) : geo_Address.f d r s a k = some 0 := by
  unfold geo_Address.f
  by_cases hg : GR d r s
  · have hs := hg.1.s1; have hs0 := hg.1.s0
    rw [Right_pos hg]; simp only [Option.bind_some]; rw [if_pos trivial, w64 (n := s - 1) (by omega) (by omega), within_eq]
    simp only [Option.bind_some]
    by_cases ha : 0 ≤ a ∧ a ≤ s - 1
    · rw [if_pos (decide_eq_true ha), places_eq hg.1]
      simp only [Option.bind_some]; rw [within_eq]
      simp only [Option.bind_some]; rw [if_neg (by simp only [decide_eq_true_eq]; exact fun hk => h ⟨hg, ha, hk⟩)]
    · rw [if_neg (by simpa using ha)]
  · rw [Right_neg hg]; simp only [Option.bind_some]; rw [if_neg (by simp)]
theorem tmod_nn {a b : Int} (h : 0 ≤ a) : Int.tmod a b = a % b := Int.tmod_eq_emod_of_nonneg h
theorem tdiv_nn {a b : Int} (h : 0 ≤ a) : Int.tdiv a b = a / b := Int.tdiv_eq_ediv_of_nonneg h
theorem spl_bd {d r s : Int} (h : GB d r s) : 0 ≤ s * pl d r ∧ s * pl d r ≤ 64 * 59 := by
  have hp := pl_bd h
  exact mul_bd (by have := h.s0; omega) h.s1 (by omega) hp.2
theorem alive_eq : morainelaw03_alive.f 1 = some true := by kernel_rfl
theorem alive_at (k : Nat) : morainelaw03_alive.f (k + 1) = some true := by
  induction k with
  | zero => exact alive_eq
  | succ k ih => exact morainelaw03_alive.mono _ _ ih
theorem refRight_eq (d r s : Int) : moraineref03_Right.f d r s = geo_Right.f d r s := by
  unfold moraineref03_Right.f
  by_cases g : GB d r s
  · obtain ⟨h1, h2, h3, h4, h5, h6⟩ := g
    have g : GB d r s := ⟨h1, h2, h3, h4, h5, h6⟩
    rw [if_neg (by omega), if_neg (by omega), if_neg (by omega), if_neg (by omega), if_neg (by omega), if_neg (by omega), Right_eq]
    have hp := pl_bd g; have ho := ot_bd g
    have hm := mul_bd (a := ot s) (b := pl d r) (A := 9) (B := 59) (by omega) (by omega) (by omega) (by omega)
    rw [tdiv8 (by omega), w64 (n := s / 8) (by omega) (by omega), w64 (n := d - 1) (by omega) (by omega)]
    have e1 : wrap64 (1 + s / 8) = ot s := w64 (by omega) (by omega)
    have e2 : wrap64 (wrap64 (r * (d - 1)) - 1) = pl d r := by
      unfold pl at *
      rw [w64 (n := r * (d - 1)) (by omega) (by omega), w64 (by omega) (by omega)]
    rw [e1, e2, w64 (by omega) (by omega)]
    simp [GR, g]
  · rw [Right_neg (fun k => g k.1)]
    by_cases h1 : d < 3; · rw [if_pos h1]
    rw [if_neg h1]
    by_cases h2 : d > 16; · rw [if_pos h2]
    rw [if_neg h2]
    by_cases h3 : r < 1; · rw [if_pos h3]
    rw [if_neg h3]
    by_cases h4 : r > 4; · rw [if_pos h4]
    rw [if_neg h4]
    by_cases h5 : s < 12; · rw [if_pos h5]
    rw [if_neg h5]
    by_cases h6 : s > 64; · rw [if_pos h6]
    exact absurd ⟨by omega, by omega, by omega, by omega, by omega, by omega⟩ g
theorem refCaps_eq (d r s : Int) : moraineref03_Caps.f d r s = geo_Caps.f d r s := by
  unfold moraineref03_Caps.f
  rw [refRight_eq]
  by_cases h : GR d r s
  · rw [Right_pos h, Caps_pos h]; simp only [Option.bind_some]; rw [if_pos trivial]
    have h5 := h.1.s0; have h6 := h.1.s1; have ho := ot_bd h.1
    have e : 0 ≤ s - 2 - 2 * ot s := by unfold ot; omega
    rw [tdiv8 (by omega), w64 (n := s / 8) (by omega) (by omega)]
    have e1 : wrap64 (1 + s / 8) = ot s := w64 (by omega) (by omega)
    rw [e1, w64 (n := s - 2) (by omega) (by omega), w64 (n := 2 * ot s) (by omega) (by omega), w64 (n := s - 2 - 2 * ot s) (by omega) (by omega), tdiv_nn e, w64 (by omega) (by omega)]; rfl
  · rw [Right_neg h, Caps_neg h]; simp
theorem refSectors_eq (d r s : Int) : moraineref03_Sectors.f d r s = geo_Sectors.f d r s := by
  unfold moraineref03_Sectors.f geo_Sectors.f; rw [refRight_eq]
theorem refPlaces_eq (d r s : Int) : moraineref03_Places.f d r s = geo_Places.f d r s := by
  unfold moraineref03_Places.f; rw [refRight_eq]
  by_cases h : GR d r s
  · rw [Right_pos h, Places_pos h]; simp only [Option.bind_some]; rw [if_pos trivial]
    have hp := pl_bd h.1; have h1 := h.1.d0; have h2 := h.1.d1
    unfold pl at *
    rw [w64 (n := d - 1) (by omega) (by omega), w64 (n := r * (d - 1)) (by omega) (by omega), w64 (by omega) (by omega)]
  · rw [Right_neg h, Places_neg h]; simp
theorem GeoAnswers (d r s : Int) (w0 : (Lit.int .i64 d).wf = true) (w1 : (Lit.int .i64 r).wf = true) (w2 : (Lit.int .i64 s).wf = true) : ∃ k, morainelaw03_GeoAnswers.f k d r s = some true := by
  refine ⟨1, ?_⟩
  unfold morainelaw03_GeoAnswers.f
  rw [alive_eq]; simp only [Option.bind_some]; rw [if_pos trivial, refCaps_eq, refRight_eq, refSectors_eq, refPlaces_eq]
  by_cases h : GR d r s
  · rw [Caps_pos h, Right_pos h, Sectors_pos h, Places_pos h]; simp
  · rw [Caps_neg h, Right_neg h, Sectors_neg h, Places_neg h]; simp
end Go.Proofs.Ytoahkeabdikhcaa.Pure
