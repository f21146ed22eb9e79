/- The pure statement of GeoSpots, over whole numbers and lists alone. -/
import Derived.Test.YtoahkeabdikhcaaQGeoSpotsx
import Derived.KernelRfl
namespace Go.Proofs.Ytoahkeabdikhcaa.Pure
open Go.RowKit Go.Proofs.Ytoahkeabdikhcaa.PGeoSpots Go.Proofs.YtoahkeabdikhcaaW.PrintWords Go.Proofs.YtoahkeabdikhcaaW.PrintLast
set_option linter.unusedVariables false
theorem w64 {n : Int} (h0 : -9223372036854775808 ≤ n) (h1 : n ≤ 9223372036854775807) : wrap64 n = n := by unfold wrap64; omega
theorem mul_bd {a b A B : Int} (h0 : 0 ≤ a) (h1 : a ≤ A) (h2 : 0 ≤ b) (h3 : b ≤ B) : 0 ≤ a * b ∧ a * b ≤ A * B :=
  ⟨Int.mul_nonneg h0 h2, Int.mul_le_mul h1 h3 h2 (by omega)⟩
def pl (d r : Int) : Int := r * (d - 1) - 1
def ot (s : Int) : Int := 1 + s / 8
structure GB (d r s : Int) : Prop where
  d0 : 3 ≤ d
  d1 : d ≤ 16
  r0 : 1 ≤ r
  r1 : r ≤ 4
  s0 : 12 ≤ s
  s1 : s ≤ 64
def GR (d r s : Int) : Prop := GB d r s ∧ ot s * pl d r ≥ 8
theorem pl_bd {d r s : Int} (h : GB d r s) : 1 ≤ pl d r ∧ pl d r ≤ 59 := by
  obtain ⟨h1, h2, h3, h4, h5, h6⟩ := h
  unfold pl
  rcases (by omega : r = 1 ∨ r = 2 ∨ r = 3 ∨ r = 4) with rfl | rfl | rfl | rfl <;> omega
theorem ot_bd {d r s : Int} (h : GB d r s) : 2 ≤ ot s ∧ ot s ≤ 9 := by
  obtain ⟨h1, h2, h3, h4, h5, h6⟩ := h
  unfold ot; omega
theorem tdiv8 {s : Int} (h : 0 ≤ s) : Int.tdiv s 8 = s / 8 := Int.tdiv_eq_ediv_of_nonneg h
theorem within_eq (a b c : Int) : geo_within.f a b c = some (decide (b ≤ a ∧ a ≤ c)) := by
  unfold geo_within.f
  by_cases h : b ≤ a <;> simp [h]
theorem others_eq {d r s : Int} (h : GB d r s) : geo_others.f d r s = some (ot s) := by
  have h5 := h.s0; have h6 := h.s1
  unfold geo_others.f ot
  rw [tdiv8 (by omega), w64 (n := s / 8) (by omega) (by omega), w64 (by omega) (by omega)]
theorem places_eq {d r s : Int} (h : GB d r s) : geo_places.f d r s = some (pl d r) := by
  have h3 := pl_bd h
  have h1 := h.d0; have h2 := h.d1
  unfold geo_places.f
  unfold pl at *
  rw [w64 (n := d - 1) (by omega) (by omega), w64 (n := r * (d - 1)) (by omega) (by omega), w64 (by omega) (by omega)]
open Classical in
theorem Right_eq (d r s : Int) : geo_Right.f d r s = some (decide (GR d r s)) := by
  unfold geo_Right.f
  rw [within_eq, within_eq, within_eq]
  simp only [Option.bind_some]
  by_cases h1 : 3 ≤ d ∧ d ≤ 16
  · by_cases h2 : 1 ≤ r ∧ r ≤ 4
    · by_cases h3 : 12 ≤ s ∧ s ≤ 64
      · have hb : GB d r s := ⟨h1.1, h1.2, h2.1, h2.2, h3.1, h3.2⟩
        rw [if_pos (decide_eq_true h1), if_pos (decide_eq_true h2), if_pos (decide_eq_true h3), others_eq hb, places_eq hb]
        simp only [Option.bind_some]
        have hp := pl_bd hb; have ho := ot_bd hb
        have hm := mul_bd (a := ot s) (b := pl d r) (A := 9) (B := 59) (by omega) (by omega) (by omega) (by omega)
        rw [w64 (by omega) (by omega)]
        simp [GR, hb]
      · have : ¬ GR d r s := fun g => h3 ⟨g.1.s0, g.1.s1⟩
        rw [if_pos (decide_eq_true h1), if_pos (decide_eq_true h2), if_neg (by simpa using h3)]; simp [this]
    · have : ¬ GR d r s := fun g => h2 ⟨g.1.r0, g.1.r1⟩
      rw [if_pos (decide_eq_true h1), if_neg (by simpa using h2)]; simp [this]
  · have : ¬ GR d r s := fun g => h1 ⟨g.1.d0, g.1.d1⟩
    rw [if_neg (by simpa using h1)]; simp [this]
theorem Right_pos {d r s : Int} (h : GR d r s) : geo_Right.f d r s = some true := by rw [Right_eq]; simp [h]
theorem Right_neg {d r s : Int} (h : ¬ GR d r s) : geo_Right.f d r s = some false := by rw [Right_eq]; simp [h]
def cp (s : Int) : Int := (s - 2 - 2 * ot s) / 3
theorem cp_bd {d r s : Int} (h : GB d r s) : 2 ≤ cp s ∧ cp s ≤ 64 ∧ 3 * cp s + 2 * ot s + 2 ≤ s := by
  have h5 := h.s0; have h6 := h.s1
  unfold cp ot; omega
theorem Caps_pos {d r s : Int} (h : GR d r s) : geo_Caps.f d r s = some (cp s, ot s) := by
  have h5 := h.1.s0; have h6 := h.1.s1; have ho := ot_bd h.1
  have e : 0 ≤ s - 2 - 2 * ot s := by unfold ot; omega
  unfold geo_Caps.f cp
  rw [Right_pos h]; simp only [Option.bind_some]; rw [if_pos trivial, others_eq h.1]; simp only [Option.bind_some]
  rw [w64 (n := s - 2) (by omega) (by omega), w64 (n := 2 * ot s) (by omega) (by omega), w64 (n := s - 2 - 2 * ot s) (by omega) (by omega), Int.tdiv_eq_ediv_of_nonneg e, w64 (by omega) (by omega)]
theorem Caps_neg {d r s : Int} (h : ¬ GR d r s) : geo_Caps.f d r s = some (0, 0) := by
  unfold geo_Caps.f
  rw [Right_neg h]; simp only [Option.bind_some]; rw [if_neg (by simp)]
theorem Places_pos {d r s : Int} (h : GR d r s) : geo_Places.f d r s = some (pl d r) := by
  unfold geo_Places.f
  rw [Right_pos h]; simp only [Option.bind_some]; rw [if_pos trivial, places_eq h.1]; rfl
theorem Places_neg {d r s : Int} (h : ¬ GR d r s) : geo_Places.f d r s = some 0 := by
  unfold geo_Places.f
  rw [Right_neg h]; simp only [Option.bind_some]; rw [if_neg (by simp)]
theorem Sectors_pos {d r s : Int} (h : GR d r s) : geo_Sectors.f d r s = some (5 + s * r) := by
  have hm := mul_bd (a := s) (b := r) (A := 64) (B := 4) (by have := h.1.s0; omega) h.1.s1 (by have := h.1.r0; omega) h.1.r1
  unfold geo_Sectors.f
  rw [Right_pos h]; simp only [Option.bind_some]; rw [if_pos trivial, w64 (n := s * r) (by omega) (by omega), w64 (by omega) (by omega)]
theorem Sectors_neg {d r s : Int} (h : ¬ GR d r s) : geo_Sectors.f d r s = some 0 := by
  unfold geo_Sectors.f
  rw [Right_neg h]; simp only [Option.bind_some]; rw [if_neg (by simp)]
theorem seg_bd {d r s a k : Int} (h : GB d r s) (a0 : 0 ≤ a) (a1 : a ≤ s - 1) (k0 : 0 ≤ k) (k1 : k ≤ 100) : 0 ≤ a * pl d r ∧ a * pl d r ≤ 63 * 59 ∧ 0 ≤ a * pl d r + k := by
  have hp := pl_bd h; have h6 := h.s1
  have hm := mul_bd (a := a) (b := pl d r) (A := 63) (B := 59) a0 (by omega) (by omega) (by omega)
  omega
def AR (d r s a k : Int) : Prop := GR d r s ∧ (0 ≤ a ∧ a ≤ s - 1) ∧ (1 ≤ k ∧ k ≤ pl d r)
theorem Address_pos {d r s a k : Int} (h : AR d r s a k) : geo_Address.f d r s a k = some (a * pl d r + k) := by
  obtain ⟨h, ha, hk⟩ := h
  have hp := pl_bd h.1; have hs := h.1.s1; have hs0 := h.1.s0
  have hm := seg_bd (a := a) (k := k) h.1 ha.1 ha.2 (by omega) (by omega)
  unfold geo_Address.f
  rw [Right_pos h]; simp only [Option.bind_some]; rw [if_pos trivial, w64 (n := s - 1) (by omega) (by omega), within_eq]
  simp only [Option.bind_some]; rw [if_pos (decide_eq_true ha), places_eq h.1]
  simp only [Option.bind_some]; rw [within_eq]
  simp only [Option.bind_some]; rw [if_pos (decide_eq_true hk), w64 (n := a * pl d r) (by omega) (by omega), w64 (by omega) (by omega)]
theorem Address_neg {d r s a k : Int} (h : ¬ AR d r s a k) : geo_Address.f d r s a k = some 0 := by
  unfold geo_Address.f
  by_cases hg : GR d r s
  · have hs := hg.1.s1; have hs0 := hg.1.s0
    rw [Right_pos hg]; simp only [Option.bind_some]; rw [if_pos trivial, w64 (n := s - 1) (by omega) (by omega), within_eq]
    simp only [Option.bind_some]
    by_cases ha : 0 ≤ a ∧ a ≤ s - 1
    · rw [if_pos (decide_eq_true ha), places_eq hg.1]
      simp only [Option.bind_some]; rw [within_eq]
      simp only [Option.bind_some]; rw [if_neg (by simp only [decide_eq_true_eq]; exact fun hk => h ⟨hg, ha, hk⟩)]
    · rw [if_neg (by simpa using ha)]
  · rw [Right_neg hg]; simp only [Option.bind_some]; rw [if_neg (by simp)]
theorem tmod_nn {a b : Int} (h : 0 ≤ a) : Int.tmod a b = a % b := Int.tmod_eq_emod_of_nonneg h
theorem tdiv_nn {a b : Int} (h : 0 ≤ a) : Int.tdiv a b = a / b := Int.tdiv_eq_ediv_of_nonneg h
theorem spl_bd {d r s : Int} (h : GB d r s) : 0 ≤ s * pl d r ∧ s * pl d r ≤ 64 * 59 := by
  have hp := pl_bd h
  exact mul_bd (by have := h.s0; omega) h.s1 (by omega) hp.2
def PR (d r s a w : Int) : Prop := GR d r s ∧ (0 ≤ a ∧ a ≤ s - 1) ∧ (0 ≤ w ∧ w ≤ r - 1)
theorem str_bd {d r s a w : Int} (h : PR d r s a w) : 0 ≤ a * r ∧ a * r ≤ 63 * 4 ∧ 0 ≤ (a * r + w) % d ∧ (a * r + w) % d < d := by
  obtain ⟨h, ha, hw⟩ := h
  have h6 := h.1.s1; have h1 := h.1.d0
  have hm := mul_bd (a := a) (b := r) (A := 63) (B := 4) ha.1 (by omega) (by omega) h.1.r1
  exact ⟨hm.1, hm.2, Int.emod_nonneg _ (by omega), Int.emod_lt_of_pos _ (by omega)⟩
def pd (d r a w : Int) : Int := d - 1 - (a * r + w) % d
theorem Parity_pos {d r s a w : Int} (h : PR d r s a w) : geo_Parity.f d r s a w = some (pd d r a w, 5 + (a * r + w), true) := by
  have hb := str_bd h
  obtain ⟨h, ha, hw⟩ := h
  have h1 := h.1.d0; have h2 := h.1.d1; have h3 := h.1.r0; have h4 := h.1.r1; have h5 := h.1.s0; have h6 := h.1.s1
  unfold geo_Parity.f pd
  rw [Right_pos h]; simp only [Option.bind_some]; rw [if_pos trivial, w64 (n := s - 1) (by omega) (by omega), within_eq]
  simp only [Option.bind_some]; rw [if_pos (decide_eq_true ha), w64 (n := r - 1) (by omega) (by omega), within_eq]
  simp only [Option.bind_some]; rw [if_pos (decide_eq_true hw), if_neg (by omega), w64 (n := d - 1) (by omega) (by omega), w64 (n := a * r) (by omega) (by omega), w64 (n := a * r + w) (by omega) (by omega), tmod_nn (by omega),
    w64 (n := d - 1 - (a * r + w) % d) (by omega) (by omega), w64 (n := 5 + (a * r + w)) (by omega) (by omega)]
theorem Parity_neg {d r s a w : Int} (h : ¬ PR d r s a w) : geo_Parity.f d r s a w = some (0, 0, false) := by
  unfold geo_Parity.f
  by_cases hg : GR d r s
  · have h3 := hg.1.r0; have h4 := hg.1.r1; have h5 := hg.1.s0; have h6 := hg.1.s1
    rw [Right_pos hg]; simp only [Option.bind_some]; rw [if_pos trivial, w64 (n := s - 1) (by omega) (by omega), within_eq]
    simp only [Option.bind_some]
    by_cases ha : 0 ≤ a ∧ a ≤ s - 1
    · rw [if_pos (decide_eq_true ha), w64 (n := r - 1) (by omega) (by omega), within_eq]
      simp only [Option.bind_some]; rw [if_neg (by simp only [decide_eq_true_eq]; exact fun hw => h ⟨hg, ha, hw⟩)]
    · rw [if_neg (by simpa using ha)]
  · rw [Right_neg hg]; simp only [Option.bind_some]; rw [if_neg (by simp)]
def BR (d r s a k : Int) : Prop := GR d r s ∧ (0 ≤ a ∧ a ≤ s - 1) ∧ (0 ≤ k ∧ k ≤ pl d r)
theorem row_of {d r s a k : Int} (h : BR d r s a k) : PR d r s a (k / (d - 1)) := by
  obtain ⟨h, ha, hk⟩ := h
  have h1 := h.1.d0
  have hp := pl_bd h.1
  refine ⟨h, ha, Int.ediv_nonneg hk.1 (by omega), ?_⟩
  have : k / (d - 1) < r := Int.ediv_lt_of_lt_mul (by omega) (by unfold pl at *; omega)
  omega
def bd_ (d r a k : Int) : Int := (pd d r a (k / (d - 1)) + 1 + k % (d - 1)) % d
theorem Block_pos {d r s a k : Int} (n : Nat) (h : BR d r s a k) : geo_Block.f (n + 1) d r s a k = some (bd_ d r a k, 5 + (a * r + k / (d - 1)), true) := by
  have hP := row_of h
  have hb := str_bd hP
  obtain ⟨h, ha, hk⟩ := h
  have h1 := h.1.d0; have h2 := h.1.d1
  have hp := pl_bd h.1
  have m0 := Int.emod_nonneg k (show d - 1 ≠ 0 by omega)
  have m1 := Int.emod_lt_of_pos k (show 0 < d - 1 by omega)
  have q0 : 0 ≤ k / (d - 1) := Int.ediv_nonneg hk.1 (by omega)
  have q1 : k / (d - 1) ≤ k := Int.ediv_le_self _ (by omega)
  have hpd : 0 ≤ pd d r a (k / (d - 1)) ∧ pd d r a (k / (d - 1)) ≤ 15 := by unfold pd; omega
  unfold geo_Block.f
  rw [Right_pos h]; simp only [Option.bind_some]; rw [if_pos trivial, places_eq h.1]
  simp only [Option.bind_some]; rw [within_eq]
  simp only [Option.bind_some]; rw [decide_eq_true hk]
  simp only [geo_Block.j0]
  rw [if_neg (by simp), w64 (n := d - 1) (by omega) (by omega), if_neg (by omega), tdiv_nn hk.1, tmod_nn hk.1, w64 (n := k / (d - 1)) (by omega) (by omega), Parity_pos hP]
  simp only [Option.bind_some]
  rw [if_pos trivial, if_neg (by omega), w64 (n := pd d r a (k / (d - 1)) + 1) (by omega) (by omega), w64 (n := pd d r a (k / (d - 1)) + 1 + k % (d - 1)) (by omega) (by omega), tmod_nn (by omega)]; rfl
theorem Where_pos {d r s a : Int} (n : Nat) (h : GR d r s) (h0 : 1 ≤ a) (h1 : a ≤ s * pl d r) : geo_Where.f (n + 1) d r s a = some ((a - 1) / pl d r, (a - 1) % pl d r + 1, true) := by
  have hp := pl_bd h.1; have hs := spl_bd h.1
  have q0 : 0 ≤ (a - 1) / pl d r := Int.ediv_nonneg (by omega) (by omega)
  have q1 : (a - 1) / pl d r ≤ a - 1 := Int.ediv_le_self _ (by omega)
  have m0 := Int.emod_nonneg (a - 1) (show pl d r ≠ 0 by omega)
  have m1 := Int.emod_lt_of_pos (a - 1) (show 0 < pl d r by omega)
  unfold geo_Where.f
  rw [Right_pos h]; simp only [Option.bind_some]; rw [if_pos trivial, places_eq h.1]
  simp only [Option.bind_some]; rw [within_eq, w64 (n := s * pl d r) (by omega) (by omega)]
  simp only [Option.bind_some]
  rw [decide_eq_true (show 1 ≤ a ∧ a ≤ s * pl d r from ⟨h0, h1⟩)]
  simp only [geo_Where.j0]
  rw [if_neg (by simp), places_eq h.1]; simp only [Option.bind_some]; rw [if_neg (by omega), if_neg (by omega), w64 (n := a - 1) (by omega) (by omega), tdiv_nn (by omega), tmod_nn (by omega), w64 (by omega) (by omega), w64 (by omega) (by omega)]
theorem Where_neg {d r s a : Int} (n : Nat) (h : ¬ (GR d r s ∧ 1 ≤ a ∧ a ≤ s * pl d r)) : geo_Where.f (n + 1) d r s a = some (0, 0, false) := by
  unfold geo_Where.f
  by_cases hg : GR d r s
  · have hs := spl_bd hg.1
    rw [Right_pos hg]; simp only [Option.bind_some]; rw [if_pos trivial, places_eq hg.1]
    simp only [Option.bind_some]; rw [within_eq, w64 (n := s * pl d r) (by omega) (by omega)]
    simp only [Option.bind_some]
    rw [decide_eq_false (fun k => h ⟨hg, k⟩)]
    simp [geo_Where.j0]
  · rw [Right_neg hg]; simp [geo_Where.j0]
theorem where_AR {d r s a : Int} (h : GR d r s) (h0 : 1 ≤ a) (h1 : a ≤ s * pl d r) : AR d r s ((a - 1) / pl d r) ((a - 1) % pl d r + 1) ∧ (a - 1) / pl d r * pl d r + ((a - 1) % pl d r + 1) = a := by
  have hp := pl_bd h.1
  have m0 := Int.emod_nonneg (a - 1) (show pl d r ≠ 0 by omega)
  have m1 := Int.emod_lt_of_pos (a - 1) (show 0 < pl d r by omega)
  have q0 : 0 ≤ (a - 1) / pl d r := Int.ediv_nonneg (by omega) (by omega)
  have q1 : (a - 1) / pl d r < s := Int.ediv_lt_of_lt_mul (by omega) (by omega)
  have e := Int.ediv_mul_add_emod (a - 1) (pl d r)
  exact ⟨⟨h, ⟨q0, by omega⟩, by omega, by omega⟩, by omega⟩
theorem refRight_eq (d r s : Int) : moraineref03_Right.f d r s = geo_Right.f d r s := by
  unfold moraineref03_Right.f
  by_cases g : GB d r s
  · obtain ⟨h1, h2, h3, h4, h5, h6⟩ := g
    have g : GB d r s := ⟨h1, h2, h3, h4, h5, h6⟩
    rw [if_neg (by omega), if_neg (by omega), if_neg (by omega), if_neg (by omega), if_neg (by omega), if_neg (by omega), Right_eq]
    have hp := pl_bd g; have ho := ot_bd g
    have hm := mul_bd (a := ot s) (b := pl d r) (A := 9) (B := 59) (by omega) (by omega) (by omega) (by omega)
    rw [tdiv8 (by omega), w64 (n := s / 8) (by omega) (by omega), w64 (n := d - 1) (by omega) (by omega)]
    have e1 : wrap64 (1 + s / 8) = ot s := w64 (by omega) (by omega)
    have e2 : wrap64 (wrap64 (r * (d - 1)) - 1) = pl d r := by
      unfold pl at *
      rw [w64 (n := r * (d - 1)) (by omega) (by omega), w64 (by omega) (by omega)]
    rw [e1, e2, w64 (by omega) (by omega)]
    simp [GR, g]
  · rw [Right_neg (fun k => g k.1)]
    by_cases h1 : d < 3; · rw [if_pos h1]
    rw [if_neg h1]
    by_cases h2 : d > 16; · rw [if_pos h2]
    rw [if_neg h2]
    by_cases h3 : r < 1; · rw [if_pos h3]
    rw [if_neg h3]
    by_cases h4 : r > 4; · rw [if_pos h4]
    rw [if_neg h4]
    by_cases h5 : s < 12; · rw [if_pos h5]
    rw [if_neg h5]
    by_cases h6 : s > 64; · rw [if_pos h6]
    exact absurd ⟨by omega, by omega, by omega, by omega, by omega, by omega⟩ g
theorem refPlaces_eq (d r s : Int) : moraineref03_Places.f d r s = geo_Places.f d r s := by
  unfold moraineref03_Places.f; rw [refRight_eq]
  by_cases h : GR d r s
  · rw [Right_pos h, Places_pos h]; simp only [Option.bind_some]; rw [if_pos trivial]
    have hp := pl_bd h.1; have h1 := h.1.d0; have h2 := h.1.d1
    unfold pl at *
    rw [w64 (n := d - 1) (by omega) (by omega), w64 (n := r * (d - 1)) (by omega) (by omega), w64 (by omega) (by omega)]
  · rw [Right_neg h, Places_neg h]; simp
theorem alive_eq : morainelaw03_alive.f 1 = some true := by kernel_rfl
theorem alive_at (k : Nat) : morainelaw03_alive.f (k + 1) = some true := by
  induction k with
  | zero => exact alive_eq
  | succ k ih => exact morainelaw03_alive.mono _ _ ih
theorem mod_succ {d i : Int} (hd : 0 < d) : (i + 1) % d = if i % d = d - 1 then 0 else i % d + 1 := by
  have m0 := Int.emod_nonneg i (show d ≠ 0 by omega)
  have m1 := Int.emod_lt_of_pos i hd
  rw [← Int.emod_add_emod]
  split
  · rename_i h; rw [h, show d - 1 + 1 = d by omega, Int.emod_self]
  · exact Int.emod_eq_of_lt (by omega) (by omega)
theorem Block_neg1 {d r s a k : Int} (n : Nat) (h : ¬ (GR d r s ∧ 0 ≤ k ∧ k ≤ pl d r)) : geo_Block.f (n + 1) d r s a k = some (0, 0, false) := by
  unfold geo_Block.f
  by_cases hg : GR d r s
  · rw [Right_pos hg]; simp only [Option.bind_some]; rw [if_pos trivial, places_eq hg.1]
    simp only [Option.bind_some]; rw [within_eq]
    simp only [Option.bind_some]
    rw [decide_eq_false (fun hk => h ⟨hg, hk⟩)]
    simp [geo_Block.j0]
  · rw [Right_neg hg]; simp [geo_Block.j0]
theorem row_bd {d r s k : Int} (h : GR d r s) (k0 : 0 ≤ k) (k1 : k ≤ pl d r) : 0 ≤ k / (d - 1) ∧ k / (d - 1) ≤ r - 1 := by
  have h1 := h.1.d0
  refine ⟨Int.ediv_nonneg k0 (by omega), ?_⟩
  have : k / (d - 1) < r := Int.ediv_lt_of_lt_mul (by omega) (by unfold pl at *; omega)
  omega
theorem Block_neg2 {d r s a k : Int} (n : Nat) (hg : GR d r s) (k0 : 0 ≤ k) (k1 : k ≤ pl d r) (ha : ¬ (0 ≤ a ∧ a ≤ s - 1)) : geo_Block.f (n + 1) d r s a k = some (0, 0, false) := by
  have h1 := hg.1.d0; have h2 := hg.1.d1
  have hp := pl_bd hg.1
  have q0 : 0 ≤ k / (d - 1) := Int.ediv_nonneg k0 (by omega)
  have q1 : k / (d - 1) ≤ k := Int.ediv_le_self _ (by omega)
  unfold geo_Block.f
  rw [Right_pos hg]; simp only [Option.bind_some]; rw [if_pos trivial, places_eq hg.1]
  simp only [Option.bind_some]; rw [within_eq]
  simp only [Option.bind_some]; rw [decide_eq_true ⟨k0, k1⟩]
  simp only [geo_Block.j0]
  rw [if_neg (by simp), w64 (n := d - 1) (by omega) (by omega), if_neg (by omega), tdiv_nn k0, w64 (n := k / (d - 1)) (by omega) (by omega), Parity_neg (fun hP => ha hP.2.1)]
  simp
theorem refpar_loop {d r s : Int} (hd : 3 ≤ d) (hd2 : d ≤ 16) (a w : Int) (n : Nat) (hn : a * r + w = (n : Int)) (hb : 0 ≤ a * r) (hb2 : a * r ≤ 252) (hw : 0 ≤ w) (hw2 : w ≤ 3) (e : Nat) : ∀ (k i : Nat), i + e = n → e < k →
    moraineref03_Parity.l0 k a w (d - 1 - (i : Int) % d) (i : Int) d r s = some (d - 1 - (a * r + w) % d, 5 + (a * r + w), true) := by
  induction e with
  | zero =>
    intro k i hi hk
    obtain ⟨k, rfl⟩ : ∃ m, k = m + 1 := ⟨k - 1, by omega⟩
    simp only [moraineref03_Parity.l0]
    rw [w64 (n := a * r) (by omega) (by omega), w64 (n := a * r + w) (by omega) (by omega), if_neg (by omega), w64 (n := 5 + a * r) (by omega) (by omega), w64 (n := 5 + a * r + w) (by omega) (by omega)]
    have : (i : Int) = a * r + w := by omega
    rw [this, show 5 + a * r + w = 5 + (a * r + w) by omega]
  | succ e ih =>
    intro k i hi hk
    obtain ⟨k, rfl⟩ : ∃ m, k = m + 1 := ⟨k - 1, by omega⟩
    have m0 := Int.emod_nonneg (i : Int) (show d ≠ 0 by omega)
    have m1 := Int.emod_lt_of_pos (i : Int) (show 0 < d by omega)
    have hs := mod_succ (d := d) (i := (i : Int)) (by omega)
    have h := ih k (i + 1) (by omega) (by omega)
    have ec : ((i + 1 : Nat) : Int) = (i : Int) + 1 := by omega
    rw [ec, hs] at h
    simp only [moraineref03_Parity.l0]
    rw [w64 (n := a * r) (by omega) (by omega), w64 (n := a * r + w) (by omega) (by omega), if_pos (by omega), w64 (n := d - 1 - (i : Int) % d - 1) (by omega) (by omega), w64 (n := (i : Int) + 1) (by omega) (by omega), w64 (n := d - 1) (by omega) (by omega)]
    by_cases hz : (i : Int) % d = d - 1
    · rw [if_pos (by omega)]
      rw [if_pos hz] at h
      rwa [show d - 1 - 0 = d - 1 by omega] at h
    · rw [if_neg (by omega)]
      rw [if_neg hz] at h
      rwa [show d - 1 - ((i : Int) % d + 1) = d - 1 - (i : Int) % d - 1 by omega] at h
theorem refParity_pos {d r s a w : Int} (h : PR d r s a w) (k : Nat) (hk : 300 ≤ k) : moraineref03_Parity.f k d r s a w = some (pd d r a w, 5 + (a * r + w), true) := by
  have hb := str_bd h
  obtain ⟨h, ha, hw⟩ := h
  have h1 := h.1.d0; have h2 := h.1.d1; have h3 := h.1.r0; have h4 := h.1.r1
  obtain ⟨n, hn⟩ : ∃ n : Nat, a * r + w = (n : Int) := ⟨(a * r + w).toNat, by omega⟩
  obtain ⟨k, rfl⟩ : ∃ m, k = m + 1 := ⟨k - 1, by omega⟩
  unfold moraineref03_Parity.f
  rw [refRight_eq, Right_pos h]; simp only [Option.bind_some]; rw [if_pos trivial, if_neg (by omega), if_neg (by omega), if_neg (by omega), decide_eq_false (by omega)]
  simp only [moraineref03_Parity.j0]
  have := refpar_loop (d := d) (r := r) (s := s) (by omega) (by omega) a w n hn hb.1 hb.2.1 (by omega) (by omega) n k 0 (by omega) (by omega)
  rw [if_neg (by simp), w64 (n := d - 1) (by omega) (by omega)]
  rw [show ((0 : Nat) : Int) % d = 0 by simp, show d - 1 - 0 = d - 1 by omega] at this
  exact this
theorem refParity_neg {d r s a w : Int} (h : ¬ PR d r s a w) (k : Nat) (hk : 300 ≤ k) : moraineref03_Parity.f k d r s a w = some (0, 0, false) := by
  obtain ⟨k, rfl⟩ : ∃ m, k = m + 1 := ⟨k - 1, by omega⟩
  unfold moraineref03_Parity.f
  by_cases hg : GR d r s
  · rw [refRight_eq, Right_pos hg]; simp only [Option.bind_some]; rw [if_pos trivial]
    by_cases h1 : a < 0; · rw [if_pos h1]; simp [moraineref03_Parity.j0]
    rw [if_neg h1]
    by_cases h2 : a ≥ s; · rw [if_pos h2]; simp [moraineref03_Parity.j0]
    rw [if_neg h2]
    by_cases h3 : w < 0; · rw [if_pos h3]; simp [moraineref03_Parity.j0]
    rw [if_neg h3]
    by_cases h4 : w ≥ r
    · rw [decide_eq_true h4]; simp [moraineref03_Parity.j0]
    · exact absurd ⟨hg, ⟨by omega, by omega⟩, by omega, by omega⟩ h
  · rw [refRight_eq, Right_neg hg]; simp [moraineref03_Parity.j0]
theorem refblk_l1 {d r s : Int} (hd : 3 ≤ d) (hd2 : d ≤ 16) (P z : Int) (hP : 0 ≤ P) (hP2 : P < d) (m : Nat) (hm : m ≤ 100) (e : Nat) : ∀ (k i : Nat), i + e = m + 1 → e < k →
    moraineref03_Block.l1 k (m : Int) (i : Int) d r s ((P + i) % d) z = some ((P + 1 + m) % d, z, true) := by
  induction e with
  | zero =>
    intro k i hi hk
    obtain ⟨k, rfl⟩ : ∃ m, k = m + 1 := ⟨k - 1, by omega⟩
    simp only [moraineref03_Block.l1]
    rw [if_neg (by omega), show (i : Int) = m + 1 by omega, show P + ((m : Int) + 1) = P + 1 + m by omega]
  | succ e ih =>
    intro k i hi hk
    obtain ⟨k, rfl⟩ : ∃ m, k = m + 1 := ⟨k - 1, by omega⟩
    have m0 := Int.emod_nonneg (P + i) (show d ≠ 0 by omega)
    have m1 := Int.emod_lt_of_pos (P + i) (show 0 < d by omega)
    have hs := mod_succ (d := d) (i := P + i) (by omega)
    have h := ih k (i + 1) (by omega) (by omega)
    have ec : ((i + 1 : Nat) : Int) = (i : Int) + 1 := by omega
    rw [ec, show P + ((i : Int) + 1) = P + i + 1 by omega, hs] at h
    simp only [moraineref03_Block.l1]
    rw [if_pos (by omega), w64 (n := (P + i) % d + 1) (by omega) (by omega), w64 (n := (i : Int) + 1) (by omega) (by omega)]
    by_cases hz : (P + i) % d = d - 1
    · rw [if_pos (by omega)]; rwa [if_pos hz] at h
    · rw [if_neg (by omega)]; rwa [if_neg hz] at h
theorem refblk_l0 {d r s : Int} (hd : 3 ≤ d) (hd2 : d ≤ 16) (a m : Int) (hm : 0 ≤ m) (hm2 : m < d - 1) (R : Option (Int × Int × Bool)) (F : Nat) (e : Nat) : ∀ (k : Nat) (x : Int), 0 ≤ x → x + e ≤ 100 → (e : Int) * (d - 1) ≤ 100 → e + F < k →
    (∀ k', F ≤ k' → ((moraineref03_Parity.f k' d r s a (x + e)).bind fun bt160 => (if bt160.2.2 = true then (moraineref03_Block.l1 k' m 0 d r s bt160.1 bt160.2.1) else (some (0, 0, false)))) = R) →
    moraineref03_Block.l0 k a ((e : Int) * (d - 1) + m) x d r s = R := by
  induction e with
  | zero =>
    intro k x hx hx2 hy hk hR
    obtain ⟨k, rfl⟩ : ∃ m, k = m + 1 := ⟨k - 1, by omega⟩
    simp only [moraineref03_Block.l0]
    rw [w64 (n := d - 1) (by omega) (by omega), show ((0 : Nat) : Int) * (d - 1) + m = m by simp, if_neg (by omega)]
    have := hR k (by omega)
    rwa [show x + ((0 : Nat) : Int) = x by simp] at this
  | succ e ih =>
    intro k x hx hx2 hy hk hR
    obtain ⟨k, rfl⟩ : ∃ m, k = m + 1 := ⟨k - 1, by omega⟩
    have ee : ((e + 1 : Nat) : Int) * (d - 1) = (e : Int) * (d - 1) + (d - 1) := by rw [show ((e + 1 : Nat) : Int) = (e : Int) + 1 by omega, Int.add_mul, Int.one_mul]
    rw [ee] at hy ⊢
    have he : 0 ≤ (e : Int) * (d - 1) := Int.mul_nonneg (by omega) (by omega)
    simp only [moraineref03_Block.l0]
    rw [w64 (n := d - 1) (by omega) (by omega), if_pos (by omega), w64 (n := (e : Int) * (d - 1) + (d - 1) + m - (d - 1)) (by omega) (by omega), w64 (n := x + 1) (by omega) (by omega), show (e : Int) * (d - 1) + (d - 1) + m - (d - 1) = (e : Int) * (d - 1) + m by omega]
    refine ih k (x + 1) (by omega) (by omega) (by omega) (by omega) ?_
    intro k' hk'
    have := hR k' hk'
    rwa [show x + ((e + 1 : Nat) : Int) = x + 1 + (e : Int) by omega] at this
theorem refBlock_head {d r s a k : Int} (h : GR d r s) (k0 : 0 ≤ k) (k1 : k ≤ pl d r) (K : Nat) (hK : 2000 ≤ K) (R : Option (Int × Int × Bool))
    (hR : ∀ k', 1000 ≤ k' → ((moraineref03_Parity.f k' d r s a (k / (d - 1))).bind fun bt160 => (if bt160.2.2 = true then (moraineref03_Block.l1 k' (k % (d - 1)) 0 d r s bt160.1 bt160.2.1) else (some (0, 0, false)))) = R) :
    moraineref03_Block.f K d r s a k = R := by
  have h1 := h.1.d0; have h2 := h.1.d1; have hp := pl_bd h.1
  have m0 := Int.emod_nonneg k (show d - 1 ≠ 0 by omega)
  have m1 := Int.emod_lt_of_pos k (show 0 < d - 1 by omega)
  have q0 : 0 ≤ k / (d - 1) := Int.ediv_nonneg k0 (by omega)
  have q1 : k / (d - 1) ≤ k := Int.ediv_le_self _ (by omega)
  have e := Int.ediv_mul_add_emod k (d - 1)
  obtain ⟨q, hq⟩ : ∃ q : Nat, k / (d - 1) = (q : Int) := ⟨(k / (d - 1)).toNat, by omega⟩
  obtain ⟨K, rfl⟩ : ∃ m, K = m + 1 := ⟨K - 1, by omega⟩
  unfold moraineref03_Block.f
  rw [refRight_eq, Right_pos h]; simp only [Option.bind_some]; rw [if_pos trivial, if_neg (by omega), refPlaces_eq, Places_pos h]
  simp only [Option.bind_some]
  rw [decide_eq_false (by omega)]
  simp only [moraineref03_Block.j0]
  rw [if_neg (by simp)]
  have := refblk_l0 (r := r) (s := s) (by omega) h2 a (k % (d - 1)) m0 (by omega) R 1000 q K 0 (by omega) (by omega) (by rw [← hq]; omega) (by omega) (by intro k' hk'; rw [Int.zero_add, ← hq]; exact hR k' hk')
  rwa [← hq, e] at this
theorem refBlock_pos {d r s a k : Int} (h : BR d r s a k) (K : Nat) (hK : 2000 ≤ K) : moraineref03_Block.f K d r s a k = some (bd_ d r a k, 5 + (a * r + k / (d - 1)), true) := by
  have hP := row_of h
  have hb := str_bd hP
  obtain ⟨h, ha, hk⟩ := h
  have h1 := h.1.d0; have h2 := h.1.d1
  have hp := pl_bd h.1
  have m0 := Int.emod_nonneg k (show d - 1 ≠ 0 by omega)
  have m1 := Int.emod_lt_of_pos k (show 0 < d - 1 by omega)
  have hpd : 0 ≤ pd d r a (k / (d - 1)) ∧ pd d r a (k / (d - 1)) < d := by unfold pd; omega
  obtain ⟨m, hm⟩ : ∃ m : Nat, k % (d - 1) = (m : Int) := ⟨(k % (d - 1)).toNat, by omega⟩
  refine refBlock_head h hk.1 hk.2 K hK _ ?_
  intro k' hk'
  rw [refParity_pos hP k' (by omega)]
  simp only [Option.bind_some]
  rw [if_pos trivial, hm]
  have := refblk_l1 (r := r) (s := s) h1 h2 (pd d r a (k / (d - 1))) (5 + (a * r + k / (d - 1))) hpd.1 hpd.2 m (by omega) (m + 1) k' 0 (by omega) (by omega)
  rw [show pd d r a (k / (d - 1)) + ((0 : Nat) : Int) = pd d r a (k / (d - 1)) by simp, Int.emod_eq_of_lt hpd.1 hpd.2] at this
  unfold bd_
  rw [hm]
  exact this
theorem refBlock_neg2 {d r s a k : Int} (hg : GR d r s) (k0 : 0 ≤ k) (k1 : k ≤ pl d r) (ha : ¬ (0 ≤ a ∧ a ≤ s - 1)) (K : Nat) (hK : 2000 ≤ K) : moraineref03_Block.f K d r s a k = some (0, 0, false) := by
  refine refBlock_head hg k0 k1 K hK _ ?_
  intro k' hk'
  rw [refParity_neg (fun hP => ha hP.2.1) k' (by omega)]
  simp
theorem refBlock_neg1 {d r s a k : Int} (h : ¬ (GR d r s ∧ 0 ≤ k ∧ k ≤ pl d r)) (K : Nat) (hK : 2000 ≤ K) : moraineref03_Block.f K d r s a k = some (0, 0, false) := by
  obtain ⟨K, rfl⟩ : ∃ m, K = m + 1 := ⟨K - 1, by omega⟩
  unfold moraineref03_Block.f
  by_cases hg : GR d r s
  · rw [refRight_eq, Right_pos hg]; simp only [Option.bind_some]; rw [if_pos trivial]
    by_cases h1 : k < 0; · rw [if_pos h1]; simp [moraineref03_Block.j0]
    rw [if_neg h1, refPlaces_eq, Places_pos hg]
    simp only [Option.bind_some]
    rw [decide_eq_true (by rcases Int.lt_or_le (pl d r) k with h2 | h2; · exact h2
                           · exact absurd ⟨hg, by omega, h2⟩ h)]
    simp [moraineref03_Block.j0]
  · rw [refRight_eq, Right_neg hg]; simp [moraineref03_Block.j0]
theorem refAddress_eq (d r s a k : Int) : moraineref03_Address.f d r s a k = geo_Address.f d r s a k := by
  unfold moraineref03_Address.f
  by_cases hg : GR d r s
  · rw [refRight_eq, Right_pos hg]; simp only [Option.bind_some]; rw [if_pos trivial, refPlaces_eq, Places_pos hg]
    simp only [Option.bind_some]
    by_cases h1 : a < 0; · rw [if_pos h1, Address_neg (fun h => by have := h.2.1.1; omega)]
    rw [if_neg h1]
    by_cases h2 : a ≥ s; · rw [if_pos h2, Address_neg (fun h => by have := h.2.1.2; omega)]
    rw [if_neg h2]
    by_cases h3 : k < 1; · rw [if_pos h3, Address_neg (fun h => by have := h.2.2.1; omega)]
    rw [if_neg h3]
    by_cases h4 : k > pl d r; · rw [if_pos h4, Address_neg (fun h => by have := h.2.2.2; omega)]
    have hm := seg_bd (a := a) (k := k) hg.1 (by omega) (by omega) (by omega) (by have := pl_bd hg.1; omega)
    have hp := pl_bd hg.1
    rw [if_neg h4, Address_pos ⟨hg, ⟨by omega, by omega⟩, by omega, by omega⟩, w64 (n := a * pl d r) (by omega) (by omega), w64 (by omega) (by omega)]
  · rw [refRight_eq, Right_neg hg, Address_neg (fun h => hg h.1)]; simp
def whereV (d r s x : Int) : Int × Int × Bool := if 1 ≤ x ∧ x ≤ s * pl d r then ((x - 1) / pl d r, (x - 1) % pl d r + 1, true) else (0, 0, false)
theorem refwh_l1 {d r s : Int} (h : GR d r s) (x sg : Int) (s0 : 0 ≤ sg) (s1 : sg < s) (F : Nat) (hnext : ∀ k', F ≤ k' → (x < 1 ∨ x ≥ (sg + 1) * pl d r + 1) → moraineref03_Where.l0 k' x (sg + 1) d r s = some (whereV d r s x)) (e : Nat) :
    ∀ (k : Nat) (c : Int), c + e = pl d r + 1 → 1 ≤ c → e + F < k → (x < 1 ∨ x ≥ sg * pl d r + c) → moraineref03_Where.l1 k x sg c d r s = some (whereV d r s x) := by
  have hp := pl_bd h.1
  have hs0 := h.1.s0; have hs1 := h.1.s1
  induction e with
  | zero =>
    intro k c hc c1 hk hx
    obtain ⟨k, rfl⟩ : ∃ m, k = m + 1 := ⟨k - 1, by omega⟩
    simp only [moraineref03_Where.l1]
    rw [refPlaces_eq, Places_pos h]
    simp only [Option.bind_some]
    rw [if_neg (by omega), w64 (n := sg + 1) (by omega) (by omega)]
    exact hnext k (by omega) (by rw [Int.add_mul, Int.one_mul]; omega)
  | succ e ih =>
    intro k c hc c1 hk hx
    obtain ⟨k, rfl⟩ : ∃ m, k = m + 1 := ⟨k - 1, by omega⟩
    have hm := seg_bd (a := sg) (k := c) h.1 s0 (by omega) (by omega) (by omega)
    simp only [moraineref03_Where.l1]
    rw [refPlaces_eq, Places_pos h]
    simp only [Option.bind_some]
    rw [if_pos (by omega), refAddress_eq, Address_pos ⟨h, ⟨s0, by omega⟩, c1, by omega⟩]
    simp only [Option.bind_some]
    by_cases hf : sg * pl d r + c = x
    · rw [if_pos hf]
      have e1 : x - 1 = (c - 1) + sg * pl d r := by omega
      have hle : sg * pl d r + pl d r ≤ s * pl d r := by
        have := Int.mul_le_mul_of_nonneg_right (show sg + 1 ≤ s by omega) (show 0 ≤ pl d r by omega)
        rwa [Int.add_mul, Int.one_mul] at this
      unfold whereV
      rw [if_pos ⟨by omega, by omega⟩, e1, Int.add_mul_ediv_right _ _ (by omega), Int.add_mul_emod_self_right, Int.ediv_eq_zero_of_lt (by omega) (by omega), Int.emod_eq_of_lt (by omega) (by omega)]
      simp
    · rw [if_neg hf, w64 (n := c + 1) (by omega) (by omega)]
      exact ih k (c + 1) (by omega) (by omega) (by omega) (by omega)
theorem refwh_l0 {d r s : Int} (h : GR d r s) (x : Int) (e : Nat) : ∀ (k : Nat) (sg : Int), 0 ≤ sg → sg + e = s → e * 70 + 2 ≤ k → (x < 1 ∨ x ≥ sg * pl d r + 1) → moraineref03_Where.l0 k x sg d r s = some (whereV d r s x) := by
  have hp := pl_bd h.1
  induction e with
  | zero =>
    intro k sg s0 hs hk hx
    obtain ⟨k, rfl⟩ : ∃ m, k = m + 2 := ⟨k - 2, by omega⟩
    have : sg = s := by omega
    subst this
    simp only [moraineref03_Where.l0]
    rw [if_neg (by omega)]
    simp only [moraineref03_Where.j1]
    rw [if_neg (by simp)]
    unfold whereV
    rw [if_neg (by omega)]
  | succ e ih =>
    intro k sg s0 hs hk hx
    obtain ⟨k, rfl⟩ : ∃ m, k = m + 2 := ⟨k - 2, by omega⟩
    simp only [moraineref03_Where.l0]
    rw [if_pos (by omega), refRight_eq, Right_pos h]
    simp only [Option.bind_some, moraineref03_Where.j1]
    rw [if_pos trivial]
    exact refwh_l1 h x sg s0 (by omega) (e * 70 + 2) (fun k' hk' hx' => ih k' (sg + 1) (by omega) (by omega) hk' hx') (pl d r).toNat k 1 (by omega) (by omega) (by omega) (by omega)
theorem refWhere_pos {d r s x : Int} (h : GR d r s) (k : Nat) (hk : 5000 ≤ k) : moraineref03_Where.f k d r s x = some (whereV d r s x) := by
  have hs1 := h.1.s1; have hs0 := h.1.s0
  unfold moraineref03_Where.f
  exact refwh_l0 h x s.toNat k 0 (by omega) (by omega) (by omega) (by omega)
theorem refWhere_neg {d r s x : Int} (h : ¬ GR d r s) (k : Nat) (hk : 5000 ≤ k) : moraineref03_Where.f k d r s x = some (0, 0, false) := by
  unfold moraineref03_Where.f
  obtain ⟨k, rfl⟩ : ∃ m, k = m + 2 := ⟨k - 2, by omega⟩
  simp only [moraineref03_Where.l0]
  by_cases hs : 0 < s
  · rw [if_pos hs, refRight_eq, Right_neg h]; simp [moraineref03_Where.j1]
  · rw [if_neg hs]; simp [moraineref03_Where.j1]
/-- All that the law asks, with enough rounds. -/
theorem spots_facts (d r s a k x : Int) : ∃ K, ∃ b c w : Int × Int × Bool, ∃ n : Int, geo_Block.f K d r s a k = some b ∧ moraineref03_Block.f K d r s a k = some b ∧ geo_Parity.f d r s a k = some c ∧ moraineref03_Parity.f K d r s a k = some c ∧
    geo_Where.f K d r s x = some w ∧ moraineref03_Where.f K d r s x = some w ∧ geo_Address.f d r s a k = some n ∧ moraineref03_Address.f d r s a k = some n ∧ morainelaw03_alive.f K = some true := by
  obtain ⟨K, hK⟩ : ∃ K, K = 5999 + 1 := ⟨_, rfl⟩
  have hb : ∃ b, geo_Block.f K d r s a k = some b ∧ moraineref03_Block.f K d r s a k = some b := by
    by_cases h1 : GR d r s ∧ 0 ≤ k ∧ k ≤ pl d r
    · by_cases ha : 0 ≤ a ∧ a ≤ s - 1
      · exact ⟨_, by rw [hK]; exact Block_pos 5999 ⟨h1.1, ha, h1.2⟩, refBlock_pos ⟨h1.1, ha, h1.2⟩ K (by omega)⟩
      · exact ⟨_, by rw [hK]; exact Block_neg2 5999 h1.1 h1.2.1 h1.2.2 ha, refBlock_neg2 h1.1 h1.2.1 h1.2.2 ha K (by omega)⟩
    · exact ⟨_, by rw [hK]; exact Block_neg1 5999 h1, refBlock_neg1 h1 K (by omega)⟩
  have hc : ∃ c, geo_Parity.f d r s a k = some c ∧ moraineref03_Parity.f K d r s a k = some c := by
    by_cases h : PR d r s a k
    · exact ⟨_, Parity_pos h, refParity_pos h K (by omega)⟩
    · exact ⟨_, Parity_neg h, refParity_neg h K (by omega)⟩
  have hw : ∃ w, geo_Where.f K d r s x = some w ∧ moraineref03_Where.f K d r s x = some w := by
    by_cases h : GR d r s
    · refine ⟨_, ?_, refWhere_pos h K (by omega)⟩
      unfold whereV
      rw [hK]
      by_cases hx : 1 ≤ x ∧ x ≤ s * pl d r
      · rw [if_pos hx]; exact Where_pos 5999 h hx.1 hx.2
      · rw [if_neg hx]; exact Where_neg 5999 (fun hh => hx hh.2)
    · exact ⟨_, by rw [hK]; exact Where_neg 5999 (fun hh => h hh.1), refWhere_neg h K (by omega)⟩
  have hn : ∃ n, geo_Address.f d r s a k = some n := by
    by_cases h : AR d r s a k
    · exact ⟨_, Address_pos h⟩
    · exact ⟨_, Address_neg h⟩
  obtain ⟨b, b1, b2⟩ := hb
  obtain ⟨c, c1, c2⟩ := hc
  obtain ⟨w, w1, w2⟩ := hw
  obtain ⟨n, n1⟩ := hn
  exact ⟨K, b, c, w, n, b1, b2, c1, c2, w1, w2, n1, by rw [refAddress_eq]; exact n1, by rw [hK]; exact alive_at 5999⟩
end Go.Proofs.Ytoahkeabdikhcaa.Pure
