/- The pure statement of GeoRows, over whole numbers and lists alone. -/
import Derived.Test.YtoahkeabdikhcaaQGeoRowsx
import Derived.KernelRfl
namespace Go.Proofs.Ytoahkeabdikhcaa.Pure
open Go.RowKit Go.Proofs.Ytoahkeabdikhcaa.PGeoRows Go.Proofs.YtoahkeabdikhcaaW.PrintWords Go.Proofs.YtoahkeabdikhcaaW.PrintLast
set_option linter.unusedVariables false
theorem w64 {n : Int} (h0 : -9223372036854775808 ≤ n) (h1 : n ≤ 9223372036854775807) : wrap64 n = n := by unfold wrap64; omega
theorem mul_bd {a b A B : Int} (h0 : 0 ≤ a) (h1 : a ≤ A) (h2 : 0 ≤ b) (h3 : b ≤ B) : 0 ≤ a * b ∧ a * b ≤ A * B :=
  ⟨Int.mul_nonneg h0 h2, Int.mul_le_mul h1 h3 h2 (by omega)⟩
def pl (d r : Int) : Int := r * (d - 1) - 1
def ot (s : Int) : Int := 1 + s / 8
structure GB (d r s : Int) : Prop where
  d0 : 3 ≤ d
  d1 : d ≤ 16
  r0 : 1 ≤ r
  r1 : r ≤ 4
  s0 : 12 ≤ s
  s1 : s ≤ 64
def GR (d r s : Int) : Prop := GB d r s ∧ ot s * pl d r ≥ 8
theorem pl_bd {d r s : Int} (h : GB d r s) : 1 ≤ pl d r ∧ pl d r ≤ 59 := by
  obtain ⟨h1, h2, h3, h4, h5, h6⟩ := h
  unfold pl
  rcases (by omega : r = 1 ∨ r = 2 ∨ r = 3 ∨ r = 4) with rfl | rfl | rfl | rfl <;> omega
theorem ot_bd {d r s : Int} (h : GB d r s) : 2 ≤ ot s ∧ ot s ≤ 9 := by
  obtain ⟨h1, h2, h3, h4, h5, h6⟩ := h
  unfold ot; omega
theorem tdiv8 {s : Int} (h : 0 ≤ s) : Int.tdiv s 8 = s / 8 := Int.tdiv_eq_ediv_of_nonneg h
theorem within_eq (a b c : Int) : geo_within.f a b c = some (decide (b ≤ a ∧ a ≤ c)) := by
  unfold geo_within.f
  by_cases h : b ≤ a <;> simp [h]
theorem others_eq {d r s : Int} (h : GB d r s) : geo_others.f d r s = some (ot s) := by
  have h5 := h.s0; have h6 := h.s1
  unfold geo_others.f ot
  rw [tdiv8 (by omega), w64 (n := s / 8) (by omega) (by omega), w64 (by omega) (by omega)]
theorem places_eq {d r s : Int} (h : GB d r s) : geo_places.f d r s = some (pl d r) := by
  have h3 := pl_bd h
  have h1 := h.d0; have h2 := h.d1
  unfold geo_places.f
  unfold pl at *
  rw [w64 (n := d - 1) (by omega) (by omega), w64 (n := r * (d - 1)) (by omega) (by omega), w64 (by omega) (by omega)]
open Classical in
theorem Right_eq (d r s : Int) : geo_Right.f d r s = some (decide (GR d r s)) := by
  unfold geo_Right.f
  rw [within_eq, within_eq, within_eq]
  simp only [Option.bind_some]
  by_cases h1 : 3 ≤ d ∧ d ≤ 16
  · by_cases h2 : 1 ≤ r ∧ r ≤ 4
    · by_cases h3 : 12 ≤ s ∧ s ≤ 64
      · have hb : GB d r s := ⟨h1.1, h1.2, h2.1, h2.2, h3.1, h3.2⟩
        rw [if_pos (decide_eq_true h1), if_pos (decide_eq_true h2), if_pos (decide_eq_true h3), others_eq hb, places_eq hb]
        simp only [Option.bind_some]
        have hp := pl_bd hb; have ho := ot_bd hb
        have hm := mul_bd (a := ot s) (b := pl d r) (A := 9) (B := 59) (by omega) (by omega) (by omega) (by omega)
        rw [w64 (by omega) (by omega)]
        simp [GR, hb]
      · have : ¬ GR d r s := fun g => h3 ⟨g.1.s0, g.1.s1⟩
        rw [if_pos (decide_eq_true h1), if_pos (decide_eq_true h2), if_neg (by simpa using h3)]; simp [this]
    · have : ¬ GR d r s := fun g => h2 ⟨g.1.r0, g.1.r1⟩
      rw [if_pos (decide_eq_true h1), if_neg (by simpa using h2)]; simp [this]
  · have : ¬ GR d r s := fun g => h1 ⟨g.1.d0, g.1.d1⟩
    rw [if_neg (by simpa using h1)]; simp [this]
theorem Right_pos {d r s : Int} (h : GR d r s) : geo_Right.f d r s = some true := by rw [Right_eq]; simp [h]
theorem Right_neg {d r s : Int} (h : ¬ GR d r s) : geo_Right.f d r s = some false := by rw [Right_eq]; simp [h]
def cp (s : Int) : Int := (s - 2 - 2 * ot s) / 3
theorem cp_bd {d r s : Int} (h : GB d r s) : 2 ≤ cp s ∧ cp s ≤ 64 ∧ 3 * cp s + 2 * ot s + 2 ≤ s := by
  have h5 := h.s0; have h6 := h.s1
  unfold cp ot; omega
theorem Caps_pos {d r s : Int} (h : GR d r s) : geo_Caps.f d r s = some (cp s, ot s) := by
  have h5 := h.1.s0; have h6 := h.1.s1; have ho := ot_bd h.1
  have e : 0 ≤ s - 2 - 2 * ot s := by unfold ot; omega
  unfold geo_Caps.f cp
  rw [Right_pos h]; simp only [Option.bind_some]; rw [if_pos trivial, others_eq h.1]; simp only [Option.bind_some]
  rw [w64 (n := s - 2) (by omega) (by omega), w64 (n := 2 * ot s) (by omega) (by omega), w64 (n := s - 2 - 2 * ot s) (by omega) (by omega), Int.tdiv_eq_ediv_of_nonneg e, w64 (by omega) (by omega)]
theorem Caps_neg {d r s : Int} (h : ¬ GR d r s) : geo_Caps.f d r s = some (0, 0) := by
  unfold geo_Caps.f
  rw [Right_neg h]; simp only [Option.bind_some]; rw [if_neg (by simp)]
theorem Places_pos {d r s : Int} (h : GR d r s) : geo_Places.f d r s = some (pl d r) := by
  unfold geo_Places.f
  rw [Right_pos h]; simp only [Option.bind_some]; rw [if_pos trivial, places_eq h.1]; rfl
theorem Places_neg {d r s : Int} (h : ¬ GR d r s) : geo_Places.f d r s = some 0 := by
  unfold geo_Places.f
  rw [Right_neg h]; simp only [Option.bind_some]; rw [if_neg (by simp)]
theorem Sectors_pos {d r s : Int} (h : GR d r s) : geo_Sectors.f d r s = some (5 + s * r) := by
  have hm := mul_bd (a := s) (b := r) (A := 64) (B := 4) (by have := h.1.s0; omega) h.1.s1 (by have := h.1.r0; omega) h.1.r1
  unfold geo_Sectors.f
  rw [Right_pos h]; simp only [Option.bind_some]; rw [if_pos trivial, w64 (n := s * r) (by omega) (by omega), w64 (by omega) (by omega)]
theorem Sectors_neg {d r s : Int} (h : ¬ GR d r s) : geo_Sectors.f d r s = some 0 := by
  unfold geo_Sectors.f
  rw [Right_neg h]; simp only [Option.bind_some]; rw [if_neg (by simp)]
theorem seg_bd {d r s a k : Int} (h : GB d r s) (a0 : 0 ≤ a) (a1 : a ≤ s - 1) (k0 : 0 ≤ k) (k1 : k ≤ 100) : 0 ≤ a * pl d r ∧ a * pl d r ≤ 63 * 59 ∧ 0 ≤ a * pl d r + k := by
  have hp := pl_bd h; have h6 := h.s1
  have hm := mul_bd (a := a) (b := pl d r) (A := 63) (B := 59) a0 (by omega) (by omega) (by omega)
  omega
def AR (d r s a k : Int) : Prop := GR d r s ∧ (0 ≤ a ∧ a ≤ s - 1) ∧ (1 ≤ k ∧ k ≤ pl d r)
theorem Address_pos {d r s a k : Int} (h : AR d r s a k) : geo_Address.f d r s a k = some (a * pl d r + k) := by
  obtain ⟨h, ha, hk⟩ := h
  have hp := pl_bd h.1; have hs := h.1.s1; have hs0 := h.1.s0
  have hm := seg_bd (a := a) (k := k) h.1 ha.1 ha.2 (by omega) (by omega)
  unfold geo_Address.f
  rw [Right_pos h]; simp only [Option.bind_some]; rw [if_pos trivial, w64 (n := s - 1) (by omega) (by omega), within_eq]
  simp only [Option.bind_some]; rw [if_pos (decide_eq_true ha), places_eq h.1]
  simp only [Option.bind_some]; rw [within_eq]
  simp only [Option.bind_some]; rw [if_pos (decide_eq_true hk), w64 (n := a * pl d r) (by omega) (by omega), w64 (by omega) (by omega)]
theorem Address_neg {d r s a k : Int} (h : ¬ AR d r s a k) : geo_Address.f d r s a k = some 0 := by
  unfold geo_Address.f
  by_cases hg : GR d r s
  · have hs := hg.1.s1; have hs0 := hg.1.s0
    rw [Right_pos hg]; simp only [Option.bind_some]; rw [if_pos trivial, w64 (n := s - 1) (by omega) (by omega), within_eq]
    simp only [Option.bind_some]
    by_cases ha : 0 ≤ a ∧ a ≤ s - 1
    · rw [if_pos (decide_eq_true ha), places_eq hg.1]
      simp only [Option.bind_some]; rw [within_eq]
      simp only [Option.bind_some]; rw [if_neg (by simp only [decide_eq_true_eq]; exact fun hk => h ⟨hg, ha, hk⟩)]
    · rw [if_neg (by simpa using ha)]
  · rw [Right_neg hg]; simp only [Option.bind_some]; rw [if_neg (by simp)]
theorem tmod_nn {a b : Int} (h : 0 ≤ a) : Int.tmod a b = a % b := Int.tmod_eq_emod_of_nonneg h
theorem tdiv_nn {a b : Int} (h : 0 ≤ a) : Int.tdiv a b = a / b := Int.tdiv_eq_ediv_of_nonneg h
theorem spl_bd {d r s : Int} (h : GB d r s) : 0 ≤ s * pl d r ∧ s * pl d r ≤ 64 * 59 := by
  have hp := pl_bd h
  exact mul_bd (by have := h.s0; omega) h.s1 (by omega) hp.2
theorem alive_eq : morainelaw03_alive.f 1 = some true := by kernel_rfl
theorem alive_at (k : Nat) : morainelaw03_alive.f (k + 1) = some true := by
  induction k with
  | zero => exact alive_eq
  | succ k ih => exact morainelaw03_alive.mono _ _ ih
def PR (d r s a w : Int) : Prop := GR d r s ∧ (0 ≤ a ∧ a ≤ s - 1) ∧ (0 ≤ w ∧ w ≤ r - 1)
theorem str_bd {d r s a w : Int} (h : PR d r s a w) : 0 ≤ a * r ∧ a * r ≤ 63 * 4 ∧ 0 ≤ (a * r + w) % d ∧ (a * r + w) % d < d := by
  obtain ⟨h, ha, hw⟩ := h
  have h6 := h.1.s1; have h1 := h.1.d0
  have hm := mul_bd (a := a) (b := r) (A := 63) (B := 4) ha.1 (by omega) (by omega) h.1.r1
  exact ⟨hm.1, hm.2, Int.emod_nonneg _ (by omega), Int.emod_lt_of_pos _ (by omega)⟩
def pd (d r a w : Int) : Int := d - 1 - (a * r + w) % d
theorem Parity_pos {d r s a w : Int} (h : PR d r s a w) : geo_Parity.f d r s a w = some (pd d r a w, 5 + (a * r + w), true) := by
  have hb := str_bd h
  obtain ⟨h, ha, hw⟩ := h
  have h1 := h.1.d0; have h2 := h.1.d1; have h3 := h.1.r0; have h4 := h.1.r1; have h5 := h.1.s0; have h6 := h.1.s1
  unfold geo_Parity.f pd
  rw [Right_pos h]; simp only [Option.bind_some]; rw [if_pos trivial, w64 (n := s - 1) (by omega) (by omega), within_eq]
  simp only [Option.bind_some]; rw [if_pos (decide_eq_true ha), w64 (n := r - 1) (by omega) (by omega), within_eq]
  simp only [Option.bind_some]; rw [if_pos (decide_eq_true hw), if_neg (by omega), w64 (n := d - 1) (by omega) (by omega), w64 (n := a * r) (by omega) (by omega), w64 (n := a * r + w) (by omega) (by omega), tmod_nn (by omega),
    w64 (n := d - 1 - (a * r + w) % d) (by omega) (by omega), w64 (n := 5 + (a * r + w)) (by omega) (by omega)]
theorem Parity_neg {d r s a w : Int} (h : ¬ PR d r s a w) : geo_Parity.f d r s a w = some (0, 0, false) := by
  unfold geo_Parity.f
  by_cases hg : GR d r s
  · have h3 := hg.1.r0; have h4 := hg.1.r1; have h5 := hg.1.s0; have h6 := hg.1.s1
    rw [Right_pos hg]; simp only [Option.bind_some]; rw [if_pos trivial, w64 (n := s - 1) (by omega) (by omega), within_eq]
    simp only [Option.bind_some]
    by_cases ha : 0 ≤ a ∧ a ≤ s - 1
    · rw [if_pos (decide_eq_true ha), w64 (n := r - 1) (by omega) (by omega), within_eq]
      simp only [Option.bind_some]; rw [if_neg (by simp only [decide_eq_true_eq]; exact fun hw => h ⟨hg, ha, hw⟩)]
    · rw [if_neg (by simpa using ha)]
  · rw [Right_neg hg]; simp only [Option.bind_some]; rw [if_neg (by simp)]
def BR (d r s a k : Int) : Prop := GR d r s ∧ (0 ≤ a ∧ a ≤ s - 1) ∧ (0 ≤ k ∧ k ≤ pl d r)
theorem row_of {d r s a k : Int} (h : BR d r s a k) : PR d r s a (k / (d - 1)) := by
  obtain ⟨h, ha, hk⟩ := h
  have h1 := h.1.d0
  have hp := pl_bd h.1
  refine ⟨h, ha, Int.ediv_nonneg hk.1 (by omega), ?_⟩
  have : k / (d - 1) < r := Int.ediv_lt_of_lt_mul (by omega) (by unfold pl at *; omega)
  omega
def bd_ (d r a k : Int) : Int := (pd d r a (k / (d - 1)) + 1 + k % (d - 1)) % d
theorem Block_pos {d r s a k : Int} (n : Nat) (h : BR d r s a k) : geo_Block.f (n + 1) d r s a k = some (bd_ d r a k, 5 + (a * r + k / (d - 1)), true) := by
  have hP := row_of h
  have hb := str_bd hP
  obtain ⟨h, ha, hk⟩ := h
  have h1 := h.1.d0; have h2 := h.1.d1
  have hp := pl_bd h.1
  have m0 := Int.emod_nonneg k (show d - 1 ≠ 0 by omega)
  have m1 := Int.emod_lt_of_pos k (show 0 < d - 1 by omega)
  have q0 : 0 ≤ k / (d - 1) := Int.ediv_nonneg hk.1 (by omega)
  have q1 : k / (d - 1) ≤ k := Int.ediv_le_self _ (by omega)
  have hpd : 0 ≤ pd d r a (k / (d - 1)) ∧ pd d r a (k / (d - 1)) ≤ 15 := by unfold pd; omega
  unfold geo_Block.f
  rw [Right_pos h]; simp only [Option.bind_some]; rw [if_pos trivial, places_eq h.1]
  simp only [Option.bind_some]; rw [within_eq]
  simp only [Option.bind_some]; rw [decide_eq_true hk]
  simp only [geo_Block.j0]
  rw [if_neg (by simp), w64 (n := d - 1) (by omega) (by omega), if_neg (by omega), tdiv_nn hk.1, tmod_nn hk.1, w64 (n := k / (d - 1)) (by omega) (by omega), Parity_pos hP]
  simp only [Option.bind_some]
  rw [if_pos trivial, if_neg (by omega), w64 (n := pd d r a (k / (d - 1)) + 1) (by omega) (by omega), w64 (n := pd d r a (k / (d - 1)) + 1 + k % (d - 1)) (by omega) (by omega), tmod_nn (by omega)]; rfl
/-- The loop over one row's blocks, the block's disk written out. -/
def sim : Nat → Int → Int → Int → Int → Option Bool
  | 0, _, _, _, _ => none
  | n + 1, d, P, x9, c => if c < d - 1 then (if (Go.bits .and .i64 (shr .i64 x9 (IntKind.u64.wrap ((P + 1 + c) % d))) 1) = 1 then some false else sim n d P (Go.bits .or .i64 x9 (shl .i64 1 (IntKind.u64.wrap ((P + 1 + c) % d)))) (c + 1)) else some (x9 == (wrap64 ((shl .i64 1 (IntKind.u64.wrap d)) - 1)))
theorem sim_true : ∀ d : Fin 17, ∀ P : Fin 16, 3 ≤ d.val → P.val < d.val → sim 20 (d.val : Int) (P.val : Int) (shl .i64 1 (IntKind.u64.wrap (P.val : Int))) 0 = some true := by decide +kernel
theorem at_c {d r s a w c : Int} (h : PR d r s a w) (c0 : 0 ≤ c) (c1 : c < d - 1) : BR d r s a (w * (d - 1) + c) ∧ (w * (d - 1) + c) / (d - 1) = w ∧ (w * (d - 1) + c) % (d - 1) = c ∧ 0 ≤ w * (d - 1) ∧ w * (d - 1) + c ≤ 59 := by
  obtain ⟨h, ha, hw⟩ := h
  have h1 := h.1.d0
  have hp := pl_bd h.1
  have hm : 0 ≤ w * (d - 1) := Int.mul_nonneg hw.1 (by omega)
  have hle : (w + 1) * (d - 1) ≤ r * (d - 1) := Int.mul_le_mul_of_nonneg_right (by omega) (by omega)
  rw [Int.add_mul, Int.one_mul] at hle
  have hk : w * (d - 1) + c ≤ pl d r := by unfold pl; omega
  refine ⟨⟨h, ha, by omega, hk⟩, ?_, ?_, hm, by omega⟩
  · rw [Int.add_comm, Int.add_mul_ediv_right _ _ (by omega), Int.ediv_eq_zero_of_lt c0 c1]; omega
  · rw [Int.add_comm, Int.add_mul_emod_self_right, Int.emod_eq_of_lt c0 c1]
theorem sim_row {d r s a w : Int} (h : PR d r s a w) (m : Nat) : ∀ (k : Nat) (x9 c : Int) (b : Bool), 0 ≤ c → sim m d (pd d r a w) x9 c = some b → m < k → morainelaw03_GeoRows.l0 (k + 1) a w x9 c d r s (pd d r a w) (5 + (a * r + w)) = some b := by
  have h1 := h.1.1.d0; have h2 := h.1.1.d1
  induction m with
  | zero => intro k x9 c b _ hs; simp [sim] at hs
  | succ m ih =>
    intro k x9 c b h0 hs hk
    simp only [sim] at hs
    simp only [morainelaw03_GeoRows.l0]
    obtain ⟨k, rfl⟩ : ∃ j, k = j + 1 := ⟨k - 1, by omega⟩
    rw [w64 (n := d - 1) (by omega) (by omega)]
    by_cases hc : c < d - 1
    · rw [if_pos hc] at hs ⊢
      obtain ⟨hB, e1, e2, b0, b1⟩ := at_c h h0 hc
      rw [w64 (n := w * (d - 1)) (by omega) (by omega), w64 (n := w * (d - 1) + c) (by omega) (by omega), Block_pos k hB]
      have hbd : bd_ d r a (w * (d - 1) + c) = (pd d r a w + 1 + c) % d := by unfold bd_; rw [e1, e2]
      simp only [Option.bind_some]
      rw [if_pos trivial, e1, if_pos rfl, hbd]
      have hu : 0 ≤ IntKind.u64.wrap ((pd d r a w + 1 + c) % d) := by
        have m0 := Int.emod_nonneg (pd d r a w + 1 + c) (show d ≠ 0 by omega)
        simp only [IntKind.wrap, IntKind.signed, IntKind.bits]
        simp
        omega
      rw [if_pos hu]
      split at hs
      · rename_i ht; rw [if_pos ht]; exact hs
      · rename_i ht; rw [if_neg ht, w64 (n := c + 1) (by omega) (by omega)]; exact ih k _ (c + 1) b (by omega) hs (by omega)
    · rw [if_neg hc] at hs ⊢
      have hu : 0 ≤ IntKind.u64.wrap d := by
        simp only [IntKind.wrap, IntKind.signed, IntKind.bits]
        simp
        omega
      rw [if_pos hu]; exact hs
theorem GeoRows (d r s a w : Int) (w0 : (Lit.int .i64 d).wf = true) (w1 : (Lit.int .i64 r).wf = true) (w2 : (Lit.int .i64 s).wf = true) (w3 : (Lit.int .i64 a).wf = true) (w4 : (Lit.int .i64 w).wf = true) : ∃ k, morainelaw03_GeoRows.f k d r s a w = some true := by
  refine ⟨23, ?_⟩
  unfold morainelaw03_GeoRows.f
  rw [alive_at]; simp only [Option.bind_some]; rw [if_pos trivial]
  by_cases h : PR d r s a w
  · have hb := str_bd h
    have h1 := h.1.1.d0; have h2 := h.1.1.d1
    rw [Parity_pos h]; simp only [Option.bind_some]; rw [if_pos trivial]
    have hpd : 0 ≤ pd d r a w ∧ pd d r a w < d := by unfold pd; omega
    have hu : 0 ≤ IntKind.u64.wrap (pd d r a w) := by
      simp only [IntKind.wrap, IntKind.signed, IntKind.bits]
      simp
      omega
    rw [if_pos hu]
    have hs := sim_true ⟨d.toNat, by omega⟩ ⟨(pd d r a w).toNat, by omega⟩ (by show 3 ≤ d.toNat; omega) (by show (pd d r a w).toNat < d.toNat; omega)
    simp only at hs
    rw [Int.toNat_of_nonneg (by omega), Int.toNat_of_nonneg hpd.1] at hs
    exact sim_row h 20 22 _ 0 true (by omega) hs (by omega)
  · rw [Parity_neg h]; simp only [Option.bind_some]; rw [if_neg (by simp)]
    by_cases hg : GR d r s
    · rw [Right_pos hg]; simp only [Option.bind_some]; rw [if_pos trivial]
      by_cases c1 : a < 0; · rw [if_pos c1]
      rw [if_neg c1]
      by_cases c2 : a ≥ s; · rw [if_pos c2]
      rw [if_neg c2]
      by_cases c3 : w < 0; · rw [if_pos c3]
      rw [if_neg c3]
      have : w ≥ r := by
        by_cases k : w ≥ r
        · exact k
        · exact absurd ⟨hg, ⟨by omega, by omega⟩, by omega, by omega⟩ h
      rw [decide_eq_true this]
    · rw [Right_neg hg]; simp
end Go.Proofs.Ytoahkeabdikhcaa.Pure
