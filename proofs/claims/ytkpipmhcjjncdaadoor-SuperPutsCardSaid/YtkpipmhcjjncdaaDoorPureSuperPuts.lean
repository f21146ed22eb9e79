/- Plain laws over whole numbers and lists: PureSuperPuts. -/
import Derived.Test.YtkpipmhcjjncdaaDoorQSuperPutsx
import Derived.KernelRfl
import Derived.Laws.BitsLemmas
import Derived.Laws.BitsAllLaws
namespace Go.Proofs.YtkpipmhcjjncdaaDoor.Pure
open Go.RowKit Go.Proofs.YtkpipmhcjjncdaaDoor.PSuperPuts Go.Proofs.YtkpipmhcjjncdaaDoor.Given Go.Proofs.YtkpipmhcjjncdaaDoorW.PrintWords Go.Proofs.YtkpipmhcjjncdaaDoorW.PrintLast Go.Proofs.YtkpipmhcjjncdaaDoorW.PrintMore
set_option linter.unusedVariables false
set_option linter.unusedSimpArgs false
theorem w64 {n : Int} (h0 : -9223372036854775808 ≤ n) (h1 : n ≤ 9223372036854775807) : wrap64 n = n := by unfold wrap64; omega
theorem i64_bd {n : Int} (h : (Lit.int .i64 n).wf = true) : -9223372036854775808 ≤ n ∧ n ≤ 9223372036854775807 := by simpa [Lit.wf, IntKind.min, IntKind.max, IntKind.signed, IntKind.bits] using h
theorem u8_bd {n : Int} (h : (Lit.int .u8 n).wf = true) : 0 ≤ n ∧ n ≤ 255 := by simpa [Lit.wf, IntKind.min, IntKind.max, IntKind.signed, IntKind.bits] using h
theorem rd_get {xs : List Int} {i : Nat} (h : i < xs.length) : rd xs (i : Int) = xs[i] := by simp [rd, h]
theorem same_loop (x y : List Int) (hl : x.length = y.length) (hn : x.length ≤ 140737488355328) (d : Nat) : ∀ (k i : Nat), i + d = x.length → d < k →
    moraineref00_SameBytes.l0 k x y (i : Int) = some (decide (x.drop i = y.drop i)) := by
  induction d with
  | zero =>
    intro k i hi hk
    obtain ⟨k, rfl⟩ : ∃ m, k = m + 1 := ⟨k - 1, by omega⟩
    simp only [moraineref00_SameBytes.l0]
    rw [if_neg (by omega), List.drop_of_length_le (by omega), List.drop_of_length_le (by omega)]; simp
  | succ d ih =>
    intro k i hi hk
    obtain ⟨k, rfl⟩ : ∃ m, k = m + 1 := ⟨k - 1, by omega⟩
    simp only [moraineref00_SameBytes.l0]
    rw [if_pos (by omega), if_pos (by omega), if_pos (by omega), rd_get (show i < x.length by omega), rd_get (show i < y.length by omega)]
    have ex : x.drop i = x[i] :: x.drop (i + 1) := List.drop_eq_getElem_cons (by omega)
    have ey : y.drop i = y[i] :: y.drop (i + 1) := List.drop_eq_getElem_cons (by omega)
    by_cases h : x[i] = y[i]
    · rw [if_pos h, w64 (by omega) (by omega)]
      have := ih k (i + 1) (by omega) (by omega)
      rw [show ((i : Int) + 1) = ((i + 1 : Nat) : Int) by omega, this]
      exact congrArg some (decide_eq_decide.2 ⟨fun e => by rw [ex, ey, h, e], fun e => by rw [ex, ey] at e; exact (List.cons.inj e).2⟩)
    · rw [if_neg h, decide_eq_false (fun e => by rw [ex, ey] at e; exact h (List.cons.inj e).1)]
theorem same_eq (x y : List Int) (hn : x.length ≤ 140737488355328) (k : Nat) (hk : x.length < k) : moraineref00_SameBytes.f k x y = some (decide (x = y)) := by
  unfold moraineref00_SameBytes.f
  by_cases hl : x.length = y.length
  · rw [if_pos (by omega)]
    have := same_loop x y hl hn x.length k 0 (by omega) hk
    simpa using this
  · rw [if_neg (by omega)]
    have : x ≠ y := fun e => hl (by rw [e])
    simp [this]
def Byt (l : List Int) : Prop := ∀ x ∈ l, 0 ≤ x ∧ x ≤ 255
theorem rd_byt {l : List Int} (h : Byt l) (i : Int) : 0 ≤ rd l i ∧ rd l i ≤ 255 := by
  unfold rd
  by_cases hi : i.toNat < l.length
  · rw [List.getD_eq_getElem?_getD, List.getElem?_eq_getElem hi]; exact h _ (List.getElem_mem hi)
  · rw [List.getD_eq_getElem?_getD, List.getElem?_eq_none (by omega)]; simp
theorem or_sum (j i : Nat) (x y : Int) (hj : j ≤ 62) (hx0 : 0 ≤ x) (hx : x % 2 ^ i = 0) (hx1 : x < 2 ^ j) (hy0 : 0 ≤ y) (hy : y < 2 ^ i) (hy1 : y < 2 ^ j) : Go.bits .or .i64 y x = y + x := by
  have hc : Go.bits .or .i64 y x = Go.bits .or .i64 x y := by simp only [Go.bits, BitVec.or_comm]
  rw [hc, bits_join .i64 j (by show j ≤ 64; omega) (fun n h0 h1 => by
    have : (2 : Int) ^ j ≤ 2 ^ 62 := by exact_mod_cast Nat.pow_le_pow_right (by omega) hj
    have h3 : n < (2 : Int) ^ 62 := Int.lt_of_lt_of_le h1 this
    have e62 : (2 : Int) ^ 62 = 4611686018427387904 := by kernel_rfl
    have h2 : n < 4611686018427387904 := by rw [e62] at h3; exact h3
    clear this h3 e62
    show IntKind.i64.wrap n = n
    simp only [IntKind.wrap, IntKind.signed, IntKind.bits]
    simp
    omega) i x y hx0 hx hx1 hy0 hy hy1]
  omega
theorem shl_at {c : Int} (i m : Nat) (h0 : 0 ≤ c) (h1 : c ≤ 255) (hm : m = 2 ^ i) (hi : i ≤ 24) : shl .i64 c (i : Int) = c * m := by
  unfold shl
  have e : min (i : Int).toNat IntKind.i64.bits = i := by show min i 64 = i; omega
  rw [e]
  have hp : (2 : Int) ^ i = (m : Int) := by rw [hm]; simp
  rw [hp]
  have hle0 : m ≤ 16777216 := by rw [hm]; exact Nat.pow_le_pow_right (by omega) hi
  have hle : (m : Int) ≤ 16777216 := by omega
  have hb : 0 ≤ c * (m : Int) ∧ c * (m : Int) ≤ 255 * 16777216 := ⟨Int.mul_nonneg h0 (by omega), Int.mul_le_mul h1 hle (by omega) (by omega)⟩
  simp only [IntKind.wrap, IntKind.signed, IntKind.bits]
  simp
  omega
/-- The number that the first w bytes tell. -/
def getL (s : List Int) : Nat → Int
  | 0 => 0
  | i + 1 => getL s i + rd s (i : Int) * 2 ^ (8 * i)
theorem getL_bd {s : List Int} (hs : Byt s) (i : Nat) : 0 ≤ getL s i ∧ getL s i < 2 ^ (8 * i) := by
  induction i with
  | zero => simp [getL]
  | succ i ih =>
    have hb := rd_byt hs (i : Int)
    have hp : (0 : Int) < 2 ^ (8 * i) := Int.pow_pos (by omega)
    have e : (2 : Int) ^ (8 * (i + 1)) = 2 ^ (8 * i) * 256 := by rw [show 8 * (i + 1) = 8 * i + 8 by omega, Int.pow_add]; rfl
    have h1 : 0 ≤ rd s (i : Int) * 2 ^ (8 * i) := Int.mul_nonneg hb.1 (by omega)
    have h2 : rd s (i : Int) * 2 ^ (8 * i) ≤ 255 * 2 ^ (8 * i) := Int.mul_le_mul_of_nonneg_right hb.2 (by omega)
    simp only [getL]
    omega
theorem sub_byt {b : List Int} (h : Byt b) (at_ w : Int) : Byt (sub b at_ w) := fun x hx => h x (List.mem_of_mem_take (List.mem_of_mem_drop hx))
theorem getV_eq {s : List Int} (hs : Byt s) (i : Nat) (hi : i ≤ 4) : getV s i = getL s i := by
  induction i with
  | zero => rfl
  | succ i ih =>
    have hb := rd_byt hs (i : Int)
    have hl := getL_bd hs i
    have hm : (2 ^ (8 * i) : Nat) ≤ 16777216 := Nat.pow_le_pow_right (by omega) (show 8 * i ≤ 24 by omega)
    have hp : ((2 : Int) ^ (8 * i)) = ((2 ^ (8 * i) : Nat) : Int) := by simp
    simp only [getV, getL]
    rw [ih (by omega), w64 (n := rd s (i : Int)) (by omega) (by omega), shl_at (c := rd s (i : Int)) (8 * i) (2 ^ (8 * i)) hb.1 hb.2 rfl (by omega)]
    generalize hM : 2 ^ (8 * i) = M at *
    have hb2 : 0 ≤ rd s (i : Int) * (M : Int) ∧ rd s (i : Int) * (M : Int) ≤ 255 * 16777216 := ⟨Int.mul_nonneg hb.1 (by omega), Int.mul_le_mul hb.2 (by omega) (by omega) (by omega)⟩
    rw [hp] at hl ⊢
    exact or_sum 40 (8 * i) _ _ (by omega) hb2.1 (by rw [hp]; exact Int.mul_emod_left _ _) (by omega) hl.1 (by rw [hp]; exact hl.2) (by omega)
theorem putAt1 (n : Int) : putAt n 1 1 = [n % 256] := by
  show [shr .i64 n ((8 * 0 : Nat) : Int) % 256] = _
  rw [sh0]
theorem putAt2 (n : Int) : putAt n 2 2 = [n % 256, n / 256 % 256] := by
  show [shr .i64 n ((8 * 0 : Nat) : Int) % 256, shr .i64 n ((8 * 1 : Nat) : Int) % 256] = _
  rw [sh0, sh1]
theorem putAt3 (n : Int) : putAt n 3 3 = [n % 256, n / 256 % 256, n / 65536 % 256] := by
  show [shr .i64 n ((8 * 0 : Nat) : Int) % 256, shr .i64 n ((8 * 1 : Nat) : Int) % 256, shr .i64 n ((8 * 2 : Nat) : Int) % 256] = _
  rw [sh0, sh1, sh2]
theorem putAt4 (n : Int) : putAt n 4 4 = [n % 256, n / 256 % 256, n / 65536 % 256, n / 16777216 % 256] := by
  show [shr .i64 n ((8 * 0 : Nat) : Int) % 256, shr .i64 n ((8 * 1 : Nat) : Int) % 256, shr .i64 n ((8 * 2 : Nat) : Int) % 256, shr .i64 n ((8 * 3 : Nat) : Int) % 256] = _
  rw [sh0, sh1, sh2, sh3]
theorem putAt_byt (n : Int) (w : Nat) : Byt (putAt n w w) := by
  intro x hx
  simp only [putAt, List.mem_map, List.mem_range] at hx
  obtain ⟨i, hi, rfl⟩ := hx
  rw [if_pos hi]; omega
theorem put_eq {w n : Int} (h : n ≤ 9223372036854775807) : bits_Put.f w n = some (if okPut w n then putAt n w.toNat w.toNat else []) := by
  unfold bits_Put.f; rw [if_neg (by omega)]
/-- What is put is got again. -/
theorem put_get {w n : Int} (h : okPut w n) : getL (putAt n w.toNat w.toNat) w.toNat = n := by
  rcases h with ⟨rfl, h0, h1⟩ | ⟨rfl, h0, h1⟩ | ⟨rfl, h0, h1⟩ | ⟨rfl, h0, h1⟩
  · show getL (putAt n 1 1) 1 = n
    rw [putAt1]; simp [getL, rd]; omega
  · show getL (putAt n 2 2) 2 = n
    rw [putAt2]; simp [getL, rd]; omega
  · show getL (putAt n 3 3) 3 = n
    rw [putAt3]; simp [getL, rd]; omega
  · show getL (putAt n 4 4) 4 = n
    rw [putAt4]; simp [getL, rd]; omega
theorem okPut_le {w n : Int} (h : okPut w n) : 1 ≤ w ∧ w ≤ 4 := by unfold okPut at h; omega
theorem get_eq {b : List Int} (hb : Byt b) (hn : b.length ≤ 140737488355328) (at_ w : Int) : bits_Get.f b at_ w = some (if okGet b at_ w then (getL (sub b at_ w) w.toNat, true) else (0, false)) := by
  unfold bits_Get.f
  rw [if_neg (by omega)]
  by_cases h : okGet b at_ w
  · rw [if_pos h, if_pos h, getV_eq (sub_byt hb _ _) _ (by have := h.2.1; omega)]
  · rw [if_neg h, if_neg h]
def putL : Nat → Int → List Int
  | 0, _ => []
  | w + 1, n => n % 256 :: putL w (n / 256)
theorem refput_loop (d : Nat) : ∀ (k : Nat) (w i : Nat) (n : Int) (acc : List Int), i + d = w → w ≤ 4 → acc.length = i → 0 ≤ n → n ≤ 9223372036854775807 → d < k →
    moraineref01_Put.l0 k (w : Int) n acc (i : Int) = some (if n / 256 ^ d > 0 then [] else acc ++ putL d n) := by
  induction d with
  | zero =>
    intro k w i n acc h1 h2 h3 h4 h5 hk
    obtain ⟨k, rfl⟩ : ∃ m, k = m + 1 := ⟨k - 1, by omega⟩
    simp only [moraineref01_Put.l0]
    rw [if_neg (by omega)]
    simp only [Int.pow_zero, Int.ediv_one, putL, List.append_nil]
    split <;> rfl
  | succ d ih =>
    intro k w i n acc h1 h2 h3 h4 h5 hk
    obtain ⟨k, rfl⟩ : ∃ m, k = m + 1 := ⟨k - 1, by omega⟩
    simp only [moraineref01_Put.l0]
    rw [if_pos (by omega), if_pos (by omega), Int.tdiv_eq_ediv_of_nonneg h4, Int.tmod_eq_emod_of_nonneg h4, w64 (n := n / 256) (by omega) (by omega), w64 (n := (i : Int) + 1) (by omega) (by omega),
      show ((i : Int) + 1) = ((i + 1 : Nat) : Int) by omega, ih k w (i + 1) (n / 256) _ (by omega) h2 (by simp [h3]) (by omega) (by omega) (by omega)]
    have e : n / 256 / 256 ^ d = n / 256 ^ (d + 1) := by rw [Int.ediv_ediv_of_nonneg (by omega), Int.pow_succ, Int.mul_comm]
    rw [e, List.append_assoc, show n % 256 % 256 = n % 256 by omega]
    rfl
theorem putL_at {w n : Int} (h : okPut w n) : putL w.toNat n = putAt n w.toNat w.toNat := by
  rcases h with ⟨rfl, h0, h1⟩ | ⟨rfl, h0, h1⟩ | ⟨rfl, h0, h1⟩ | ⟨rfl, h0, h1⟩
  · show putL 1 n = putAt n 1 1
    rw [putAt1]; rfl
  · show putL 2 n = putAt n 2 2
    rw [putAt2]; rfl
  · show putL 3 n = putAt n 3 3
    rw [putAt3]; show [n % 256, n / 256 % 256, n / 256 / 256 % 256] = _
    rw [show n / 256 / 256 = n / 65536 by omega]
  · show putL 4 n = putAt n 4 4
    rw [putAt4]; show [n % 256, n / 256 % 256, n / 256 / 256 % 256, n / 256 / 256 / 256 % 256] = _
    rw [show n / 256 / 256 = n / 65536 by omega, show n / 65536 / 256 = n / 16777216 by omega]
theorem refput_eq (k : Nat) {w n : Int} (hn : n ≤ 9223372036854775807) : moraineref01_Put.f (k + 6) w n = some (if okPut w n then putAt n w.toNat w.toNat else []) := by
  have hj : moraineref01_Put.j0 (k + 6) w n [] true = some [] := by simp [moraineref01_Put.j0]
  unfold moraineref01_Put.f
  simp only [Option.bind_some]
  by_cases h1 : w < 1; · rw [if_pos h1, hj, if_neg (by unfold okPut; omega)]
  rw [if_neg h1]
  by_cases h2 : w > 4; · rw [if_pos h2, hj, if_neg (by unfold okPut; omega)]
  rw [if_neg h2]
  by_cases h3 : n < 0; · rw [decide_eq_true h3, hj, if_neg (by unfold okPut; omega)]
  rw [decide_eq_false h3]
  simp only [moraineref01_Put.j0]
  rw [if_neg (by simp)]
  have hl := refput_loop w.toNat (k + 5) w.toNat 0 n [] (by omega) (by omega) rfl (by omega) hn (by omega)
  rw [show ((w.toNat : Nat) : Int) = w by omega] at hl
  rw [show ((0 : Nat) : Int) = 0 from rfl] at hl
  rw [hl, List.nil_append]
  by_cases h : okPut w n
  · rw [if_pos h, putL_at h, if_neg]
    rcases h with ⟨rfl, h0, h1⟩ | ⟨rfl, h0, h1⟩ | ⟨rfl, h0, h1⟩ | ⟨rfl, h0, h1⟩
    · show ¬ n / 256 > 0; omega
    · show ¬ n / 65536 > 0; omega
    · show ¬ n / 16777216 > 0; omega
    · show ¬ n / 4294967296 > 0; omega
  · rw [if_neg h, if_pos]
    unfold okPut at h
    rcases (by omega : w = 1 ∨ w = 2 ∨ w = 3 ∨ w = 4) with rfl | rfl | rfl | rfl
    · show n / 256 > 0; omega
    · show n / 65536 > 0; omega
    · show n / 16777216 > 0; omega
    · show n / 4294967296 > 0; omega
theorem mul_bd {a b A B : Int} (h0 : 0 ≤ a) (h1 : a ≤ A) (h2 : 0 ≤ b) (h3 : b ≤ B) : 0 ≤ a * b ∧ a * b ≤ A * B :=
  ⟨Int.mul_nonneg h0 h2, Int.mul_le_mul h1 h3 h2 (by omega)⟩
def pl (d r : Int) : Int := r * (d - 1) - 1
def ot (s : Int) : Int := 1 + s / 8
structure GB (d r s : Int) : Prop where
  d0 : 3 ≤ d
  d1 : d ≤ 16
  r0 : 1 ≤ r
  r1 : r ≤ 4
  s0 : 12 ≤ s
  s1 : s ≤ 64
def GR (d r s : Int) : Prop := GB d r s ∧ ot s * pl d r ≥ 8
theorem pl_bd {d r s : Int} (h : GB d r s) : 1 ≤ pl d r ∧ pl d r ≤ 59 := by
  obtain ⟨h1, h2, h3, h4, h5, h6⟩ := h
  unfold pl
  rcases (by omega : r = 1 ∨ r = 2 ∨ r = 3 ∨ r = 4) with rfl | rfl | rfl | rfl <;> omega
theorem ot_bd {d r s : Int} (h : GB d r s) : 2 ≤ ot s ∧ ot s ≤ 9 := by
  obtain ⟨h1, h2, h3, h4, h5, h6⟩ := h
  unfold ot; omega
theorem tdiv8 {s : Int} (h : 0 ≤ s) : Int.tdiv s 8 = s / 8 := Int.tdiv_eq_ediv_of_nonneg h
theorem within_eq (a b c : Int) : geo_within.f a b c = some (decide (b ≤ a ∧ a ≤ c)) := by
  unfold geo_within.f
  by_cases h : b ≤ a <;> simp [h]
theorem others_eq {d r s : Int} (h : GB d r s) : geo_others.f d r s = some (ot s) := by
  have h5 := h.s0; have h6 := h.s1
  unfold geo_others.f ot
  rw [tdiv8 (by omega), w64 (n := s / 8) (by omega) (by omega), w64 (by omega) (by omega)]
theorem places_eq {d r s : Int} (h : GB d r s) : geo_places.f d r s = some (pl d r) := by
  have h3 := pl_bd h
  have h1 := h.d0; have h2 := h.d1
  unfold geo_places.f
  unfold pl at *
  rw [w64 (n := d - 1) (by omega) (by omega), w64 (n := r * (d - 1)) (by omega) (by omega), w64 (by omega) (by omega)]
open Classical in
theorem Right_eq (d r s : Int) : geo_Right.f d r s = some (decide (GR d r s)) := by
  unfold geo_Right.f
  rw [within_eq, within_eq, within_eq]
  simp only [Option.bind_some]
  by_cases h1 : 3 ≤ d ∧ d ≤ 16
  · by_cases h2 : 1 ≤ r ∧ r ≤ 4
    · by_cases h3 : 12 ≤ s ∧ s ≤ 64
      · have hb : GB d r s := ⟨h1.1, h1.2, h2.1, h2.2, h3.1, h3.2⟩
        rw [if_pos (decide_eq_true h1), if_pos (decide_eq_true h2), if_pos (decide_eq_true h3), others_eq hb, places_eq hb]
        simp only [Option.bind_some]
        have hp := pl_bd hb; have ho := ot_bd hb
        have hm := mul_bd (a := ot s) (b := pl d r) (A := 9) (B := 59) (by omega) (by omega) (by omega) (by omega)
        rw [w64 (by omega) (by omega)]
        simp [GR, hb]
      · have : ¬ GR d r s := fun g => h3 ⟨g.1.s0, g.1.s1⟩
        rw [if_pos (decide_eq_true h1), if_pos (decide_eq_true h2), if_neg (by simpa using h3)]; simp [this]
    · have : ¬ GR d r s := fun g => h2 ⟨g.1.r0, g.1.r1⟩
      rw [if_pos (decide_eq_true h1), if_neg (by simpa using h2)]; simp [this]
  · have : ¬ GR d r s := fun g => h1 ⟨g.1.d0, g.1.d1⟩
    rw [if_neg (by simpa using h1)]; simp [this]
theorem Right_pos {d r s : Int} (h : GR d r s) : geo_Right.f d r s = some true := by rw [Right_eq]; simp [h]
theorem Right_neg {d r s : Int} (h : ¬ GR d r s) : geo_Right.f d r s = some false := by rw [Right_eq]; simp [h]
theorem refRight_eq (d r s : Int) : moraineref03_Right.f d r s = geo_Right.f d r s := by
  unfold moraineref03_Right.f
  by_cases g : GB d r s
  · obtain ⟨h1, h2, h3, h4, h5, h6⟩ := g
    have g : GB d r s := ⟨h1, h2, h3, h4, h5, h6⟩
    rw [if_neg (by omega), if_neg (by omega), if_neg (by omega), if_neg (by omega), if_neg (by omega), if_neg (by omega), Right_eq]
    have hp := pl_bd g; have ho := ot_bd g
    have hm := mul_bd (a := ot s) (b := pl d r) (A := 9) (B := 59) (by omega) (by omega) (by omega) (by omega)
    rw [tdiv8 (by omega), w64 (n := s / 8) (by omega) (by omega), w64 (n := d - 1) (by omega) (by omega)]
    have e1 : wrap64 (1 + s / 8) = ot s := w64 (by omega) (by omega)
    have e2 : wrap64 (wrap64 (r * (d - 1)) - 1) = pl d r := by
      unfold pl at *
      rw [w64 (n := r * (d - 1)) (by omega) (by omega), w64 (by omega) (by omega)]
    rw [e1, e2, w64 (by omega) (by omega)]
    simp [GR, g]
  · rw [Right_neg (fun k => g k.1)]
    by_cases h1 : d < 3; · rw [if_pos h1]
    rw [if_neg h1]
    by_cases h2 : d > 16; · rw [if_pos h2]
    rw [if_neg h2]
    by_cases h3 : r < 1; · rw [if_pos h3]
    rw [if_neg h3]
    by_cases h4 : r > 4; · rw [if_pos h4]
    rw [if_neg h4]
    by_cases h5 : s < 12; · rw [if_pos h5]
    rw [if_neg h5]
    by_cases h6 : s > 64; · rw [if_pos h6]
    exact absurd ⟨by omega, by omega, by omega, by omega, by omega, by omega⟩ g
set_option maxRecDepth 100000 in
theorem alive_eq : morainelaw05_alive.f 20 = some true := by kernel_rfl
theorem alive_at (k : Nat) (hk : 20 ≤ k) : morainelaw05_alive.f k = some true := by
  obtain ⟨m, rfl⟩ : ∃ m, k = 20 + m := ⟨k - 20, by omega⟩
  clear hk
  induction m with
  | zero => exact alive_eq
  | succ m ih => exact morainelaw05_alive.mono _ _ ih
/-! the puts -/
def catS (l : List S57) : List Int := (l.map fun x => putAt x.f1 x.f0.toNat x.f0.toNat).flatten
theorem catS_snoc (l : List S57) (x : S57) : catS (l ++ [x]) = catS l ++ putAt x.f1 x.f0.toNat x.f0.toNat := by simp [catS]
def okS (x : S57) : Prop := okPut x.f0 x.f1
instance (x : S57) : Decidable (okS x) := by unfold okS; infer_instance
theorem catS_len (l : List S57) (h : ∀ x ∈ l, okS x) : (catS l).length ≤ 4 * l.length := by
  induction l with
  | nil => simp [catS]
  | cons x l ih =>
    have e : catS (x :: l) = putAt x.f1 x.f0.toNat x.f0.toNat ++ catS l := by simp [catS]
    have hx := okPut_le (h x (by simp))
    have := ih (fun y hy => h y (by simp [hy]))
    rw [e, List.length_append, putAt_length, List.length_cons]; omega
def headL (a : Int) : List Int := [77, 79, 82, a]
def recV (a : Int) (l : List S57) : List Int × Bool := if ∀ x ∈ l, okS x then (padL (headL a ++ catS l) 64, true) else ([], false)
theorem rdS (l : List S57) (i : Nat) (h : i < l.length) : rd_T57 l (i : Int) = l[i] := by
  show l.getD i z57 = _
  rw [List.getD_eq_getElem?_getD, List.getElem?_eq_getElem h]; rfl
theorem okS_len {x : S57} (h : okS x) : ¬ ((putAt x.f1 x.f0.toNat x.f0.toNat).length : Int) = 0 := by
  have := okPut_le h
  rw [putAt_length]; omega
theorem all_drop {α : Type} {P : α → Prop} (l : List α) (i : Nat) (h : i < l.length) : (∀ x ∈ l.drop i, P x) ↔ (P l[i] ∧ ∀ x ∈ l.drop (i + 1), P x) := by
  rw [List.drop_eq_getElem_cons h]; simp only [List.mem_cons, forall_eq_or_imp]
theorem all_take {α : Type} {P : α → Prop} (l : List α) (i : Nat) (h : i < l.length) (h1 : ∀ x ∈ l.take i, P x) (h2 : P l[i]) : ∀ x ∈ l.take (i + 1), P x := by
  rw [List.take_succ_eq_append_getElem h]
  intro x hx
  rcases List.mem_append.1 hx with hx | hx
  · exact h1 x hx
  · simp at hx; subst hx; exact h2
theorem sp_loop (a : Int) (l : List S57) (hl : l.length ≤ 10) (hb : ∀ x ∈ l, x.f1 ≤ 9223372036854775807) (d : Nat) : ∀ (k i : Nat), i + d = l.length → d < k → (∀ x ∈ l.take i, okS x) →
    super_put.l0 k (headL a ++ catS (l.take i)) l (l.length : Int) (i : Int) = some (if ∀ x ∈ l.drop i, okS x then (padL (headL a ++ catS l) 64, true) else ([], false)) := by
  induction d with
  | zero =>
    intro k i hi hk ht
    obtain ⟨k, rfl⟩ : ∃ m, k = m + 1 := ⟨k - 1, by omega⟩
    simp only [super_put.l0]
    rw [List.take_of_length_le (by omega)] at ht ⊢
    have hc := catS_len l ht
    rw [if_neg (by omega), List.drop_of_length_le (by omega)]
    unfold bits_Pad.f
    rw [if_neg (by simp only [headL, List.length_append, List.length_cons, List.length_nil]; omega)]
    simp
  | succ d ih =>
    intro k i hi hk ht
    obtain ⟨k, rfl⟩ : ∃ m, k = m + 1 := ⟨k - 1, by omega⟩
    have hlt : i < l.length := by omega
    have hbi := hb _ (List.getElem_mem hlt)
    have hc := catS_len _ ht
    rw [List.length_take] at hc
    simp only [super_put.l0]
    rw [if_pos (by omega), if_pos (by omega), if_pos (by omega), rdS l i hlt, put_eq hbi]
    simp only [Option.bind_some]
    by_cases hp : okS l[i]
    · have hle := okPut_le hp
      rw [if_pos (show okPut l[i].f0 l[i].f1 from hp), if_neg (okS_len hp), if_pos (by rw [putAt_length]; simp only [headL, List.length_append, List.length_cons, List.length_nil]; omega), w64 (by omega) (by omega)]
      have h := ih k (i + 1) (by omega) (by omega) (all_take l i hlt ht hp)
      rw [List.take_succ_eq_append_getElem hlt, catS_snoc, ← List.append_assoc] at h
      rw [show ((i : Int) + 1) = ((i + 1 : Nat) : Int) by omega, h]
      congr 1
      by_cases hr : ∀ x ∈ l.drop (i + 1), okS x
      · rw [if_pos hr, if_pos ((all_drop l i hlt).2 ⟨hp, hr⟩)]
      · rw [if_neg hr, if_neg (fun hh => hr ((all_drop l i hlt).1 hh).2)]
    · rw [if_neg (show ¬ okPut l[i].f0 l[i].f1 from hp), if_pos (by simp), if_neg (fun hh => hp ((all_drop l i hlt).1 hh).1)]
theorem sput_eq (a : Int) (l : List S57) (hl : l.length ≤ 10) (hb : ∀ x ∈ l, x.f1 ≤ 9223372036854775807) (k : Nat) (hk : 20 ≤ k) : super_put.f k a l = some (recV a l) := by
  unfold super_put.f
  exact sp_loop a l hl hb l.length k 0 (by omega) (by omega) (by simp)
theorem putMark_eq (n : Int) (hn : n ≤ 9223372036854775807) (k : Nat) (hk : 20 ≤ k) : super_PutMark.f k n = some (recV 2 [⟨4, n⟩]) := by
  unfold super_PutMark.f
  rw [sput_eq 2 _ (by simp) (by simpa using hn) k hk]; rfl
def okMem (e s t : Int) : Prop := 0 ≤ s ∧ s < 16 ∧ 0 ≤ t ∧ t ≤ 2 ∧ (t = 0 → s = 0)
instance (e s t : Int) : Decidable (okMem e s t) := by unfold okMem; infer_instance
theorem member_eq (e s t : Int) : super_member.f e s t = some (decide (okMem e s t)) := by
  unfold super_member.f
  by_cases h1 : s ≥ 0
  · rw [if_pos h1]
    by_cases h2 : s < 16
    · rw [if_pos h2]
      by_cases h3 : t ≥ 0
      · rw [if_pos h3]
        by_cases h4 : t ≤ 2
        · rw [if_pos h4]
          by_cases h5 : t = 0
          · rw [if_pos h5]
            refine congrArg some ?_
            rw [Bool.eq_iff_iff, beq_iff_eq, decide_eq_true_eq]
            unfold okMem; omega
          · rw [if_neg h5, decide_eq_true (by unfold okMem; omega)]
        · have : ¬ okMem e s t := by unfold okMem; omega
          rw [if_neg h4, decide_eq_false this]
      · have : ¬ okMem e s t := by unfold okMem; omega
        rw [if_neg h3, decide_eq_false this]
    · have : ¬ okMem e s t := by unfold okMem; omega
      rw [if_neg h2, decide_eq_false this]
  · have : ¬ okMem e s t := by unfold okMem; omega
    rw [if_neg h1, decide_eq_false this]
def memV (e s t : Int) : List Int × Bool := if okMem e s t then recV 3 [⟨4, e⟩, ⟨1, s⟩, ⟨1, t⟩] else ([], false)
theorem putMember_eq (e s t : Int) (he : e ≤ 9223372036854775807) (k : Nat) (hk : 20 ≤ k) : super_PutMember.f k e s t = some (memV e s t) := by
  unfold super_PutMember.f memV
  rw [member_eq]
  simp only [Option.bind_some]
  by_cases h : okMem e s t
  · have h' := h
    unfold okMem at h'
    rw [decide_eq_true h, if_pos rfl, if_pos h, sput_eq 3 _ (by simp) (by simp; omega) k hk]; rfl
  · rw [decide_eq_false h, if_neg (by simp), if_neg h]
theorem recV_len (a : Int) (l : List S57) : (recV a l).1.length ≤ 64 ∨ 10 < l.length := by
  unfold recV
  split
  · rename_i h
    have := catS_len l h
    by_cases hl : l.length ≤ 10
    · left
      rw [padL_length _ _ (by simp only [headL, List.length_append, List.length_cons, List.length_nil]; omega)]
      exact Nat.le_refl _
    · right; omega
  · left; simp
instance (d r s : Int) : Decidable (GB d r s) := decidable_of_iff (3 ≤ d ∧ d ≤ 16 ∧ 1 ≤ r ∧ r ≤ 4 ∧ 12 ≤ s ∧ s ≤ 64) ⟨fun h => ⟨h.1, h.2.1, h.2.2.1, h.2.2.2.1, h.2.2.2.2.1, h.2.2.2.2.2⟩, fun h => ⟨h.d0, h.d1, h.r0, h.r1, h.s0, h.s1⟩⟩
instance (d r s : Int) : Decidable (GR d r s) := by unfold GR; infer_instance
def supV (d r s : Int) : List Int × Bool := if GR d r s then recV 1 [⟨1, d⟩, ⟨1, r⟩, ⟨1, s⟩] else ([], false)
theorem putSuper_eq (d r s : Int) (k : Nat) (hk : 20 ≤ k) : super_PutSuper.f k d r s = some (supV d r s) := by
  unfold super_PutSuper.f supV
  by_cases h : GR d r s
  · have h1 := h.1.d1; have h2 := h.1.r1; have h3 := h.1.s1
    rw [Right_pos h, if_pos h]
    simp only [Option.bind_some]
    rw [if_pos trivial, sput_eq 1 _ (by simp) (by simp; omega) k hk]; rfl
  · rw [Right_neg h, if_neg h]; simp
theorem rdI (l : List Int) (i : Nat) (h : i < l.length) : rd l (i : Int) = l[i] := rd_get h
theorem fill64 (d : Nat) : ∀ (k : Nat) (acc : List Int), acc.length + d = 64 → d < k → moraineref05_record.l1 k acc = some (padL acc 64) := by
  induction d with
  | zero =>
    intro k acc hi hk
    obtain ⟨k, rfl⟩ : ∃ m, k = m + 1 := ⟨k - 1, by omega⟩
    simp only [moraineref05_record.l1]
    rw [if_neg (by omega)]
    unfold padL
    rw [show 64 - acc.length = 0 by omega]; simp
  | succ d ih =>
    intro k acc hi hk
    obtain ⟨k, rfl⟩ : ∃ m, k = m + 1 := ⟨k - 1, by omega⟩
    simp only [moraineref05_record.l1]
    rw [if_pos (by omega), if_pos (by omega), ih k (acc ++ [0]) (by simp; omega) (by omega)]
    unfold padL
    rw [show 64 - acc.length = (64 - (acc ++ [0]).length) + 1 by simp; omega, List.replicate_succ]; simp
theorem rr_loop (a : Int) (l : List S57) (hl : l.length ≤ 10) (hb : ∀ x ∈ l, x.f1 ≤ 9223372036854775807) (d : Nat) : ∀ (k i : Nat), i + d = l.length → d + 80 < k → (∀ x ∈ l.take i, okS x) →
    moraineref05_record.l0 k (l.map S57.f1) (l.map S57.f0) (headL a ++ catS (l.take i)) (i : Int) = some (if ∀ x ∈ l.drop i, okS x then padL (headL a ++ catS l) 64 else []) := by
  induction d with
  | zero =>
    intro k i hi hk ht
    obtain ⟨k, rfl⟩ : ∃ m, k = m + 1 := ⟨k - 1, by omega⟩
    simp only [moraineref05_record.l0]
    rw [List.take_of_length_le (by omega)] at ht ⊢
    have hc := catS_len l ht
    have hh : (headL a ++ catS l).length ≤ 64 := by simp only [headL, List.length_append, List.length_cons, List.length_nil]; omega
    rw [if_neg (by rw [List.length_map]; omega), List.drop_of_length_le (by omega), fill64 (64 - (headL a ++ catS l).length) k (headL a ++ catS l) (by omega) (by omega)]
    simp
  | succ d ih =>
    intro k i hi hk ht
    obtain ⟨k, rfl⟩ : ∃ m, k = m + 6 + 1 := ⟨k - 7, by omega⟩
    have hlt : i < l.length := by omega
    have hbi := hb _ (List.getElem_mem hlt)
    have hc := catS_len _ ht
    rw [List.length_take] at hc
    simp only [moraineref05_record.l0]
    rw [if_pos (by rw [List.length_map]; omega), if_pos (by omega), if_pos (by rw [List.length_map]; omega), rdI _ i (by rw [List.length_map]; omega), rdI _ i (by rw [List.length_map]; omega), List.getElem_map, List.getElem_map, refput_eq k hbi]
    simp only [Option.bind_some]
    by_cases hp : okS l[i]
    · have hle := okPut_le hp
      rw [if_pos (show okPut l[i].f0 l[i].f1 from hp), if_neg (okS_len hp), if_pos (by rw [putAt_length]; simp only [headL, List.length_append, List.length_cons, List.length_nil]; omega), w64 (by omega) (by omega)]
      have h := ih (k + 6) (i + 1) (by omega) (by omega) (all_take l i hlt ht hp)
      rw [List.take_succ_eq_append_getElem hlt, catS_snoc, ← List.append_assoc] at h
      rw [show ((i : Int) + 1) = ((i + 1 : Nat) : Int) by omega]
      refine Eq.trans h ?_
      congr 1
      by_cases hr : ∀ x ∈ l.drop (i + 1), okS x
      · rw [if_pos hr, if_pos ((all_drop l i hlt).2 ⟨hp, hr⟩)]
      · rw [if_neg hr, if_neg (fun hh => hr ((all_drop l i hlt).1 hh).2)]
    · rw [if_neg (show ¬ okPut l[i].f0 l[i].f1 from hp), if_pos (by simp), if_neg (fun hh => hp ((all_drop l i hlt).1 hh).1)]
theorem rec_eq (a : Int) (l : List S57) (hl : l.length ≤ 10) (hb : ∀ x ∈ l, x.f1 ≤ 9223372036854775807) (k : Nat) (hk : 200 ≤ k) : moraineref05_record.f k a (l.map S57.f1) (l.map S57.f0) = some (recV a l).1 := by
  unfold moraineref05_record.f
  have h := rr_loop a l hl hb l.length k 0 (by omega) (by omega) (by simp)
  refine Eq.trans h ?_
  unfold recV
  rw [List.drop_zero]
  split <;> rfl
theorem recV_pos (a : Int) (l : List S57) (hl : l.length ≤ 10) : decide (((recV a l).1.length : Int) > 0) = (recV a l).2 := by
  unfold recV
  split
  · rename_i h
    have := catS_len l h
    rw [padL_length _ _ (by simp only [headL, List.length_append, List.length_cons, List.length_nil]; omega)]; rfl
  · rfl
theorem refmember_eq (e s t : Int) : moraineref05_member.f e s t = some (decide (okMem e s t)) := by
  unfold moraineref05_member.f
  by_cases h1 : s ≥ 0
  · rw [if_pos h1]
    by_cases h2 : s < 16
    · rw [if_pos h2]
      by_cases h3 : t ≥ 0
      · rw [if_pos h3]
        by_cases h4 : t ≤ 2
        · rw [if_pos h4]
          by_cases h5 : t > 0
          · rw [if_pos h5, decide_eq_true (by unfold okMem; omega)]
          · rw [if_neg h5]
            refine congrArg some ?_
            rw [Bool.eq_iff_iff, beq_iff_eq, decide_eq_true_eq]
            unfold okMem; omega
        · have : ¬ okMem e s t := by unfold okMem; omega
          rw [if_neg h4, decide_eq_false this]
      · have : ¬ okMem e s t := by unfold okMem; omega
        rw [if_neg h3, decide_eq_false this]
    · have : ¬ okMem e s t := by unfold okMem; omega
      rw [if_neg h2, decide_eq_false this]
  · have : ¬ okMem e s t := by unfold okMem; omega
    rw [if_neg h1, decide_eq_false this]
theorem refPutSuper_eq (d r s : Int) (k : Nat) (hk : 200 ≤ k) : moraineref05_PutSuper.f k d r s = some (supV d r s) := by
  unfold moraineref05_PutSuper.f supV
  rw [refRight_eq]
  by_cases h : GR d r s
  · have h1 := h.1.d1; have h2 := h.1.r1; have h3 := h.1.s1
    have a1 := h.1.d0; have a2 := h.1.r0; have a3 := h.1.s0
    have he := rec_eq 1 [⟨1, d⟩, ⟨1, r⟩, ⟨1, s⟩] (by simp) (by simp; omega) k hk
    have hok : ∀ x ∈ ([⟨1, d⟩, ⟨1, r⟩, ⟨1, s⟩] : List S57), okS x := by
      simp only [List.mem_cons, List.not_mem_nil, or_false, forall_eq_or_imp, forall_eq]
      unfold okS okPut
      exact ⟨.inl ⟨rfl, by show 0 ≤ d; omega, by show d < 256; omega⟩, .inl ⟨rfl, by show 0 ≤ r; omega, by show r < 256; omega⟩, .inl ⟨rfl, by show 0 ≤ s; omega, by show s < 256; omega⟩⟩
    rw [Right_pos h, if_pos h]
    simp only [Option.bind_some]
    rw [if_pos trivial]
    have he : moraineref05_record.f k 1 [d, r, s] [1, 1, 1] = some (recV 1 [⟨1, d⟩, ⟨1, r⟩, ⟨1, s⟩]).1 := he
    rw [he]
    simp only [Option.bind_some]
    unfold recV
    rw [if_pos hok]
  · rw [Right_neg h, if_neg h]; simp
theorem refPutMark_eq (n : Int) (hn : n ≤ 9223372036854775807) (k : Nat) (hk : 200 ≤ k) : moraineref05_PutMark.f k n = some (recV 2 [⟨4, n⟩]) := by
  unfold moraineref05_PutMark.f
  have he : moraineref05_record.f k 2 [n] [4] = some (recV 2 [⟨4, n⟩]).1 := rec_eq 2 [⟨4, n⟩] (by simp) (by simpa using hn) k hk
  rw [he]
  simp only [Option.bind_some]
  rw [recV_pos _ _ (by simp)]
theorem refPutMember_eq (e s t : Int) (he : e ≤ 9223372036854775807) (k : Nat) (hk : 200 ≤ k) : moraineref05_PutMember.f k e s t = some (memV e s t) := by
  unfold moraineref05_PutMember.f memV
  rw [refmember_eq]
  simp only [Option.bind_some]
  by_cases h : okMem e s t
  · have h' := h
    unfold okMem at h'
    have hr : moraineref05_record.f k 3 [e, s, t] [4, 1, 1] = some (recV 3 [⟨4, e⟩, ⟨1, s⟩, ⟨1, t⟩]).1 := rec_eq 3 [⟨4, e⟩, ⟨1, s⟩, ⟨1, t⟩] (by simp) (by simp; omega) k hk
    rw [decide_eq_true h, if_pos rfl, if_pos h, hr]
    simp only [Option.bind_some]
    rw [recV_pos _ _ (by simp)]
  · rw [decide_eq_false h, if_neg (by simp), if_neg h]
theorem SuperPuts (d r s n e t u : Int) (w0 : (Lit.int .i64 d).wf = true) (w1 : (Lit.int .i64 r).wf = true) (w2 : (Lit.int .i64 s).wf = true) (w3 : (Lit.int .i64 n).wf = true) (w4 : (Lit.int .i64 e).wf = true) (w5 : (Lit.int .i64 t).wf = true) (w6 : (Lit.int .i64 u).wf = true) :
    ∃ k, morainelaw05_SuperPuts.f k d r s n e t u = some true := by
  obtain ⟨K, hK⟩ : ∃ K, K = 199 + 101 := ⟨_, rfl⟩
  refine ⟨K, ?_⟩
  have hs : (supV d r s).1.length ≤ 64 := by
    unfold supV; split
    · rcases recV_len 1 [⟨1, d⟩, ⟨1, r⟩, ⟨1, s⟩] with h | h
      · exact h
      · simp at h
    · simp
  have hm : (recV 2 [⟨4, n⟩]).1.length ≤ 64 := by
    rcases recV_len 2 [⟨4, n⟩] with h | h
    · exact h
    · simp at h
  have hv : (memV e t u).1.length ≤ 64 := by
    unfold memV; split
    · rcases recV_len 3 [⟨4, e⟩, ⟨1, t⟩, ⟨1, u⟩] with h | h
      · exact h
      · simp at h
    · simp
  unfold morainelaw05_SuperPuts.f
  rw [alive_at K (by omega)]
  simp only [Option.bind_some]
  rw [if_pos trivial, putSuper_eq d r s K (by omega), refPutSuper_eq d r s K (by omega), putMark_eq n (i64_bd w3).2 K (by omega), refPutMark_eq n (i64_bd w3).2 K (by omega), putMember_eq e t u (i64_bd w4).2 K (by omega), refPutMember_eq e t u (i64_bd w4).2 K (by omega)]
  simp only [Option.bind_some]
  rw [same_eq _ _ (by omega) K (by omega), same_eq _ _ (by omega) K (by omega), same_eq _ _ (by omega) K (by omega)]
  simp
end Go.Proofs.YtkpipmhcjjncdaaDoor.Pure
