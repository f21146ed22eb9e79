/- Plain laws over whole numbers and lists: PureInodePointers. -/
import Derived.Test.YthmfhhkedmloeaaQInodePointersx3
import Derived.KernelRfl
import Derived.Laws.BitsLemmas
import Derived.Laws.BitsAllLaws
namespace Go.Proofs.Ythmfhhkedmloeaa.Pure
open Go.RowKit Go.Proofs.Ythmfhhkedmloeaa.PInodePointers Go.Proofs.Ythmfhhkedmloeaa.Given Go.Proofs.YthmfhhkedmloeaaW.PrintWords Go.Proofs.YthmfhhkedmloeaaW.PrintLast Go.Proofs.YthmfhhkedmloeaaW.PrintMore
set_option linter.unusedVariables false
set_option linter.unusedSimpArgs false
theorem w64 {n : Int} (h0 : -9223372036854775808 ≤ n) (h1 : n ≤ 9223372036854775807) : wrap64 n = n := by unfold wrap64; omega
theorem i64_bd {n : Int} (h : (Lit.int .i64 n).wf = true) : -9223372036854775808 ≤ n ∧ n ≤ 9223372036854775807 := by simpa [Lit.wf, IntKind.min, IntKind.max, IntKind.signed, IntKind.bits] using h
theorem u8_bd {n : Int} (h : (Lit.int .u8 n).wf = true) : 0 ≤ n ∧ n ≤ 255 := by simpa [Lit.wf, IntKind.min, IntKind.max, IntKind.signed, IntKind.bits] using h
theorem rd_get {xs : List Int} {i : Nat} (h : i < xs.length) : rd xs (i : Int) = xs[i] := by simp [rd, h]
theorem same_loop (x y : List Int) (hl : x.length = y.length) (hn : x.length ≤ 140737488355328) (d : Nat) : ∀ (k i : Nat), i + d = x.length → d < k →
    moraineref00_SameBytes.l0 k x y (i : Int) = some (decide (x.drop i = y.drop i)) := by
  induction d with
  | zero =>
    intro k i hi hk
    obtain ⟨k, rfl⟩ : ∃ m, k = m + 1 := ⟨k - 1, by omega⟩
    simp only [moraineref00_SameBytes.l0]
    rw [if_neg (by omega), List.drop_of_length_le (by omega), List.drop_of_length_le (by omega)]; simp
  | succ d ih =>
    intro k i hi hk
    obtain ⟨k, rfl⟩ : ∃ m, k = m + 1 := ⟨k - 1, by omega⟩
    simp only [moraineref00_SameBytes.l0]
    rw [if_pos (by omega), if_pos (by omega), if_pos (by omega), rd_get (show i < x.length by omega), rd_get (show i < y.length by omega)]
    have ex : x.drop i = x[i] :: x.drop (i + 1) := List.drop_eq_getElem_cons (by omega)
    have ey : y.drop i = y[i] :: y.drop (i + 1) := List.drop_eq_getElem_cons (by omega)
    by_cases h : x[i] = y[i]
    · rw [if_pos h, w64 (by omega) (by omega)]
      have := ih k (i + 1) (by omega) (by omega)
      rw [show ((i : Int) + 1) = ((i + 1 : Nat) : Int) by omega, this]
      exact congrArg some (decide_eq_decide.2 ⟨fun e => by rw [ex, ey, h, e], fun e => by rw [ex, ey] at e; exact (List.cons.inj e).2⟩)
    · rw [if_neg h, decide_eq_false (fun e => by rw [ex, ey] at e; exact h (List.cons.inj e).1)]
theorem same_eq (x y : List Int) (hn : x.length ≤ 140737488355328) (k : Nat) (hk : x.length < k) : moraineref00_SameBytes.f k x y = some (decide (x = y)) := by
  unfold moraineref00_SameBytes.f
  by_cases hl : x.length = y.length
  · rw [if_pos (by omega)]
    have := same_loop x y hl hn x.length k 0 (by omega) hk
    simpa using this
  · rw [if_neg (by omega)]
    have : x ≠ y := fun e => hl (by rw [e])
    simp [this]
def Byt (l : List Int) : Prop := ∀ x ∈ l, 0 ≤ x ∧ x ≤ 255
theorem rd_byt {l : List Int} (h : Byt l) (i : Int) : 0 ≤ rd l i ∧ rd l i ≤ 255 := by
  unfold rd
  by_cases hi : i.toNat < l.length
  · rw [List.getD_eq_getElem?_getD, List.getElem?_eq_getElem hi]; exact h _ (List.getElem_mem hi)
  · rw [List.getD_eq_getElem?_getD, List.getElem?_eq_none (by omega)]; simp
theorem or_sum (j i : Nat) (x y : Int) (hj : j ≤ 62) (hx0 : 0 ≤ x) (hx : x % 2 ^ i = 0) (hx1 : x < 2 ^ j) (hy0 : 0 ≤ y) (hy : y < 2 ^ i) (hy1 : y < 2 ^ j) : Go.bits .or .i64 y x = y + x := by
  have hc : Go.bits .or .i64 y x = Go.bits .or .i64 x y := by simp only [Go.bits, BitVec.or_comm]
  rw [hc, bits_join .i64 j (by show j ≤ 64; omega) (fun n h0 h1 => by
    have : (2 : Int) ^ j ≤ 2 ^ 62 := by exact_mod_cast Nat.pow_le_pow_right (by omega) hj
    have h3 : n < (2 : Int) ^ 62 := Int.lt_of_lt_of_le h1 this
    have e62 : (2 : Int) ^ 62 = 4611686018427387904 := by kernel_rfl
    have h2 : n < 4611686018427387904 := by rw [e62] at h3; exact h3
    clear this h3 e62
    show IntKind.i64.wrap n = n
    simp only [IntKind.wrap, IntKind.signed, IntKind.bits]
    simp
    omega) i x y hx0 hx hx1 hy0 hy hy1]
  omega
theorem shl_at {c : Int} (i m : Nat) (h0 : 0 ≤ c) (h1 : c ≤ 255) (hm : m = 2 ^ i) (hi : i ≤ 24) : shl .i64 c (i : Int) = c * m := by
  unfold shl
  have e : min (i : Int).toNat IntKind.i64.bits = i := by show min i 64 = i; omega
  rw [e]
  have hp : (2 : Int) ^ i = (m : Int) := by rw [hm]; simp
  rw [hp]
  have hle0 : m ≤ 16777216 := by rw [hm]; exact Nat.pow_le_pow_right (by omega) hi
  have hle : (m : Int) ≤ 16777216 := by omega
  have hb : 0 ≤ c * (m : Int) ∧ c * (m : Int) ≤ 255 * 16777216 := ⟨Int.mul_nonneg h0 (by omega), Int.mul_le_mul h1 hle (by omega) (by omega)⟩
  simp only [IntKind.wrap, IntKind.signed, IntKind.bits]
  simp
  omega
/-- The number that the first w bytes tell. -/
def getL (s : List Int) : Nat → Int
  | 0 => 0
  | i + 1 => getL s i + rd s (i : Int) * 2 ^ (8 * i)
theorem getL_bd {s : List Int} (hs : Byt s) (i : Nat) : 0 ≤ getL s i ∧ getL s i < 2 ^ (8 * i) := by
  induction i with
  | zero => simp [getL]
  | succ i ih =>
    have hb := rd_byt hs (i : Int)
    have hp : (0 : Int) < 2 ^ (8 * i) := Int.pow_pos (by omega)
    have e : (2 : Int) ^ (8 * (i + 1)) = 2 ^ (8 * i) * 256 := by rw [show 8 * (i + 1) = 8 * i + 8 by omega, Int.pow_add]; rfl
    have h1 : 0 ≤ rd s (i : Int) * 2 ^ (8 * i) := Int.mul_nonneg hb.1 (by omega)
    have h2 : rd s (i : Int) * 2 ^ (8 * i) ≤ 255 * 2 ^ (8 * i) := Int.mul_le_mul_of_nonneg_right hb.2 (by omega)
    simp only [getL]
    omega
theorem sub_byt {b : List Int} (h : Byt b) (at_ w : Int) : Byt (sub b at_ w) := fun x hx => h x (List.mem_of_mem_take (List.mem_of_mem_drop hx))
theorem getV_eq {s : List Int} (hs : Byt s) (i : Nat) (hi : i ≤ 4) : getV s i = getL s i := by
  induction i with
  | zero => rfl
  | succ i ih =>
    have hb := rd_byt hs (i : Int)
    have hl := getL_bd hs i
    have hm : (2 ^ (8 * i) : Nat) ≤ 16777216 := Nat.pow_le_pow_right (by omega) (show 8 * i ≤ 24 by omega)
    have hp : ((2 : Int) ^ (8 * i)) = ((2 ^ (8 * i) : Nat) : Int) := by simp
    simp only [getV, getL]
    rw [ih (by omega), w64 (n := rd s (i : Int)) (by omega) (by omega), shl_at (c := rd s (i : Int)) (8 * i) (2 ^ (8 * i)) hb.1 hb.2 rfl (by omega)]
    generalize hM : 2 ^ (8 * i) = M at *
    have hb2 : 0 ≤ rd s (i : Int) * (M : Int) ∧ rd s (i : Int) * (M : Int) ≤ 255 * 16777216 := ⟨Int.mul_nonneg hb.1 (by omega), Int.mul_le_mul hb.2 (by omega) (by omega) (by omega)⟩
    rw [hp] at hl ⊢
    exact or_sum 40 (8 * i) _ _ (by omega) hb2.1 (by rw [hp]; exact Int.mul_emod_left _ _) (by omega) hl.1 (by rw [hp]; exact hl.2) (by omega)
theorem putAt1 (n : Int) : putAt n 1 1 = [n % 256] := by
  show [shr .i64 n ((8 * 0 : Nat) : Int) % 256] = _
  rw [sh0]
theorem putAt2 (n : Int) : putAt n 2 2 = [n % 256, n / 256 % 256] := by
  show [shr .i64 n ((8 * 0 : Nat) : Int) % 256, shr .i64 n ((8 * 1 : Nat) : Int) % 256] = _
  rw [sh0, sh1]
theorem putAt3 (n : Int) : putAt n 3 3 = [n % 256, n / 256 % 256, n / 65536 % 256] := by
  show [shr .i64 n ((8 * 0 : Nat) : Int) % 256, shr .i64 n ((8 * 1 : Nat) : Int) % 256, shr .i64 n ((8 * 2 : Nat) : Int) % 256] = _
  rw [sh0, sh1, sh2]
theorem putAt4 (n : Int) : putAt n 4 4 = [n % 256, n / 256 % 256, n / 65536 % 256, n / 16777216 % 256] := by
  show [shr .i64 n ((8 * 0 : Nat) : Int) % 256, shr .i64 n ((8 * 1 : Nat) : Int) % 256, shr .i64 n ((8 * 2 : Nat) : Int) % 256, shr .i64 n ((8 * 3 : Nat) : Int) % 256] = _
  rw [sh0, sh1, sh2, sh3]
theorem putAt_byt (n : Int) (w : Nat) : Byt (putAt n w w) := by
  intro x hx
  simp only [putAt, List.mem_map, List.mem_range] at hx
  obtain ⟨i, hi, rfl⟩ := hx
  rw [if_pos hi]; omega
theorem put_eq {w n : Int} (h : n ≤ 9223372036854775807) : bits_Put.f w n = some (if okPut w n then putAt n w.toNat w.toNat else []) := by
  unfold bits_Put.f; rw [if_neg (by omega)]
/-- What is put is got again. -/
theorem put_get {w n : Int} (h : okPut w n) : getL (putAt n w.toNat w.toNat) w.toNat = n := by
  rcases h with ⟨rfl, h0, h1⟩ | ⟨rfl, h0, h1⟩ | ⟨rfl, h0, h1⟩ | ⟨rfl, h0, h1⟩
  · show getL (putAt n 1 1) 1 = n
    rw [putAt1]; simp [getL, rd]; omega
  · show getL (putAt n 2 2) 2 = n
    rw [putAt2]; simp [getL, rd]; omega
  · show getL (putAt n 3 3) 3 = n
    rw [putAt3]; simp [getL, rd]; omega
  · show getL (putAt n 4 4) 4 = n
    rw [putAt4]; simp [getL, rd]; omega
theorem okPut_le {w n : Int} (h : okPut w n) : 1 ≤ w ∧ w ≤ 4 := by unfold okPut at h; omega
theorem get_eq {b : List Int} (hb : Byt b) (hn : b.length ≤ 140737488355328) (at_ w : Int) : bits_Get.f b at_ w = some (if okGet b at_ w then (getL (sub b at_ w) w.toNat, true) else (0, false)) := by
  unfold bits_Get.f
  rw [if_neg (by omega)]
  by_cases h : okGet b at_ w
  · rw [if_pos h, if_pos h, getV_eq (sub_byt hb _ _) _ (by have := h.2.1; omega)]
  · rw [if_neg h, if_neg h]
def putL : Nat → Int → List Int
  | 0, _ => []
  | w + 1, n => n % 256 :: putL w (n / 256)
theorem refput_loop (d : Nat) : ∀ (k : Nat) (w i : Nat) (n : Int) (acc : List Int), i + d = w → w ≤ 4 → acc.length = i → 0 ≤ n → n ≤ 9223372036854775807 → d < k →
    moraineref01_Put.l0 k (w : Int) n acc (i : Int) = some (if n / 256 ^ d > 0 then [] else acc ++ putL d n) := by
  induction d with
  | zero =>
    intro k w i n acc h1 h2 h3 h4 h5 hk
    obtain ⟨k, rfl⟩ : ∃ m, k = m + 1 := ⟨k - 1, by omega⟩
    simp only [moraineref01_Put.l0]
    rw [if_neg (by omega)]
    simp only [Int.pow_zero, Int.ediv_one, putL, List.append_nil]
    split <;> rfl
  | succ d ih =>
    intro k w i n acc h1 h2 h3 h4 h5 hk
    obtain ⟨k, rfl⟩ : ∃ m, k = m + 1 := ⟨k - 1, by omega⟩
    simp only [moraineref01_Put.l0]
    rw [if_pos (by omega), if_pos (by omega), Int.tdiv_eq_ediv_of_nonneg h4, Int.tmod_eq_emod_of_nonneg h4, w64 (n := n / 256) (by omega) (by omega), w64 (n := (i : Int) + 1) (by omega) (by omega),
      show ((i : Int) + 1) = ((i + 1 : Nat) : Int) by omega, ih k w (i + 1) (n / 256) _ (by omega) h2 (by simp [h3]) (by omega) (by omega) (by omega)]
    have e : n / 256 / 256 ^ d = n / 256 ^ (d + 1) := by rw [Int.ediv_ediv_of_nonneg (by omega), Int.pow_succ, Int.mul_comm]
    rw [e, List.append_assoc, show n % 256 % 256 = n % 256 by omega]
    rfl
theorem putL_at {w n : Int} (h : okPut w n) : putL w.toNat n = putAt n w.toNat w.toNat := by
  rcases h with ⟨rfl, h0, h1⟩ | ⟨rfl, h0, h1⟩ | ⟨rfl, h0, h1⟩ | ⟨rfl, h0, h1⟩
  · show putL 1 n = putAt n 1 1
    rw [putAt1]; rfl
  · show putL 2 n = putAt n 2 2
    rw [putAt2]; rfl
  · show putL 3 n = putAt n 3 3
    rw [putAt3]; show [n % 256, n / 256 % 256, n / 256 / 256 % 256] = _
    rw [show n / 256 / 256 = n / 65536 by omega]
  · show putL 4 n = putAt n 4 4
    rw [putAt4]; show [n % 256, n / 256 % 256, n / 256 / 256 % 256, n / 256 / 256 / 256 % 256] = _
    rw [show n / 256 / 256 = n / 65536 by omega, show n / 65536 / 256 = n / 16777216 by omega]
theorem refput_eq (k : Nat) {w n : Int} (hn : n ≤ 9223372036854775807) : moraineref01_Put.f (k + 6) w n = some (if okPut w n then putAt n w.toNat w.toNat else []) := by
  have hj : moraineref01_Put.j0 (k + 6) w n [] true = some [] := by simp [moraineref01_Put.j0]
  unfold moraineref01_Put.f
  simp only [Option.bind_some]
  by_cases h1 : w < 1; · rw [if_pos h1, hj, if_neg (by unfold okPut; omega)]
  rw [if_neg h1]
  by_cases h2 : w > 4; · rw [if_pos h2, hj, if_neg (by unfold okPut; omega)]
  rw [if_neg h2]
  by_cases h3 : n < 0; · rw [decide_eq_true h3, hj, if_neg (by unfold okPut; omega)]
  rw [decide_eq_false h3]
  simp only [moraineref01_Put.j0]
  rw [if_neg (by simp)]
  have hl := refput_loop w.toNat (k + 5) w.toNat 0 n [] (by omega) (by omega) rfl (by omega) hn (by omega)
  rw [show ((w.toNat : Nat) : Int) = w by omega] at hl
  rw [show ((0 : Nat) : Int) = 0 from rfl] at hl
  rw [hl, List.nil_append]
  by_cases h : okPut w n
  · rw [if_pos h, putL_at h, if_neg]
    rcases h with ⟨rfl, h0, h1⟩ | ⟨rfl, h0, h1⟩ | ⟨rfl, h0, h1⟩ | ⟨rfl, h0, h1⟩
    · show ¬ n / 256 > 0; omega
    · show ¬ n / 65536 > 0; omega
    · show ¬ n / 16777216 > 0; omega
    · show ¬ n / 4294967296 > 0; omega
  · rw [if_neg h, if_pos]
    unfold okPut at h
    rcases (by omega : w = 1 ∨ w = 2 ∨ w = 3 ∨ w = 4) with rfl | rfl | rfl | rfl
    · show n / 256 > 0; omega
    · show n / 65536 > 0; omega
    · show n / 16777216 > 0; omega
    · show n / 4294967296 > 0; omega
theorem rd_sub (b : List Int) (at_ w : Int) (i : Nat) (h0 : 0 ≤ at_) (h1 : (i : Int) < w) : rd (sub b at_ w) (i : Int) = rd b (at_ + i) := by
  unfold rd sub
  rw [List.getD_eq_getElem?_getD, List.getD_eq_getElem?_getD, List.getElem?_drop, List.getElem?_take, if_pos (by omega)]
  congr 2
  omega
/-- The reference goes from the last byte to the first. -/
theorem refget_loop (b : List Int) (hb : Byt b) (hn : b.length ≤ 140737488355328) (at_ w : Int) (h0 : 0 ≤ at_) (hw : w ≤ 4) (h1 : at_ + w ≤ b.length) (i : Nat) : ∀ (k : Nat) (x : Int), (i : Int) ≤ w → 0 ≤ x → x < 2 ^ (8 * (4 - i)) → i < k →
    moraineref01_Get.l0 k b at_ x ((i : Int) - 1) = some (x * 2 ^ (8 * i) + getL (sub b at_ w) i, true) := by
  induction i with
  | zero =>
    intro k x hi x0 x1 hk
    obtain ⟨k, rfl⟩ : ∃ m, k = m + 1 := ⟨k - 1, by omega⟩
    simp only [moraineref01_Get.l0]
    rw [if_neg (by omega)]
    simp [getL]
  | succ i ih =>
    intro k x hi x0 x1 hk
    obtain ⟨k, rfl⟩ : ∃ m, k = m + 1 := ⟨k - 1, by omega⟩
    simp only [moraineref01_Get.l0]
    have hr := rd_byt hb (at_ + i)
    have hx : x < 16777216 := by
      refine Int.lt_of_lt_of_le x1 ?_
      have : (2 ^ (8 * (4 - (i + 1))) : Nat) ≤ 16777216 := Nat.pow_le_pow_right (by omega) (show 8 * (4 - (i + 1)) ≤ 24 by omega)
      have e : ((2 : Int) ^ (8 * (4 - (i + 1)))) = ((2 ^ (8 * (4 - (i + 1))) : Nat) : Int) := by simp
      rw [e]; omega
    rw [show ((i + 1 : Nat) : Int) - 1 = (i : Int) by omega, if_pos (by omega), w64 (n := at_ + (i : Int)) (by omega) (by omega), if_pos (by omega), if_pos (by omega), w64 (n := x * 256) (by omega) (by omega), w64 (n := rd b (at_ + i)) (by omega) (by omega),
      w64 (n := x * 256 + rd b (at_ + i)) (by omega) (by omega), w64 (n := (i : Int) - 1) (by omega) (by omega)]
    have hp : (2 : Int) ^ (8 * (4 - i)) = 2 ^ (8 * (4 - (i + 1))) * 256 := by
      rw [show 8 * (4 - i) = 8 * (4 - (i + 1)) + 8 by omega, Int.pow_add]; rfl
    rw [ih k (x * 256 + rd b (at_ + i)) (by omega) (by omega) (by rw [hp]; omega) (by omega)]
    have e2 : (2 : Int) ^ (8 * (i + 1)) = 2 ^ (8 * i) * 256 := by rw [show 8 * (i + 1) = 8 * i + 8 by omega, Int.pow_add]; rfl
    simp only [getL]
    rw [rd_sub b at_ w i h0 (by omega), e2, Int.add_mul]
    have : x * 256 * 2 ^ (8 * i) = x * (2 ^ (8 * i) * 256) := by rw [Int.mul_assoc, Int.mul_comm 256]
    rw [this]
    congr 2
    omega
theorem refget_eq (k : Nat) {b : List Int} (hb : Byt b) (hn : b.length ≤ 140737488355328) (at_ w : Int) : moraineref01_Get.f (k + 6) b at_ w = some (if okGet b at_ w then (getL (sub b at_ w) w.toNat, true) else (0, false)) := by
  have hj : moraineref01_Get.j0 (k + 6) b at_ w true = some (0, false) := by simp [moraineref01_Get.j0]
  unfold moraineref01_Get.f
  by_cases h1 : w < 1; · rw [if_pos h1, hj, if_neg (by unfold okGet; omega)]
  rw [if_neg h1]
  by_cases h2 : w > 4; · rw [if_pos h2, hj, if_neg (by unfold okGet; omega)]
  rw [if_neg h2]
  by_cases h3 : at_ < 0; · rw [if_pos h3, hj, if_neg (by unfold okGet; omega)]
  rw [if_neg h3]
  by_cases h4 : at_ > b.length; · rw [if_pos h4, hj, if_neg (by unfold okGet; omega)]
  rw [if_neg h4, w64 (by omega) (by omega)]
  by_cases h5 : (b.length : Int) - at_ < w
  · rw [decide_eq_true h5, hj, if_neg (by unfold okGet; omega)]
  · rw [decide_eq_false h5, if_pos (show okGet b at_ w by unfold okGet; omega)]
    simp only [moraineref01_Get.j0]
    rw [if_neg (by simp), w64 (by omega) (by omega)]
    have hl := refget_loop b hb hn at_ w (by omega) (by omega) (by omega) w.toNat (k + 5) 0 (by omega) (by omega) (Int.pow_pos (by omega)) (by omega)
    rw [show ((w.toNat : Nat) : Int) = w by omega, Int.zero_mul, Int.zero_add] at hl
    exact hl
def pathV (x : Int) : Int × Int × Int × Bool := if x < 0 ∨ 828 ≤ x then (0, 0, 0, false) else if x < 16 then (0, x, 0, true) else if x < 44 then (1, x - 16, 0, true) else (2, (x - 44) / 28, (x - 44) % 28, true)
theorem path_eq (k : Nat) (x : Int) : inode_Path.f (k + 1) x = some (pathV x) := by
  unfold inode_Path.f pathV
  by_cases h0 : x < 0
  · rw [if_pos h0, if_pos (.inl h0)]; simp [inode_Path.j0]
  rw [if_neg h0]
  by_cases h1 : 828 ≤ x
  · rw [if_pos (.inr h1), decide_eq_true h1]; simp [inode_Path.j0]
  rw [if_neg (by omega), decide_eq_false (by omega)]
  simp only [inode_Path.j0]
  rw [if_neg (by simp)]
  by_cases h2 : x < 16
  · rw [if_pos h2, if_pos h2]
  rw [if_neg h2, if_neg h2]
  by_cases h3 : x < 44
  · rw [if_pos h3, if_pos h3, w64 (by omega) (by omega)]
  rw [if_neg h3, if_neg h3, w64 (n := x - 44) (by omega) (by omega), Int.tdiv_eq_ediv_of_nonneg (by omega), Int.tmod_eq_emod_of_nonneg (by omega), w64 (by omega) (by omega)]
theorem refpath_eq (k : Nat) (x : Int) : moraineref14_Path.f (k + 1) x = some (pathV x) := by
  unfold moraineref14_Path.f pathV
  by_cases h0 : x < 0
  · rw [if_pos h0, if_pos (.inl h0)]; simp [moraineref14_Path.j0]
  rw [if_neg h0]
  by_cases h1 : 828 ≤ x
  · rw [if_pos (.inr h1), decide_eq_true (by omega)]; simp [moraineref14_Path.j0]
  rw [if_neg (by omega), decide_eq_false (by omega)]
  simp only [moraineref14_Path.j0]
  rw [if_neg (by simp)]
  by_cases h2 : x < 16
  · rw [if_pos h2, if_pos h2]
  rw [if_neg h2, if_neg h2]
  by_cases h3 : x < 44
  · rw [if_pos h3, if_pos h3, w64 (by omega) (by omega)]
  rw [if_neg h3, if_neg h3, w64 (n := x - 44) (by omega) (by omega), Int.tdiv_eq_ediv_of_nonneg (by omega), Int.tmod_eq_emod_of_nonneg (by omega), w64 (by omega) (by omega)]
theorem blocks_same (x : Int) : ∃ n, inode_Blocks.f x = some n ∧ moraineref14_Blocks.f x = some n := by
  unfold inode_Blocks.f moraineref14_Blocks.f
  by_cases h0 : x < 0
  · rw [if_pos h0, if_pos h0]; exact ⟨_, rfl, rfl⟩
  rw [if_neg h0, if_neg h0]
  by_cases h1 : x > 46368
  · rw [if_pos h1, if_pos h1]; exact ⟨_, rfl, rfl⟩
  rw [if_neg h1, if_neg h1, w64 (n := x + 56) (by omega) (by omega), w64 (n := x + 55) (by omega) (by omega), show x + 56 - 1 = x + 55 by omega, w64 (n := x + 55) (by omega) (by omega)]
  exact ⟨_, rfl, rfl⟩
theorem sameI_loop (x y : List Int) (hl : x.length = y.length) (hn : x.length ≤ 140737488355328) (d : Nat) : ∀ (k i : Nat), i + d = x.length → d < k →
    moraineref00_SameInts.l0 k x y (i : Int) = some (decide (x.drop i = y.drop i)) := by
  induction d with
  | zero =>
    intro k i hi hk
    obtain ⟨k, rfl⟩ : ∃ m, k = m + 1 := ⟨k - 1, by omega⟩
    simp only [moraineref00_SameInts.l0]
    rw [if_neg (by omega), List.drop_of_length_le (by omega), List.drop_of_length_le (by omega)]; simp
  | succ d ih =>
    intro k i hi hk
    obtain ⟨k, rfl⟩ : ∃ m, k = m + 1 := ⟨k - 1, by omega⟩
    simp only [moraineref00_SameInts.l0]
    rw [if_pos (by omega), if_pos (by omega), if_pos (by omega), rd_get (show i < x.length by omega), rd_get (show i < y.length by omega)]
    have ex : x.drop i = x[i] :: x.drop (i + 1) := List.drop_eq_getElem_cons (by omega)
    have ey : y.drop i = y[i] :: y.drop (i + 1) := List.drop_eq_getElem_cons (by omega)
    by_cases h : x[i] = y[i]
    · rw [if_pos h, w64 (by omega) (by omega)]
      have := ih k (i + 1) (by omega) (by omega)
      rw [show ((i : Int) + 1) = ((i + 1 : Nat) : Int) by omega, this]
      exact congrArg some (decide_eq_decide.2 ⟨fun e => by rw [ex, ey, h, e], fun e => by rw [ex, ey] at e; exact (List.cons.inj e).2⟩)
    · rw [if_neg h, decide_eq_false (fun e => by rw [ex, ey] at e; exact h (List.cons.inj e).1)]
theorem sameI_eq (x y : List Int) (hn : x.length ≤ 140737488355328) (k : Nat) (hk : x.length < k) : moraineref00_SameInts.f k x y = some (decide (x = y)) := by
  unfold moraineref00_SameInts.f
  by_cases hl : x.length = y.length
  · rw [if_pos (by omega)]
    have := sameI_loop x y hl hn x.length k 0 (by omega) hk
    simpa using this
  · rw [if_neg (by omega)]
    have : x ≠ y := fun e => hl (by rw [e])
    simp [this]
/-- The bytes of pointers. -/
def cat (l : List Int) : List Int := (l.map fun p => putAt p 2 2).flatten
theorem cat_snoc (l : List Int) (p : Int) : cat (l ++ [p]) = cat l ++ putAt p 2 2 := by simp [cat]
theorem cat_len (l : List Int) : (cat l).length = 2 * l.length := by
  induction l with
  | nil => rfl
  | cons p l ih =>
    have e : cat (p :: l) = putAt p 2 2 ++ cat l := by simp [cat]
    rw [e, List.length_append, putAt_length, ih, List.length_cons]; omega
def okP (p : Int) : Prop := 0 ≤ p ∧ p < 65536
instance (p : Int) : Decidable (okP p) := by unfold okP; infer_instance
def padV (x : List Int) : List Int × Bool := if x.length ≤ 56 then (padL x 56, true) else ([], false)
theorem padV_eq (x : List Int) : bits_Pad.f x 56 = some (padV x) := by
  unfold bits_Pad.f padV
  by_cases h : x.length ≤ 56
  · rw [if_neg (by omega), if_pos h]; rfl
  · rw [if_pos (by omega), if_neg h]
theorem put2_ok {p : Int} (h : okP p) : bits_Put.f 2 p = some (putAt p 2 2) := by
  unfold okP at h
  rw [put_eq (by omega), if_pos (by unfold okPut; omega)]; rfl
theorem put2_no {p : Int} (h : ¬ okP p) (hb : p ≤ 9223372036854775807) : bits_Put.f 2 p = some [] := by
  unfold okP at h
  rw [put_eq hb, if_neg (by unfold okPut; omega)]
theorem getI (l : List Int) (i : Nat) (h : i < l.length) : rd l (i : Int) = l[i] := rd_get h
theorem take_snoc' (l : List Int) (i : Nat) (h : i < l.length) : l.take (i + 1) = l.take i ++ [l[i]] := by rw [List.take_succ_eq_append_getElem h]
theorem drop_all {P : Int → Prop} (l : List Int) (i : Nat) (h : i < l.length) : (∀ x ∈ l.drop i, P x) ↔ (P l[i] ∧ ∀ x ∈ l.drop (i + 1), P x) := by
  rw [List.drop_eq_getElem_cons h]; simp only [List.mem_cons, forall_eq_or_imp]
theorem ip_loop (l : List Int) (hl : l.length ≤ 1000) (hb : ∀ x ∈ l, x ≤ 9223372036854775807) (d : Nat) : ∀ (k i : Nat), i + d = l.length → d < k →
    inode_PutPointers.l0 k (cat (l.take i)) l (l.length : Int) (i : Int) = some (if ∀ x ∈ l.drop i, okP x then padV (cat l) else ([], false)) := by
  induction d with
  | zero =>
    intro k i hi hk
    obtain ⟨k, rfl⟩ : ∃ m, k = m + 1 := ⟨k - 1, by omega⟩
    simp only [inode_PutPointers.l0]
    rw [if_neg (by omega), List.take_of_length_le (by omega), List.drop_of_length_le (by omega), padV_eq]
    simp
  | succ d ih =>
    intro k i hi hk
    obtain ⟨k, rfl⟩ : ∃ m, k = m + 1 := ⟨k - 1, by omega⟩
    have hlt : i < l.length := by omega
    have hbi := hb _ (List.getElem_mem hlt)
    have hc := cat_len (l.take i)
    rw [List.length_take] at hc
    simp only [inode_PutPointers.l0]
    rw [if_pos (by omega), if_pos (by omega), if_pos (by omega), getI l i hlt]
    by_cases hp : okP l[i]
    · rw [put2_ok hp]
      simp only [Option.bind_some]
      rw [if_neg (by rw [putAt_length]; decide), if_pos (by rw [putAt_length]; omega), w64 (by omega) (by omega)]
      have h := ih k (i + 1) (by omega) (by omega)
      rw [take_snoc' l i hlt, cat_snoc] at h
      rw [show ((i : Int) + 1) = ((i + 1 : Nat) : Int) by omega, h]
      congr 1
      by_cases hr : ∀ x ∈ l.drop (i + 1), okP x
      · rw [if_pos hr, if_pos ((drop_all l i hlt).2 ⟨hp, hr⟩)]
      · rw [if_neg hr, if_neg (fun hh => hr ((drop_all l i hlt).1 hh).2)]
    · rw [put2_no hp hbi]
      simp only [Option.bind_some]
      rw [if_pos (by simp), if_neg (fun hh => hp ((drop_all l i hlt).1 hh).1)]
def ppV (l : List Int) : List Int × Bool := if ∀ x ∈ l, okP x then padV (cat l) else ([], false)
theorem pp_eq (l : List Int) (hl : l.length ≤ 1000) (hb : ∀ x ∈ l, x ≤ 9223372036854775807) (k : Nat) (hk : l.length < k) : inode_PutPointers.f k l = some (ppV l) := by
  unfold inode_PutPointers.f
  exact ip_loop l hl hb l.length k 0 (by omega) hk
theorem ppV_big {l : List Int} (h : 28 < l.length) : ppV l = ([], false) := by
  unfold ppV padV
  have := cat_len l
  split
  · rw [if_neg (by omega)]
  · rfl
theorem ppV_len (l : List Int) : (ppV l).1.length ≤ 56 := by
  unfold ppV padV
  split
  · split
    · rename_i h; rw [padL_length _ _ h]; exact Nat.le_refl _
    · simp
  · simp
theorem rp_l1 (d : Nat) : ∀ (k : Nat) (acc : List Int), acc.length + d = 56 → d < k → moraineref14_PutPointers.l1 k acc = some (padL acc 56, true) := by
  induction d with
  | zero =>
    intro k acc hi hk
    obtain ⟨k, rfl⟩ : ∃ m, k = m + 1 := ⟨k - 1, by omega⟩
    simp only [moraineref14_PutPointers.l1]
    rw [if_neg (by omega)]
    unfold padL
    rw [show 56 - acc.length = 0 by omega]; simp
  | succ d ih =>
    intro k acc hi hk
    obtain ⟨k, rfl⟩ : ∃ m, k = m + 1 := ⟨k - 1, by omega⟩
    simp only [moraineref14_PutPointers.l1]
    rw [if_pos (by omega), if_pos (by omega), ih k (acc ++ [0]) (by simp; omega) (by omega)]
    unfold padL
    rw [show 56 - acc.length = (56 - (acc ++ [0]).length) + 1 by simp; omega, List.replicate_succ]; simp
theorem pointer_eq (p : Int) : moraineref14_pointer.f p = some (decide (okP p)) := by
  unfold moraineref14_pointer.f
  by_cases h : p ≥ 0
  · rw [if_pos h]
    exact congrArg some (decide_eq_decide.2 (by unfold okP; omega))
  · have h' : ¬ okP p := by unfold okP; omega
    rw [if_neg h, decide_eq_false h']
theorem rp_loop (l : List Int) (hl : l.length ≤ 28) (d : Nat) : ∀ (k i : Nat), i + d = l.length → d + 70 < k →
    moraineref14_PutPointers.l0 k l (cat (l.take i)) (i : Int) = some (if ∀ x ∈ l.drop i, okP x then padV (cat l) else ([], false)) := by
  induction d with
  | zero =>
    intro k i hi hk
    obtain ⟨k, rfl⟩ : ∃ m, k = m + 1 := ⟨k - 1, by omega⟩
    have hc := cat_len l
    simp only [moraineref14_PutPointers.l0]
    rw [if_neg (by omega), List.take_of_length_le (by omega), List.drop_of_length_le (by omega), rp_l1 (56 - (cat l).length) k (cat l) (by omega) (by omega), show padV (cat l) = (padL (cat l) 56, true) from if_pos (by omega)]
    simp
  | succ d ih =>
    intro k i hi hk
    obtain ⟨k, rfl⟩ : ∃ m, k = m + 6 + 1 := ⟨k - 7, by omega⟩
    have hlt : i < l.length := by omega
    have hc := cat_len (l.take i)
    rw [List.length_take] at hc
    simp only [moraineref14_PutPointers.l0]
    rw [if_pos (by omega), if_pos (by omega), getI l i hlt, pointer_eq]
    simp only [Option.bind_some]
    by_cases hp : okP l[i]
    · have hp' := hp
      unfold okP at hp'
      rw [decide_eq_true hp, if_pos rfl, refput_eq k (by omega), if_pos (by unfold okPut; omega)]
      simp only [Option.bind_some]
      rw [if_pos (by rw [putAt_length]; show (cat (l.take i)).length + (2 : Int).toNat < _; omega), w64 (by omega) (by omega)]
      have h := ih (k + 6) (i + 1) (by omega) (by omega)
      rw [take_snoc' l i hlt, cat_snoc] at h
      rw [show ((i : Int) + 1) = ((i + 1 : Nat) : Int) by omega]
      refine Eq.trans h ?_
      congr 1
      by_cases hr : ∀ x ∈ l.drop (i + 1), okP x
      · rw [if_pos hr, if_pos ((drop_all l i hlt).2 ⟨hp, hr⟩)]
      · rw [if_neg hr, if_neg (fun hh => hr ((drop_all l i hlt).1 hh).2)]
    · rw [decide_eq_false hp, if_neg (by simp), if_neg (fun hh => hp ((drop_all l i hlt).1 hh).1)]
theorem rpp_eq (l : List Int) (k : Nat) (hk : 200 ≤ k) : moraineref14_PutPointers.f k l = some (ppV l) := by
  unfold moraineref14_PutPointers.f
  by_cases h : (l.length : Int) > 28
  · rw [if_pos h, ppV_big (by omega)]
  · rw [if_neg h]
    exact rp_loop l (by omega) l.length k 0 (by omega) (by omega)
theorem tv_eq {l : List Int} (hb : Byt l) (a : Int) : tv l a 2 = if okGet l a 2 then getL (sub l a 2) 2 else 0 := by
  unfold tv
  split
  · exact getV_eq (sub_byt hb _ _) 2 (by decide)
  · rfl
theorem rg_loop (l : List Int) (hb : Byt l) (hl : l.length ≤ 1000) (d : Nat) : ∀ (k i : Nat), i + d = 28 → d + 10 < k → moraineref14_GetPointers.l0 k l (ptrs l i) (i : Int) = some (ptrs l 28, true) := by
  induction d with
  | zero =>
    intro k i hi hk
    obtain ⟨k, rfl⟩ : ∃ m, k = m + 1 := ⟨k - 1, by omega⟩
    simp only [moraineref14_GetPointers.l0]
    rw [if_neg (by omega), show i = 28 by omega]
  | succ d ih =>
    intro k i hi hk
    obtain ⟨k, rfl⟩ : ∃ m, k = m + 6 + 1 := ⟨k - 7, by omega⟩
    simp only [moraineref14_GetPointers.l0]
    rw [if_pos (by omega), w64 (n := 2 * (i : Int)) (by omega) (by omega), refget_eq k hb (by omega)]
    simp only [Option.bind_some]
    rw [if_pos (by rw [ptrs_length]; omega), w64 (by omega) (by omega)]
    have h := ih (k + 6) (i + 1) (by omega) (by omega)
    rw [ptrs_succ, tv_eq hb] at h
    have e : ((2 * i : Nat) : Int) = 2 * (i : Int) := by omega
    rw [e] at h
    have e2 : (if okGet l (2 * (i : Int)) 2 then (getL (sub l (2 * (i : Int)) 2) (2 : Int).toNat, true) else (0, false)).1 = if okGet l (2 * (i : Int)) 2 then getL (sub l (2 * (i : Int)) 2) 2 else 0 := by
      split <;> rfl
    rw [e2, show ((i : Int) + 1) = ((i + 1 : Nat) : Int) by omega]
    exact h
theorem rgp_eq (l : List Int) (hb : Byt l) (hl : l.length ≤ 1000) (k : Nat) (hk : 200 ≤ k) : moraineref14_GetPointers.f k l = some (if l.length = 56 then (ptrs l 28, true) else ([], false)) := by
  unfold moraineref14_GetPointers.f
  by_cases h : l.length = 56
  · rw [if_pos (by omega), if_pos h]
    simpa [ptrs] using rg_loop l hb hl 28 k 0 (by omega) (by omega)
  · rw [if_neg (by omega), if_neg h]
theorem InodePointers : morainelaw14_InodePointers.Pure := by
  intro l0 l1 n _ hz0 hw0 _ hz1 hw1 _
  obtain ⟨K, hK⟩ : ∃ K, K = 5000 + 1 := ⟨_, rfl⟩
  refine ⟨K, ?_⟩
  have hb : Byt l1 := fun x hx => u8_bd (hw1 x hx)
  have hi : ∀ x ∈ l0, x ≤ 9223372036854775807 := fun x hx => (i64_bd (hw0 x hx)).2
  unfold morainelaw14_InodePointers.f
  rw [show morainelaw14_alive.f = some true from rfl]
  simp only [Option.bind_some]
  rw [if_pos trivial]
  by_cases h0 : (l0.length : Int) > 1000
  · rw [if_pos h0, hK]; simp [morainelaw14_InodePointers.j0]
  rw [if_neg h0]
  by_cases h1 : (l1.length : Int) > 1000
  · rw [decide_eq_true h1, hK]; simp [morainelaw14_InodePointers.j0]
  rw [decide_eq_false h1, hK]
  simp only [morainelaw14_InodePointers.j0]
  rw [if_neg (by simp)]
  have hcopy : moraineref00_CopyInts.f l0 = some l0 := by
    unfold moraineref00_CopyInts.f
    simp only [Option.bind_some]
    rw [if_pos (by simp; omega)]; rfl
  obtain ⟨b, hb1, hb2⟩ := blocks_same n
  have hp1 : (ppV l0).1.length < 5000 := by have := ppV_len l0; omega
  have hg : inode_GetPointers.f l1 = some (if l1.length = 56 then (ptrs l1 28, true) else ([], false)) := rfl
  have hg1 : (if l1.length = 56 then (ptrs l1 28, true) else ([], false)).1.length ≤ 28 := by
    split
    · rw [ptrs_length]; exact Nat.le_refl _
    · simp
  rw [hcopy]
  simp only [Option.bind_some]
  rw [pp_eq l0 (by omega) hi 5000 (by omega), rpp_eq l0 5000 (by omega), hg, rgp_eq l1 hb (by omega) 5000 (by omega), path_eq 4999, refpath_eq 4999, hb1, hb2]
  simp only [Option.bind_some]
  rw [same_eq _ _ (by omega) 5000 hp1, sameI_eq _ _ (by omega) 5000 (by omega), sameI_eq l0 l0 (by omega) 5000 (by omega)]
  simp
end Go.Proofs.Ythmfhhkedmloeaa.Pure
