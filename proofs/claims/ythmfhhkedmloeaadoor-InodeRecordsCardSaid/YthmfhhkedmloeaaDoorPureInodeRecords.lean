/- Plain laws over whole numbers and lists: PureInodeRecords. -/
import Derived.Test.YthmfhhkedmloeaaDoorGivInodeGet
import Derived.Test.YthmfhhkedmloeaaDoorWMore
import Derived.Test.YthmfhhkedmloeaaDoorQInodeRecordsx
import Derived.KernelRfl
import Derived.Laws.BitsLemmas
import Derived.Laws.BitsAllLaws
namespace Go.Proofs.YthmfhhkedmloeaaDoor.Pure
open Go.RowKit Go.Proofs.YthmfhhkedmloeaaDoor.PInodeRecords Go.Proofs.YthmfhhkedmloeaaDoor.Given Go.Proofs.YthmfhhkedmloeaaDoorW.PrintWords Go.Proofs.YthmfhhkedmloeaaDoorW.PrintLast Go.Proofs.YthmfhhkedmloeaaDoorW.PrintMore
set_option linter.unusedVariables false
set_option linter.unusedSimpArgs false
theorem w64 {n : Int} (h0 : -9223372036854775808 ≤ n) (h1 : n ≤ 9223372036854775807) : wrap64 n = n := by unfold wrap64; omega
theorem i64_bd {n : Int} (h : (Lit.int .i64 n).wf = true) : -9223372036854775808 ≤ n ∧ n ≤ 9223372036854775807 := by simpa [Lit.wf, IntKind.min, IntKind.max, IntKind.signed, IntKind.bits] using h
theorem u8_bd {n : Int} (h : (Lit.int .u8 n).wf = true) : 0 ≤ n ∧ n ≤ 255 := by simpa [Lit.wf, IntKind.min, IntKind.max, IntKind.signed, IntKind.bits] using h
theorem rd_get {xs : List Int} {i : Nat} (h : i < xs.length) : rd xs (i : Int) = xs[i] := by simp [rd, h]
def Byt (l : List Int) : Prop := ∀ x ∈ l, 0 ≤ x ∧ x ≤ 255
theorem rd_byt {l : List Int} (h : Byt l) (i : Int) : 0 ≤ rd l i ∧ rd l i ≤ 255 := by
  unfold rd
  by_cases hi : i.toNat < l.length
  · rw [List.getD_eq_getElem?_getD, List.getElem?_eq_getElem hi]; exact h _ (List.getElem_mem hi)
  · rw [List.getD_eq_getElem?_getD, List.getElem?_eq_none (by omega)]; simp
theorem or_sum (j i : Nat) (x y : Int) (hj : j ≤ 62) (hx0 : 0 ≤ x) (hx : x % 2 ^ i = 0) (hx1 : x < 2 ^ j) (hy0 : 0 ≤ y) (hy : y < 2 ^ i) (hy1 : y < 2 ^ j) : Go.bits .or .i64 y x = y + x := by
  have hc : Go.bits .or .i64 y x = Go.bits .or .i64 x y := by simp only [Go.bits, BitVec.or_comm]
  rw [hc, bits_join .i64 j (by show j ≤ 64; omega) (fun n h0 h1 => by
    have : (2 : Int) ^ j ≤ 2 ^ 62 := by exact_mod_cast Nat.pow_le_pow_right (by omega) hj
    have h3 : n < (2 : Int) ^ 62 := Int.lt_of_lt_of_le h1 this
    have e62 : (2 : Int) ^ 62 = 4611686018427387904 := by kernel_rfl
    have h2 : n < 4611686018427387904 := by rw [e62] at h3; exact h3
    clear this h3 e62
    show IntKind.i64.wrap n = n
    simp only [IntKind.wrap, IntKind.signed, IntKind.bits]
    simp
    omega) i x y hx0 hx hx1 hy0 hy hy1]
  omega
theorem shl_at {c : Int} (i m : Nat) (h0 : 0 ≤ c) (h1 : c ≤ 255) (hm : m = 2 ^ i) (hi : i ≤ 24) : shl .i64 c (i : Int) = c * m := by
  unfold shl
  have e : min (i : Int).toNat IntKind.i64.bits = i := by show min i 64 = i; omega
  rw [e]
  have hp : (2 : Int) ^ i = (m : Int) := by rw [hm]; simp
  rw [hp]
  have hle0 : m ≤ 16777216 := by rw [hm]; exact Nat.pow_le_pow_right (by omega) hi
  have hle : (m : Int) ≤ 16777216 := by omega
  have hb : 0 ≤ c * (m : Int) ∧ c * (m : Int) ≤ 255 * 16777216 := ⟨Int.mul_nonneg h0 (by omega), Int.mul_le_mul h1 hle (by omega) (by omega)⟩
  simp only [IntKind.wrap, IntKind.signed, IntKind.bits]
  simp
  omega
/-- The number that the first w bytes tell. -/
def getL (s : List Int) : Nat → Int
  | 0 => 0
  | i + 1 => getL s i + rd s (i : Int) * 2 ^ (8 * i)
theorem getL_bd {s : List Int} (hs : Byt s) (i : Nat) : 0 ≤ getL s i ∧ getL s i < 2 ^ (8 * i) := by
  induction i with
  | zero => simp [getL]
  | succ i ih =>
    have hb := rd_byt hs (i : Int)
    have hp : (0 : Int) < 2 ^ (8 * i) := Int.pow_pos (by omega)
    have e : (2 : Int) ^ (8 * (i + 1)) = 2 ^ (8 * i) * 256 := by rw [show 8 * (i + 1) = 8 * i + 8 by omega, Int.pow_add]; rfl
    have h1 : 0 ≤ rd s (i : Int) * 2 ^ (8 * i) := Int.mul_nonneg hb.1 (by omega)
    have h2 : rd s (i : Int) * 2 ^ (8 * i) ≤ 255 * 2 ^ (8 * i) := Int.mul_le_mul_of_nonneg_right hb.2 (by omega)
    simp only [getL]
    omega
theorem sub_byt {b : List Int} (h : Byt b) (at_ w : Int) : Byt (sub b at_ w) := fun x hx => h x (List.mem_of_mem_take (List.mem_of_mem_drop hx))
theorem getV_eq {s : List Int} (hs : Byt s) (i : Nat) (hi : i ≤ 4) : getV s i = getL s i := by
  induction i with
  | zero => rfl
  | succ i ih =>
    have hb := rd_byt hs (i : Int)
    have hl := getL_bd hs i
    have hm : (2 ^ (8 * i) : Nat) ≤ 16777216 := Nat.pow_le_pow_right (by omega) (show 8 * i ≤ 24 by omega)
    have hp : ((2 : Int) ^ (8 * i)) = ((2 ^ (8 * i) : Nat) : Int) := by simp
    simp only [getV, getL]
    rw [ih (by omega), w64 (n := rd s (i : Int)) (by omega) (by omega), shl_at (c := rd s (i : Int)) (8 * i) (2 ^ (8 * i)) hb.1 hb.2 rfl (by omega)]
    generalize hM : 2 ^ (8 * i) = M at *
    have hb2 : 0 ≤ rd s (i : Int) * (M : Int) ∧ rd s (i : Int) * (M : Int) ≤ 255 * 16777216 := ⟨Int.mul_nonneg hb.1 (by omega), Int.mul_le_mul hb.2 (by omega) (by omega) (by omega)⟩
    rw [hp] at hl ⊢
    exact or_sum 40 (8 * i) _ _ (by omega) hb2.1 (by rw [hp]; exact Int.mul_emod_left _ _) (by omega) hl.1 (by rw [hp]; exact hl.2) (by omega)
theorem putAt1 (n : Int) : putAt n 1 1 = [n % 256] := by
  show [shr .i64 n ((8 * 0 : Nat) : Int) % 256] = _
  rw [sh0]
theorem putAt2 (n : Int) : putAt n 2 2 = [n % 256, n / 256 % 256] := by
  show [shr .i64 n ((8 * 0 : Nat) : Int) % 256, shr .i64 n ((8 * 1 : Nat) : Int) % 256] = _
  rw [sh0, sh1]
theorem putAt3 (n : Int) : putAt n 3 3 = [n % 256, n / 256 % 256, n / 65536 % 256] := by
  show [shr .i64 n ((8 * 0 : Nat) : Int) % 256, shr .i64 n ((8 * 1 : Nat) : Int) % 256, shr .i64 n ((8 * 2 : Nat) : Int) % 256] = _
  rw [sh0, sh1, sh2]
theorem putAt4 (n : Int) : putAt n 4 4 = [n % 256, n / 256 % 256, n / 65536 % 256, n / 16777216 % 256] := by
  show [shr .i64 n ((8 * 0 : Nat) : Int) % 256, shr .i64 n ((8 * 1 : Nat) : Int) % 256, shr .i64 n ((8 * 2 : Nat) : Int) % 256, shr .i64 n ((8 * 3 : Nat) : Int) % 256] = _
  rw [sh0, sh1, sh2, sh3]
theorem putAt_byt (n : Int) (w : Nat) : Byt (putAt n w w) := by
  intro x hx
  simp only [putAt, List.mem_map, List.mem_range] at hx
  obtain ⟨i, hi, rfl⟩ := hx
  rw [if_pos hi]; omega
theorem put_eq {w n : Int} (h : n ≤ 9223372036854775807) : bits_Put.f w n = some (if okPut w n then putAt n w.toNat w.toNat else []) := by
  unfold bits_Put.f; rw [if_neg (by omega)]
/-- What is put is got again. -/
theorem put_get {w n : Int} (h : okPut w n) : getL (putAt n w.toNat w.toNat) w.toNat = n := by
  rcases h with ⟨rfl, h0, h1⟩ | ⟨rfl, h0, h1⟩ | ⟨rfl, h0, h1⟩ | ⟨rfl, h0, h1⟩
  · show getL (putAt n 1 1) 1 = n
    rw [putAt1]; simp [getL, rd]; omega
  · show getL (putAt n 2 2) 2 = n
    rw [putAt2]; simp [getL, rd]; omega
  · show getL (putAt n 3 3) 3 = n
    rw [putAt3]; simp [getL, rd]; omega
  · show getL (putAt n 4 4) 4 = n
    rw [putAt4]; simp [getL, rd]; omega
theorem okPut_le {w n : Int} (h : okPut w n) : 1 ≤ w ∧ w ≤ 4 := by unfold okPut at h; omega
theorem get_eq {b : List Int} (hb : Byt b) (hn : b.length ≤ 140737488355328) (at_ w : Int) : bits_Get.f b at_ w = some (if okGet b at_ w then (getL (sub b at_ w) w.toNat, true) else (0, false)) := by
  unfold bits_Get.f
  rw [if_neg (by omega)]
  by_cases h : okGet b at_ w
  · rw [if_pos h, if_pos h, getV_eq (sub_byt hb _ _) _ (by have := h.2.1; omega)]
  · rw [if_neg h, if_neg h]
theorem same_loop (x y : List Int) (hl : x.length = y.length) (hn : x.length ≤ 140737488355328) (d : Nat) : ∀ (k i : Nat), i + d = x.length → d < k →
    moraineref00_SameBytes.l0 k x y (i : Int) = some (decide (x.drop i = y.drop i)) := by
  induction d with
  | zero =>
    intro k i hi hk
    obtain ⟨k, rfl⟩ : ∃ m, k = m + 1 := ⟨k - 1, by omega⟩
    simp only [moraineref00_SameBytes.l0]
    rw [if_neg (by omega), List.drop_of_length_le (by omega), List.drop_of_length_le (by omega)]; simp
  | succ d ih =>
    intro k i hi hk
    obtain ⟨k, rfl⟩ : ∃ m, k = m + 1 := ⟨k - 1, by omega⟩
    simp only [moraineref00_SameBytes.l0]
    rw [if_pos (by omega), if_pos (by omega), if_pos (by omega), rd_get (show i < x.length by omega), rd_get (show i < y.length by omega)]
    have ex : x.drop i = x[i] :: x.drop (i + 1) := List.drop_eq_getElem_cons (by omega)
    have ey : y.drop i = y[i] :: y.drop (i + 1) := List.drop_eq_getElem_cons (by omega)
    by_cases h : x[i] = y[i]
    · rw [if_pos h, w64 (by omega) (by omega)]
      have := ih k (i + 1) (by omega) (by omega)
      rw [show ((i : Int) + 1) = ((i + 1 : Nat) : Int) by omega, this]
      exact congrArg some (decide_eq_decide.2 ⟨fun e => by rw [ex, ey, h, e], fun e => by rw [ex, ey] at e; exact (List.cons.inj e).2⟩)
    · rw [if_neg h, decide_eq_false (fun e => by rw [ex, ey] at e; exact h (List.cons.inj e).1)]
theorem same_eq (x y : List Int) (hn : x.length ≤ 140737488355328) (k : Nat) (hk : x.length < k) : moraineref00_SameBytes.f k x y = some (decide (x = y)) := by
  unfold moraineref00_SameBytes.f
  by_cases hl : x.length = y.length
  · rw [if_pos (by omega)]
    have := same_loop x y hl hn x.length k 0 (by omega) hk
    simpa using this
  · rw [if_neg (by omega)]
    have : x ≠ y := fun e => hl (by rw [e])
    simp [this]
def putL : Nat → Int → List Int
  | 0, _ => []
  | w + 1, n => n % 256 :: putL w (n / 256)
theorem refput_loop (d : Nat) : ∀ (k : Nat) (w i : Nat) (n : Int) (acc : List Int), i + d = w → w ≤ 4 → acc.length = i → 0 ≤ n → n ≤ 9223372036854775807 → d < k →
    moraineref01_Put.l0 k (w : Int) n acc (i : Int) = some (if n / 256 ^ d > 0 then [] else acc ++ putL d n) := by
  induction d with
  | zero =>
    intro k w i n acc h1 h2 h3 h4 h5 hk
    obtain ⟨k, rfl⟩ : ∃ m, k = m + 1 := ⟨k - 1, by omega⟩
    simp only [moraineref01_Put.l0]
    rw [if_neg (by omega)]
    simp only [Int.pow_zero, Int.ediv_one, putL, List.append_nil]
    split <;> rfl
  | succ d ih =>
    intro k w i n acc h1 h2 h3 h4 h5 hk
    obtain ⟨k, rfl⟩ : ∃ m, k = m + 1 := ⟨k - 1, by omega⟩
    simp only [moraineref01_Put.l0]
    rw [if_pos (by omega), if_pos (by omega), Int.tdiv_eq_ediv_of_nonneg h4, Int.tmod_eq_emod_of_nonneg h4, w64 (n := n / 256) (by omega) (by omega), w64 (n := (i : Int) + 1) (by omega) (by omega),
      show ((i : Int) + 1) = ((i + 1 : Nat) : Int) by omega, ih k w (i + 1) (n / 256) _ (by omega) h2 (by simp [h3]) (by omega) (by omega) (by omega)]
    have e : n / 256 / 256 ^ d = n / 256 ^ (d + 1) := by rw [Int.ediv_ediv_of_nonneg (by omega), Int.pow_succ, Int.mul_comm]
    rw [e, List.append_assoc, show n % 256 % 256 = n % 256 by omega]
    rfl
theorem putL_at {w n : Int} (h : okPut w n) : putL w.toNat n = putAt n w.toNat w.toNat := by
  rcases h with ⟨rfl, h0, h1⟩ | ⟨rfl, h0, h1⟩ | ⟨rfl, h0, h1⟩ | ⟨rfl, h0, h1⟩
  · show putL 1 n = putAt n 1 1
    rw [putAt1]; rfl
  · show putL 2 n = putAt n 2 2
    rw [putAt2]; rfl
  · show putL 3 n = putAt n 3 3
    rw [putAt3]; show [n % 256, n / 256 % 256, n / 256 / 256 % 256] = _
    rw [show n / 256 / 256 = n / 65536 by omega]
  · show putL 4 n = putAt n 4 4
    rw [putAt4]; show [n % 256, n / 256 % 256, n / 256 / 256 % 256, n / 256 / 256 / 256 % 256] = _
    rw [show n / 256 / 256 = n / 65536 by omega, show n / 65536 / 256 = n / 16777216 by omega]
theorem refput_eq (k : Nat) {w n : Int} (hn : n ≤ 9223372036854775807) : moraineref01_Put.f (k + 6) w n = some (if okPut w n then putAt n w.toNat w.toNat else []) := by
  have hj : moraineref01_Put.j0 (k + 6) w n [] true = some [] := by simp [moraineref01_Put.j0]
  unfold moraineref01_Put.f
  simp only [Option.bind_some]
  by_cases h1 : w < 1; · rw [if_pos h1, hj, if_neg (by unfold okPut; omega)]
  rw [if_neg h1]
  by_cases h2 : w > 4; · rw [if_pos h2, hj, if_neg (by unfold okPut; omega)]
  rw [if_neg h2]
  by_cases h3 : n < 0; · rw [decide_eq_true h3, hj, if_neg (by unfold okPut; omega)]
  rw [decide_eq_false h3]
  simp only [moraineref01_Put.j0]
  rw [if_neg (by simp)]
  have hl := refput_loop w.toNat (k + 5) w.toNat 0 n [] (by omega) (by omega) rfl (by omega) hn (by omega)
  rw [show ((w.toNat : Nat) : Int) = w by omega] at hl
  rw [show ((0 : Nat) : Int) = 0 from rfl] at hl
  rw [hl, List.nil_append]
  by_cases h : okPut w n
  · rw [if_pos h, putL_at h, if_neg]
    rcases h with ⟨rfl, h0, h1⟩ | ⟨rfl, h0, h1⟩ | ⟨rfl, h0, h1⟩ | ⟨rfl, h0, h1⟩
    · show ¬ n / 256 > 0; omega
    · show ¬ n / 65536 > 0; omega
    · show ¬ n / 16777216 > 0; omega
    · show ¬ n / 4294967296 > 0; omega
  · rw [if_neg h, if_pos]
    unfold okPut at h
    rcases (by omega : w = 1 ∨ w = 2 ∨ w = 3 ∨ w = 4) with rfl | rfl | rfl | rfl
    · show n / 256 > 0; omega
    · show n / 65536 > 0; omega
    · show n / 16777216 > 0; omega
    · show n / 4294967296 > 0; omega
theorem rd_sub (b : List Int) (at_ w : Int) (i : Nat) (h0 : 0 ≤ at_) (h1 : (i : Int) < w) : rd (sub b at_ w) (i : Int) = rd b (at_ + i) := by
  unfold rd sub
  rw [List.getD_eq_getElem?_getD, List.getD_eq_getElem?_getD, List.getElem?_drop, List.getElem?_take, if_pos (by omega)]
  congr 2
  omega
/-- The reference goes from the last byte to the first. -/
theorem refget_loop (b : List Int) (hb : Byt b) (hn : b.length ≤ 140737488355328) (at_ w : Int) (h0 : 0 ≤ at_) (hw : w ≤ 4) (h1 : at_ + w ≤ b.length) (i : Nat) : ∀ (k : Nat) (x : Int), (i : Int) ≤ w → 0 ≤ x → x < 2 ^ (8 * (4 - i)) → i < k →
    moraineref01_Get.l0 k b at_ x ((i : Int) - 1) = some (x * 2 ^ (8 * i) + getL (sub b at_ w) i, true) := by
  induction i with
  | zero =>
    intro k x hi x0 x1 hk
    obtain ⟨k, rfl⟩ : ∃ m, k = m + 1 := ⟨k - 1, by omega⟩
    simp only [moraineref01_Get.l0]
    rw [if_neg (by omega)]
    simp [getL]
  | succ i ih =>
    intro k x hi x0 x1 hk
    obtain ⟨k, rfl⟩ : ∃ m, k = m + 1 := ⟨k - 1, by omega⟩
    simp only [moraineref01_Get.l0]
    have hr := rd_byt hb (at_ + i)
    have hx : x < 16777216 := by
      refine Int.lt_of_lt_of_le x1 ?_
      have : (2 ^ (8 * (4 - (i + 1))) : Nat) ≤ 16777216 := Nat.pow_le_pow_right (by omega) (show 8 * (4 - (i + 1)) ≤ 24 by omega)
      have e : ((2 : Int) ^ (8 * (4 - (i + 1)))) = ((2 ^ (8 * (4 - (i + 1))) : Nat) : Int) := by simp
      rw [e]; omega
    rw [show ((i + 1 : Nat) : Int) - 1 = (i : Int) by omega, if_pos (by omega), w64 (n := at_ + (i : Int)) (by omega) (by omega), if_pos (by omega), if_pos (by omega), w64 (n := x * 256) (by omega) (by omega), w64 (n := rd b (at_ + i)) (by omega) (by omega),
      w64 (n := x * 256 + rd b (at_ + i)) (by omega) (by omega), w64 (n := (i : Int) - 1) (by omega) (by omega)]
    have hp : (2 : Int) ^ (8 * (4 - i)) = 2 ^ (8 * (4 - (i + 1))) * 256 := by
      rw [show 8 * (4 - i) = 8 * (4 - (i + 1)) + 8 by omega, Int.pow_add]; rfl
    rw [ih k (x * 256 + rd b (at_ + i)) (by omega) (by omega) (by rw [hp]; omega) (by omega)]
    have e2 : (2 : Int) ^ (8 * (i + 1)) = 2 ^ (8 * i) * 256 := by rw [show 8 * (i + 1) = 8 * i + 8 by omega, Int.pow_add]; rfl
    simp only [getL]
    rw [rd_sub b at_ w i h0 (by omega), e2, Int.add_mul]
    have : x * 256 * 2 ^ (8 * i) = x * (2 ^ (8 * i) * 256) := by rw [Int.mul_assoc, Int.mul_comm 256]
    rw [this]
    congr 2
    omega
theorem refget_eq (k : Nat) {b : List Int} (hb : Byt b) (hn : b.length ≤ 140737488355328) (at_ w : Int) : moraineref01_Get.f (k + 6) b at_ w = some (if okGet b at_ w then (getL (sub b at_ w) w.toNat, true) else (0, false)) := by
  have hj : moraineref01_Get.j0 (k + 6) b at_ w true = some (0, false) := by simp [moraineref01_Get.j0]
  unfold moraineref01_Get.f
  by_cases h1 : w < 1; · rw [if_pos h1, hj, if_neg (by unfold okGet; omega)]
  rw [if_neg h1]
  by_cases h2 : w > 4; · rw [if_pos h2, hj, if_neg (by unfold okGet; omega)]
  rw [if_neg h2]
  by_cases h3 : at_ < 0; · rw [if_pos h3, hj, if_neg (by unfold okGet; omega)]
  rw [if_neg h3]
  by_cases h4 : at_ > b.length; · rw [if_pos h4, hj, if_neg (by unfold okGet; omega)]
  rw [if_neg h4, w64 (by omega) (by omega)]
  by_cases h5 : (b.length : Int) - at_ < w
  · rw [decide_eq_true h5, hj, if_neg (by unfold okGet; omega)]
  · rw [decide_eq_false h5, if_pos (show okGet b at_ w by unfold okGet; omega)]
    simp only [moraineref01_Get.j0]
    rw [if_neg (by simp), w64 (by omega) (by omega)]
    have hl := refget_loop b hb hn at_ w (by omega) (by omega) (by omega) w.toNat (k + 5) 0 (by omega) (by omega) (Int.pow_pos (by omega)) (by omega)
    rw [show ((w.toNat : Nat) : Int) = w by omega, Int.zero_mul, Int.zero_add] at hl
    exact hl
theorem getL1' (a : Int) : getL [a] 1 = a := by simp [getL, rd]
theorem getL2' (a b : Int) : getL [a, b] 2 = a + b * 256 := by simp [getL, rd]
theorem getL4' (a b c d : Int) : getL [a, b, c, d] 4 = a + b * 256 + c * 65536 + d * 16777216 := by simp [getL, rd]
theorem put_getL {s : List Int} (hb : Byt s) (w : Int) (hw : w = 1 ∨ w = 2 ∨ w = 4) (hl : (s.length : Int) = w) : okPut w (getL s w.toNat) ∧ putAt (getL s w.toNat) w.toNat w.toNat = s := by
  rcases hw with rfl | rfl | rfl
  · match s, hl with
    | [a], _ =>
      have ha := hb a (by simp)
      rw [show (1 : Int).toNat = 1 from rfl, getL1', putAt1]
      exact ⟨by unfold okPut; omega, by rw [show a % 256 = a by omega]⟩
  · match s, hl with
    | [a, b], _ =>
      have ha := hb a (by simp); have hb' := hb b (by simp)
      rw [show (2 : Int).toNat = 2 from rfl, getL2', putAt2]
      refine ⟨by unfold okPut; omega, ?_⟩
      rw [show (a + b * 256) % 256 = a by omega, show (a + b * 256) / 256 % 256 = b by omega]
  · match s, hl with
    | [a, b, c, d], _ =>
      have ha := hb a (by simp); have hb' := hb b (by simp); have hc := hb c (by simp); have hd := hb d (by simp)
      rw [show (4 : Int).toNat = 4 from rfl, getL4', putAt4]
      refine ⟨by unfold okPut; omega, ?_⟩
      rw [show (a + b * 256 + c * 65536 + d * 16777216) % 256 = a by omega, show (a + b * 256 + c * 65536 + d * 16777216) / 256 % 256 = b by omega, show (a + b * 256 + c * 65536 + d * 16777216) / 65536 % 256 = c by omega, show (a + b * 256 + c * 65536 + d * 16777216) / 16777216 % 256 = d by omega]
theorem wid_of (j : Nat) : wid j = 1 ∨ wid j = 2 ∨ wid j = 4 := by
  unfold wid; split
  · exact .inl rfl
  · split
    · exact .inr (.inr rfl)
    · exact .inr (.inl rfl)
theorem offs_mono {i j : Nat} (h : i ≤ j) : offs i ≤ offs j := by
  induction j with
  | zero => rw [Nat.le_zero.1 h]; exact Nat.le_refl _
  | succ j ih =>
    rcases Nat.lt_or_ge i (j + 1) with h1 | h1
    · have h2 := ih (by omega)
      have h3 := offs_succ j
      have h4 := wid_of j
      omega
    · rw [show i = j + 1 by omega]; exact Nat.le_refl _
theorem sub_len {L : List Int} (hl : L.length = 56) {j : Nat} (hj : j < 21) : ((sub L ((offs j : Nat) : Int) (wid j)).length : Int) = wid j := by
  have h1 := offs_mono (show j + 1 ≤ 21 by omega)
  have h2 : offs 21 = 43 := rfl
  have h3 := offs_succ j
  have h4 := wid_of j
  unfold sub
  rw [List.length_drop, List.length_take, hl, h3, Int.toNat_natCast, Int.toNat_natCast]
  omega
theorem okGet_at {L : List Int} (hl : L.length = 56) {j : Nat} (hj : j < 21) : okGet L ((offs j : Nat) : Int) (wid j) := by
  have h1 := offs_mono (show j + 1 ≤ 21 by omega)
  have h2 : offs 21 = 43 := rfl
  have h3 := offs_succ j
  have h4 := wid_of j
  unfold okGet
  omega
theorem fv_eq {L : List Int} (hb : Byt L) (hl : L.length = 56) {j : Nat} (hj : j < 21) : fv L j = getL (sub L ((offs j : Nat) : Int) (wid j)) (wid j).toNat := by
  unfold fv tv
  rw [if_pos (okGet_at hl hj), getV_eq (sub_byt hb _ _) _ (by have := wid_of j; omega)]
theorem pv_fv {L : List Int} (hb : Byt L) (hl : L.length = 56) {j : Nat} (hj : j < 21) : pv (wid j) (fv L j) = sub L ((offs j : Nat) : Int) (wid j) := by
  have h := put_getL (sub_byt hb ((offs j : Nat) : Int) (wid j)) (wid j) (wid_of j) (sub_len hl hj)
  rw [fv_eq hb hl hj]
  unfold pv
  rw [if_pos h.1, h.2]
theorem subs_take (L : List Int) (n : Nat) : ((List.range n).map fun j => sub L ((offs j : Nat) : Int) (wid j)).flatten = L.take (offs n) := by
  induction n with
  | zero => rfl
  | succ n ih =>
    have h3 := offs_succ n
    have h4 := wid_of n
    rw [List.range_succ, List.map_append, List.flatten_append, ih]
    simp only [List.map_cons, List.map_nil, List.flatten_cons, List.flatten_nil, List.append_nil]
    unfold sub
    rw [h3, Int.toNat_natCast, Int.toNat_natCast]
    have e : L.take (offs n) = (L.take (offs (n + 1))).take (offs n) := by rw [List.take_take, Nat.min_eq_left (by omega)]
    rw [e, List.take_append_drop]
theorem parts_eq (L : List Int) : recParts (gl L 21) = (List.range 21).map fun j => pv (wid j) (fv L j) := rfl
theorem back_bytes {L : List Int} (hb : Byt L) (hl : L.length = 56) (hz : ∀ x ∈ L.drop 43, x = 0) : recBytes (gl L 21) = L := by
  unfold recBytes
  rw [parts_eq, show ((List.range 21).map fun j => pv (wid j) (fv L j)) = (List.range 21).map fun j => sub L ((offs j : Nat) : Int) (wid j) from List.map_congr_left fun j hj => pv_fv hb hl (List.mem_range.1 hj), subs_take]
  unfold padL
  have e : L.drop 43 = List.replicate 13 0 := by
    have := List.eq_replicate_iff.2 ⟨rfl, hz⟩
    rw [List.length_drop, hl] at this; exact this
  rw [show offs 21 = 43 from rfl, show 56 - (L.take 43).length = 13 by rw [List.length_take, hl]; rfl, ← e, List.take_append_drop]
theorem xor0 {p t : Int} (hp : 0 ≤ p ∧ p ≤ 255) (ht : 0 ≤ t ∧ t ≤ 255) (h : Go.bits .xor .u8 p t = p) : t = 0 := by
  rw [u8_xor p t hp.1 (by omega) ht.1 (by omega)] at h
  have h2 : p.toNat ^^^ t.toNat = p.toNat := by omega
  have h3 : p.toNat ^^^ (p.toNat ^^^ t.toNat) = p.toNat ^^^ p.toNat := by rw [h2]
  rw [← Nat.xor_assoc, Nat.xor_self, Nat.zero_xor] at h3
  omega
theorem xor_byt {p t : Int} (hp : 0 ≤ p ∧ p ≤ 255) (ht : 0 ≤ t ∧ t ≤ 255) : 0 ≤ Go.bits .xor .u8 p t ∧ Go.bits .xor .u8 p t ≤ 255 := by
  rw [u8_xor p t hp.1 (by omega) ht.1 (by omega)]
  have := Nat.xor_lt_two_pow (n := 8) (x := p.toNat) (y := t.toNat) (by omega) (by omega)
  omega
theorem bytes_byt (l : List Int) : Byt (recBytes l) := by
  intro x hx
  unfold recBytes padL at hx
  rcases List.mem_append.1 hx with hx | hx
  · obtain ⟨p, hp, hx⟩ := List.mem_flatten.1 hx
    exact recParts_byt l p hp x hx
  · rw [List.eq_of_mem_replicate hx]; omega
theorem bytes_len {l : List Int} (hl : l.length = 21) (h : okRec l = true) : (recBytes l).length = 56 := by
  obtain ⟨k, ln, sz, x0, x1, x2, x3, x4, x5, x6, x7, x8, x9, x10, x11, x12, x13, x14, x15, s, d, rfl⟩ := list21 l hl
  unfold recBytes
  exact padL_length _ _ (by rw [recParts_len h]; decide)
theorem set_byt {l : List Int} (hb : Byt l) (i : Nat) {x : Int} (hx : 0 ≤ x ∧ x ≤ 255) : Byt (l.set i x) := fun y hy => by
  rcases List.mem_or_eq_of_mem_set hy with h | rfl
  · exact hb y h
  · exact hx
theorem get_len (L : List Int) : (inode_Get.f L).1.length = 21 := by
  unfold inode_Get.f
  split
  · exact gl_len L 21
  · simp
theorem turned_far {l : List Int} (hl : l.length = 21) (h : okRec l = true) (i : Nat) (hi : i < 56) (t : Int) (ht : 0 ≤ t ∧ t ≤ 255) (h0 : t ≠ 0) (R : List Int) (ok : Bool)
    (hg : inode_Get.f ((recBytes l).set i (Go.bits .xor .u8 ((recBytes l).getD i 0) t)) = (R, ok)) : decide (R = l) = true → ok = false := by
  intro hR
  have hR := of_decide_eq_true hR
  cases ok with
  | false => rfl
  | true =>
    exfalso
    have hb := bytes_byt l
    have hP := bytes_len hl h
    have hi' : i < (recBytes l).length := by rw [hP]; exact hi
    have hp : 0 ≤ (recBytes l).getD i 0 ∧ (recBytes l).getD i 0 ≤ 255 := by
      rw [List.getD_eq_getElem?_getD, List.getElem?_eq_getElem hi']; exact hb _ (List.getElem_mem hi')
    obtain ⟨x, hx⟩ : ∃ x, Go.bits .xor .u8 ((recBytes l).getD i 0) t = x := ⟨_, rfl⟩
    have hxb : 0 ≤ x ∧ x ≤ 255 := by rw [← hx]; exact xor_byt hp ht
    rw [hx] at hg
    unfold inode_Get.f at hg
    cases hk : getOk ((recBytes l).set i x) with
    | false => rw [hk] at hg; simp at hg
    | true =>
      rw [hk] at hg
      have e1 : gl ((recBytes l).set i x) 21 = R := congrArg Prod.fst hg
      unfold getOk at hk
      simp only [Bool.and_eq_true, decide_eq_true_eq] at hk
      have hz : ∀ y ∈ ((recBytes l).set i x).drop 43, y = 0 := by
        have := (tl_zero _ _).1 hk.2.2
        intro y hy
        obtain ⟨j, hj, rfl⟩ := List.mem_iff_getElem.1 hy
        have h2 := this j hj
        rwa [List.getD_eq_getElem?_getD, List.getElem?_eq_getElem hj] at h2
      have hB := back_bytes (set_byt hb i hxb) hk.1 hz
      rw [e1, hR] at hB
      have h3 : (recBytes l)[i]? = some x := by
        have := congrArg (fun z => z[i]?) hB
        simp only [List.getElem?_set_self hi'] at this
        exact this
      have h4 : (recBytes l).getD i 0 = x := by rw [List.getD_eq_getElem?_getD, h3]; rfl
      exact h0 (xor0 hp ht (by rw [hx, h4]))
theorem rn14_loop (l : List Int) (hn : l.length ≤ 100000) (d : Nat) : ∀ (k i : Nat), i + d = l.length → d < k → moraineref01_Nought.l0 k l (i : Int) = some (decide (∀ j, j < l.length → i ≤ j → l.getD j 0 = 0)) := by
  induction d with
  | zero =>
    intro k i hi hk
    obtain ⟨k, rfl⟩ : ∃ m, k = m + 1 := ⟨k - 1, by omega⟩
    simp only [moraineref01_Nought.l0]
    rw [if_neg (by omega)]
    exact congrArg some (decide_eq_true (fun j h1 h2 => by omega)).symm
  | succ d ih =>
    intro k i hi hk
    obtain ⟨k, rfl⟩ : ∃ m, k = m + 1 := ⟨k - 1, by omega⟩
    have hlt : i < l.length := by omega
    have hg : l.getD i 0 = l[i] := by rw [List.getD_eq_getElem?_getD, List.getElem?_eq_getElem hlt]; rfl
    simp only [moraineref01_Nought.l0]
    rw [if_pos (by omega), if_pos (by omega), rd_get hlt]
    by_cases h : l[i] = 0
    · rw [if_pos h, w64 (by omega) (by omega), show ((i : Int) + 1) = ((i + 1 : Nat) : Int) by omega, ih k (i + 1) (by omega) (by omega)]
      refine congrArg some (decide_eq_decide.2 ⟨fun hz j h1 h2 => ?_, fun hz j h1 h2 => hz j h1 (by omega)⟩)
      rcases Nat.lt_or_ge i j with h3 | h3
      · exact hz j h1 h3
      · have : j = i := by omega
        subst this; rw [hg]; exact h
    · rw [if_neg h]
      exact congrArg some (decide_eq_false (fun hz => h (by rw [← hg]; exact hz i hlt (Nat.le_refl _)))).symm
theorem rn14_eq (l : List Int) (hn : l.length ≤ 100000) (k : Nat) (hk : l.length < k) : moraineref01_Nought.f k l = some (decide (tl l l.length = 0)) := by
  unfold moraineref01_Nought.f
  refine (rn14_loop l hn l.length k 0 (by omega) hk).trans ?_
  refine congrArg some (decide_eq_decide.2 ?_)
  rw [tl_zero]
  exact ⟨fun h j hj => h j hj (Nat.zero_le _), fun h j hj _ => h j hj⟩
theorem rput14_eq (K : Nat) (hK : 6 ≤ K) (w n : Int) (hn : n ≤ 9223372036854775807) : moraineref01_Put.f K w n = some (pv w n) := by
  obtain ⟨k, rfl⟩ : ∃ k, K = k + 6 := ⟨K - 6, by omega⟩
  rw [refput_eq k hn]; rfl
theorem rget14_eq (K : Nat) (hK : 6 ≤ K) {b : List Int} (hb : Byt b) (hn : b.length ≤ 140737488355328) (i : Nat) : ∃ x, moraineref01_Get.f K b ((offs i : Nat) : Int) (wid i) = some (fv b i, x) := by
  obtain ⟨k, rfl⟩ : ∃ k, K = k + 6 := ⟨K - 6, by omega⟩
  rw [refget_eq k hb hn]
  unfold fv tv
  by_cases h : okGet b ((offs i : Nat) : Int) (wid i)
  · rw [if_pos h, if_pos h, getV_eq (sub_byt hb _ _) _ (by have := h.2.1; omega)]; exact ⟨_, rfl⟩
  · rw [if_neg h, if_neg h]; exact ⟨_, rfl⟩
theorem put_len {l P : List Int} {ok : Bool} (hl : l.length = 21) (h : inode_Put.f l = (P, ok)) : P.length ≤ 56 := by
  unfold inode_Put.f at h
  cases hk : okRec l with
  | true => rw [hk] at h; cases h; rw [bytes_len hl hk]; exact Nat.le_refl _
  | false => rw [hk] at h; cases h; simp
end Go.Proofs.YthmfhhkedmloeaaDoor.Pure
