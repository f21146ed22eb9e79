/- Plain laws over whole numbers and lists: PureSec. -/
import Derived.Test.YtljjlfjhkdbbfaaBase
import Derived.Test.YtljjlfjhkdbbfaaGivAlive04
import Derived.Test.YtljjlfjhkdbbfaaGivGet
import Derived.KernelRfl
import Derived.Laws.BitsLemmas
import Derived.Laws.BitsAllLaws
namespace Go.Proofs.Ytljjlfjhkdbbfaa.Pure
open Go.RowKit Go.Proofs.Ytljjlfjhkdbbfaa.Base Go.Proofs.Ytljjlfjhkdbbfaa.Given Go.Proofs.YtljjlfjhkdbbfaaW.PrintWords Go.Proofs.YtljjlfjhkdbbfaaW.PrintLast Go.Proofs.YtljjlfjhkdbbfaaW.PrintMore
set_option linter.unusedVariables false
set_option linter.unusedSimpArgs false
theorem w64 {n : Int} (h0 : -9223372036854775808 ≤ n) (h1 : n ≤ 9223372036854775807) : wrap64 n = n := by unfold wrap64; omega
theorem i64_bd {n : Int} (h : (Lit.int .i64 n).wf = true) : -9223372036854775808 ≤ n ∧ n ≤ 9223372036854775807 := by simpa [Lit.wf, IntKind.min, IntKind.max, IntKind.signed, IntKind.bits] using h
theorem u8_bd {n : Int} (h : (Lit.int .u8 n).wf = true) : 0 ≤ n ∧ n ≤ 255 := by simpa [Lit.wf, IntKind.min, IntKind.max, IntKind.signed, IntKind.bits] using h
theorem rd_get {xs : List Int} {i : Nat} (h : i < xs.length) : rd xs (i : Int) = xs[i] := by simp [rd, h]
theorem same_loop (x y : List Int) (hl : x.length = y.length) (hn : x.length ≤ 140737488355328) (d : Nat) : ∀ (k i : Nat), i + d = x.length → d < k →
    moraineref00_SameBytes.l0 k x y (i : Int) = some (decide (x.drop i = y.drop i)) := by
  induction d with
  | zero =>
    intro k i hi hk
    obtain ⟨k, rfl⟩ : ∃ m, k = m + 1 := ⟨k - 1, by omega⟩
    simp only [moraineref00_SameBytes.l0]
    rw [if_neg (by omega), List.drop_of_length_le (by omega), List.drop_of_length_le (by omega)]; simp
  | succ d ih =>
    intro k i hi hk
    obtain ⟨k, rfl⟩ : ∃ m, k = m + 1 := ⟨k - 1, by omega⟩
    simp only [moraineref00_SameBytes.l0]
    rw [if_pos (by omega), if_pos (by omega), if_pos (by omega), rd_get (show i < x.length by omega), rd_get (show i < y.length by omega)]
    have ex : x.drop i = x[i] :: x.drop (i + 1) := List.drop_eq_getElem_cons (by omega)
    have ey : y.drop i = y[i] :: y.drop (i + 1) := List.drop_eq_getElem_cons (by omega)
    by_cases h : x[i] = y[i]
    · rw [if_pos h, w64 (by omega) (by omega)]
      have := ih k (i + 1) (by omega) (by omega)
      rw [show ((i : Int) + 1) = ((i + 1 : Nat) : Int) by omega, this]
      exact congrArg some (decide_eq_decide.2 ⟨fun e => by rw [ex, ey, h, e], fun e => by rw [ex, ey] at e; exact (List.cons.inj e).2⟩)
    · rw [if_neg h, decide_eq_false (fun e => by rw [ex, ey] at e; exact h (List.cons.inj e).1)]
theorem same_eq (x y : List Int) (hn : x.length ≤ 140737488355328) (k : Nat) (hk : x.length < k) : moraineref00_SameBytes.f k x y = some (decide (x = y)) := by
  unfold moraineref00_SameBytes.f
  by_cases hl : x.length = y.length
  · rw [if_pos (by omega)]
    have := same_loop x y hl hn x.length k 0 (by omega) hk
    simpa using this
  · rw [if_neg (by omega)]
    have : x ≠ y := fun e => hl (by rw [e])
    simp [this]
def Byt (l : List Int) : Prop := ∀ x ∈ l, 0 ≤ x ∧ x ≤ 255
theorem rd_byt {l : List Int} (h : Byt l) (i : Int) : 0 ≤ rd l i ∧ rd l i ≤ 255 := by
  unfold rd
  by_cases hi : i.toNat < l.length
  · rw [List.getD_eq_getElem?_getD, List.getElem?_eq_getElem hi]; exact h _ (List.getElem_mem hi)
  · rw [List.getD_eq_getElem?_getD, List.getElem?_eq_none (by omega)]; simp
theorem or_sum (j i : Nat) (x y : Int) (hj : j ≤ 62) (hx0 : 0 ≤ x) (hx : x % 2 ^ i = 0) (hx1 : x < 2 ^ j) (hy0 : 0 ≤ y) (hy : y < 2 ^ i) (hy1 : y < 2 ^ j) : Go.bits .or .i64 y x = y + x := by
  have hc : Go.bits .or .i64 y x = Go.bits .or .i64 x y := by simp only [Go.bits, BitVec.or_comm]
  rw [hc, bits_join .i64 j (by show j ≤ 64; omega) (fun n h0 h1 => by
    have : (2 : Int) ^ j ≤ 2 ^ 62 := by exact_mod_cast Nat.pow_le_pow_right (by omega) hj
    have h3 : n < (2 : Int) ^ 62 := Int.lt_of_lt_of_le h1 this
    have e62 : (2 : Int) ^ 62 = 4611686018427387904 := by kernel_rfl
    have h2 : n < 4611686018427387904 := by rw [e62] at h3; exact h3
    clear this h3 e62
    show IntKind.i64.wrap n = n
    simp only [IntKind.wrap, IntKind.signed, IntKind.bits]
    simp
    omega) i x y hx0 hx hx1 hy0 hy hy1]
  omega
theorem shl_at {c : Int} (i m : Nat) (h0 : 0 ≤ c) (h1 : c ≤ 255) (hm : m = 2 ^ i) (hi : i ≤ 24) : shl .i64 c (i : Int) = c * m := by
  unfold shl
  have e : min (i : Int).toNat IntKind.i64.bits = i := by show min i 64 = i; omega
  rw [e]
  have hp : (2 : Int) ^ i = (m : Int) := by rw [hm]; simp
  rw [hp]
  have hle0 : m ≤ 16777216 := by rw [hm]; exact Nat.pow_le_pow_right (by omega) hi
  have hle : (m : Int) ≤ 16777216 := by omega
  have hb : 0 ≤ c * (m : Int) ∧ c * (m : Int) ≤ 255 * 16777216 := ⟨Int.mul_nonneg h0 (by omega), Int.mul_le_mul h1 hle (by omega) (by omega)⟩
  simp only [IntKind.wrap, IntKind.signed, IntKind.bits]
  simp
  omega
/-- The number that the first w bytes tell. -/
def getL (s : List Int) : Nat → Int
  | 0 => 0
  | i + 1 => getL s i + rd s (i : Int) * 2 ^ (8 * i)
theorem getL_bd {s : List Int} (hs : Byt s) (i : Nat) : 0 ≤ getL s i ∧ getL s i < 2 ^ (8 * i) := by
  induction i with
  | zero => simp [getL]
  | succ i ih =>
    have hb := rd_byt hs (i : Int)
    have hp : (0 : Int) < 2 ^ (8 * i) := Int.pow_pos (by omega)
    have e : (2 : Int) ^ (8 * (i + 1)) = 2 ^ (8 * i) * 256 := by rw [show 8 * (i + 1) = 8 * i + 8 by omega, Int.pow_add]; rfl
    have h1 : 0 ≤ rd s (i : Int) * 2 ^ (8 * i) := Int.mul_nonneg hb.1 (by omega)
    have h2 : rd s (i : Int) * 2 ^ (8 * i) ≤ 255 * 2 ^ (8 * i) := Int.mul_le_mul_of_nonneg_right hb.2 (by omega)
    simp only [getL]
    omega
theorem sub_byt {b : List Int} (h : Byt b) (at_ w : Int) : Byt (sub b at_ w) := fun x hx => h x (List.mem_of_mem_take (List.mem_of_mem_drop hx))
theorem getV_eq {s : List Int} (hs : Byt s) (i : Nat) (hi : i ≤ 4) : getV s i = getL s i := by
  induction i with
  | zero => rfl
  | succ i ih =>
    have hb := rd_byt hs (i : Int)
    have hl := getL_bd hs i
    have hm : (2 ^ (8 * i) : Nat) ≤ 16777216 := Nat.pow_le_pow_right (by omega) (show 8 * i ≤ 24 by omega)
    have hp : ((2 : Int) ^ (8 * i)) = ((2 ^ (8 * i) : Nat) : Int) := by simp
    simp only [getV, getL]
    rw [ih (by omega), w64 (n := rd s (i : Int)) (by omega) (by omega), shl_at (c := rd s (i : Int)) (8 * i) (2 ^ (8 * i)) hb.1 hb.2 rfl (by omega)]
    generalize hM : 2 ^ (8 * i) = M at *
    have hb2 : 0 ≤ rd s (i : Int) * (M : Int) ∧ rd s (i : Int) * (M : Int) ≤ 255 * 16777216 := ⟨Int.mul_nonneg hb.1 (by omega), Int.mul_le_mul hb.2 (by omega) (by omega) (by omega)⟩
    rw [hp] at hl ⊢
    exact or_sum 40 (8 * i) _ _ (by omega) hb2.1 (by rw [hp]; exact Int.mul_emod_left _ _) (by omega) hl.1 (by rw [hp]; exact hl.2) (by omega)
theorem putAt1 (n : Int) : putAt n 1 1 = [n % 256] := by
  show [shr .i64 n ((8 * 0 : Nat) : Int) % 256] = _
  rw [sh0]
theorem putAt2 (n : Int) : putAt n 2 2 = [n % 256, n / 256 % 256] := by
  show [shr .i64 n ((8 * 0 : Nat) : Int) % 256, shr .i64 n ((8 * 1 : Nat) : Int) % 256] = _
  rw [sh0, sh1]
theorem putAt3 (n : Int) : putAt n 3 3 = [n % 256, n / 256 % 256, n / 65536 % 256] := by
  show [shr .i64 n ((8 * 0 : Nat) : Int) % 256, shr .i64 n ((8 * 1 : Nat) : Int) % 256, shr .i64 n ((8 * 2 : Nat) : Int) % 256] = _
  rw [sh0, sh1, sh2]
theorem putAt4 (n : Int) : putAt n 4 4 = [n % 256, n / 256 % 256, n / 65536 % 256, n / 16777216 % 256] := by
  show [shr .i64 n ((8 * 0 : Nat) : Int) % 256, shr .i64 n ((8 * 1 : Nat) : Int) % 256, shr .i64 n ((8 * 2 : Nat) : Int) % 256, shr .i64 n ((8 * 3 : Nat) : Int) % 256] = _
  rw [sh0, sh1, sh2, sh3]
theorem putAt_byt (n : Int) (w : Nat) : Byt (putAt n w w) := by
  intro x hx
  simp only [putAt, List.mem_map, List.mem_range] at hx
  obtain ⟨i, hi, rfl⟩ := hx
  rw [if_pos hi]; omega
theorem put_eq {w n : Int} (h : n ≤ 9223372036854775807) : bits_Put.f w n = some (if okPut w n then putAt n w.toNat w.toNat else []) := by
  unfold bits_Put.f; rw [if_neg (by omega)]
/-- What is put is got again. -/
theorem put_get {w n : Int} (h : okPut w n) : getL (putAt n w.toNat w.toNat) w.toNat = n := by
  rcases h with ⟨rfl, h0, h1⟩ | ⟨rfl, h0, h1⟩ | ⟨rfl, h0, h1⟩ | ⟨rfl, h0, h1⟩
  · show getL (putAt n 1 1) 1 = n
    rw [putAt1]; simp [getL, rd]; omega
  · show getL (putAt n 2 2) 2 = n
    rw [putAt2]; simp [getL, rd]; omega
  · show getL (putAt n 3 3) 3 = n
    rw [putAt3]; simp [getL, rd]; omega
  · show getL (putAt n 4 4) 4 = n
    rw [putAt4]; simp [getL, rd]; omega
theorem okPut_le {w n : Int} (h : okPut w n) : 1 ≤ w ∧ w ≤ 4 := by unfold okPut at h; omega
theorem get_eq {b : List Int} (hb : Byt b) (hn : b.length ≤ 140737488355328) (at_ w : Int) : bits_Get.f b at_ w = some (if okGet b at_ w then (getL (sub b at_ w) w.toNat, true) else (0, false)) := by
  unfold bits_Get.f
  rw [if_neg (by omega)]
  by_cases h : okGet b at_ w
  · rw [if_pos h, if_pos h, getV_eq (sub_byt hb _ _) _ (by have := h.2.1; omega)]
  · rw [if_neg h, if_neg h]
def xo (x y : Int) : Int := Go.bits .xor .u8 x y
def IsB (x : Int) : Prop := 0 ≤ x ∧ x ≤ 255
theorem xo_nat {x y : Int} (hx : IsB x) (hy : IsB y) : xo x y = ((x.toNat ^^^ y.toNat : Nat) : Int) := u8_xor x y hx.1 (by have := hx.2; omega) hy.1 (by have := hy.2; omega)
theorem xo_byt {x y : Int} (hx : IsB x) (hy : IsB y) : IsB (xo x y) := by
  rw [xo_nat hx hy]
  have h1 := hx.2; have h2 := hy.2; have h3 := hx.1; have h4 := hy.1
  have : x.toNat ^^^ y.toNat < 2 ^ 8 := Nat.xor_lt_two_pow (by omega) (by omega)
  exact ⟨by omega, by omega⟩
theorem isB0 : IsB 0 := ⟨by omega, by omega⟩
theorem xo_zero {x : Int} (hx : IsB x) : xo x 0 = x := by rw [xo_nat hx isB0]; have := hx.1; simp; omega
theorem zero_xo {x : Int} (hx : IsB x) : xo 0 x = x := by rw [xo_nat isB0 hx]; have := hx.1; simp; omega
theorem xo_comm {x y : Int} (hx : IsB x) (hy : IsB y) : xo x y = xo y x := by rw [xo_nat hx hy, xo_nat hy hx, Nat.xor_comm]
theorem xo_self {x : Int} (hx : IsB x) : xo x x = 0 := by rw [xo_nat hx hx, Nat.xor_self]; rfl
theorem xo_assoc {x y z : Int} (hx : IsB x) (hy : IsB y) (hz : IsB z) : xo (xo x y) z = xo x (xo y z) := by
  have h1 := xo_byt hx hy; have h2 := xo_byt hy hz
  rw [xo_nat h1 hz, xo_nat hx h2, xo_nat hx hy, xo_nat hy hz, Int.toNat_natCast, Int.toNat_natCast, Nat.xor_assoc]
theorem xo_xo {x y : Int} (hx : IsB x) (hy : IsB y) : xo (xo x y) y = x := by rw [xo_assoc hx hy hy, xo_self hy, xo_zero hx]
/-- The bytes of two, one by one; noughts behind the shorter. -/
def xorAll (a b : List Int) : List Int := (List.range (max a.length b.length)).map fun i => xo (a.getD i 0) (b.getD i 0)
theorem xorAll_length (a b : List Int) : (xorAll a b).length = max a.length b.length := by simp [xorAll]
theorem getD_byt {l : List Int} (h : Byt l) (i : Nat) : IsB (l.getD i 0) := by
  by_cases hi : i < l.length
  · rw [List.getD_eq_getElem?_getD, List.getElem?_eq_getElem hi]; exact h _ (List.getElem_mem hi)
  · rw [List.getD_eq_getElem?_getD, List.getElem?_eq_none (by omega)]; exact isB0
theorem getD_out {l : List Int} {i : Nat} (h : l.length ≤ i) : l.getD i 0 = 0 := by rw [List.getD_eq_getElem?_getD, List.getElem?_eq_none h]; rfl
theorem xorAll_get {a b : List Int} (ha : Byt a) (hb : Byt b) (i : Nat) : (xorAll a b).getD i 0 = xo (a.getD i 0) (b.getD i 0) := by
  by_cases hi : i < max a.length b.length
  · rw [List.getD_eq_getElem?_getD, List.getElem?_eq_getElem (by rw [xorAll_length]; exact hi)]; simp [xorAll]
  · rw [getD_out (by rw [xorAll_length]; omega), getD_out (l := a) (by omega), getD_out (l := b) (by omega), xo_zero isB0]
theorem xorAll_byt {a b : List Int} (ha : Byt a) (hb : Byt b) : Byt (xorAll a b) := by
  intro x hx
  simp only [xorAll, List.mem_map, List.mem_range] at hx
  obtain ⟨i, _, rfl⟩ := hx
  exact xo_byt (getD_byt ha i) (getD_byt hb i)
theorem ext_getD {a b : List Int} (hl : a.length = b.length) (h : ∀ i, i < a.length → a.getD i 0 = b.getD i 0) : a = b := by
  apply List.ext_getElem hl
  intro i h1 h2
  have := h i h1
  rw [List.getD_eq_getElem?_getD, List.getD_eq_getElem?_getD, List.getElem?_eq_getElem h1, List.getElem?_eq_getElem h2] at this
  exact this
theorem xorTo_get (short long : List Int) (k i : Nat) (hi : i < long.length) : (xorTo short k long).getD i 0 = if i < k then xo (long.getD i 0) (short.getD i 0) else long.getD i 0 := by
  induction k with
  | zero => simp [xorTo]
  | succ k ih =>
    simp only [xorTo]
    by_cases e : k = i
    · subst e
      rw [List.getD_eq_getElem?_getD, List.getElem?_set_self (by rw [xorTo_length]; exact hi), if_pos (by omega)]
      rw [if_neg (by omega)] at ih
      rw [ih]; rfl
    · rw [List.getD_eq_getElem?_getD, List.getElem?_set_ne e, ← List.getD_eq_getElem?_getD, ih]
      by_cases h : i < k
      · rw [if_pos h, if_pos (by omega)]
      · rw [if_neg h, if_neg (by omega)]
theorem xorAll_comm {a b : List Int} (ha : Byt a) (hb : Byt b) : xorAll a b = xorAll b a := by
  apply ext_getD
  · rw [xorAll_length, xorAll_length]; omega
  · intro i _; rw [xorAll_get ha hb, xorAll_get hb ha, xo_comm (getD_byt ha i) (getD_byt hb i)]
theorem xorTo_all {short long : List Int} (hs : Byt short) (hl : Byt long) (h : short.length ≤ long.length) : xorTo short short.length long = xorAll long short := by
  apply ext_getD
  · rw [xorTo_length, xorAll_length]; omega
  · intro i hi
    rw [xorTo_length] at hi
    rw [xorTo_get short long _ i hi, xorAll_get hl hs]
    by_cases h : i < short.length
    · rw [if_pos h]
    · rw [if_neg h, getD_out (l := short) (by omega), xo_zero (getD_byt hl i)]
theorem xor_eq {a b : List Int} (ha : Byt a) (hb : Byt b) (h0 : a.length ≤ 140737488355328) (h1 : b.length ≤ 140737488355328) : bits_Xor.f a b = some (xorAll a b) := by
  unfold bits_Xor.f
  rw [if_pos ⟨h0, h1⟩]
  by_cases h : a.length < b.length
  · rw [if_pos h, xorTo_all ha hb (by omega), xorAll_comm hb ha]
  · rw [if_neg h, xorTo_all hb ha (by omega)]
theorem xorAll_assoc {a b c : List Int} (ha : Byt a) (hb : Byt b) (hc : Byt c) : xorAll (xorAll a b) c = xorAll a (xorAll b c) := by
  apply ext_getD
  · simp only [xorAll_length]; omega
  · intro i _
    rw [xorAll_get (xorAll_byt ha hb) hc, xorAll_get ha hb, xorAll_get ha (xorAll_byt hb hc), xorAll_get hb hc, xo_assoc (getD_byt ha i) (getD_byt hb i) (getD_byt hc i)]
theorem okPut_len {w n : Int} : (pv w n).length = if okPut w n then w.toNat else 0 := by
  unfold pv; split
  · exact putAt_length _ _ _
  · rfl
def okEnc (a0 a1 a2 : Int) (l : List Int) : Prop := l.length ≤ 56 ∧ okPut 4 a0 ∧ okPut 2 a1 ∧ okPut 2 a2
def encB (a0 a1 a2 : Int) (l : List Int) : List Int := putAt a0 4 4 ++ putAt a1 2 2 ++ putAt a2 2 2 ++ padL l 56
theorem enc_pos {a0 a1 a2 : Int} {l : List Int} (h : okEnc a0 a1 a2 l) : sector_Encode.f a0 a1 a2 l = some (encB a0 a1 a2 l, true) := by
  obtain ⟨hl, h0, h1, h2⟩ := h
  have e0 : pv 4 a0 = putAt a0 4 4 := by unfold pv; rw [if_pos h0]; rfl
  have e1 : pv 2 a1 = putAt a1 2 2 := by unfold pv; rw [if_pos h1]; rfl
  have e2 : pv 2 a2 = putAt a2 2 2 := by unfold pv; rw [if_pos h2]; rfl
  unfold sector_Encode.f
  rw [if_neg (by unfold okPut at h0 h1 h2; omega), e0, e1, e2, if_pos ⟨hl, by simp [putAt_length]⟩]
  rfl
theorem enc_neg {a0 a1 a2 : Int} {l : List Int} (b0 : a0 ≤ 9223372036854775807) (b1 : a1 ≤ 9223372036854775807) (b2 : a2 ≤ 9223372036854775807) (h : ¬ okEnc a0 a1 a2 l) : sector_Encode.f a0 a1 a2 l = some ([], false) := by
  unfold sector_Encode.f
  rw [if_neg (by omega), if_neg]
  rintro ⟨hl, hs⟩
  rw [List.length_append, List.length_append, okPut_len, okPut_len, okPut_len] at hs
  apply h
  refine ⟨hl, ?_⟩
  by_cases h0 : okPut 4 a0
  · by_cases h1 : okPut 2 a1
    · by_cases h2 : okPut 2 a2
      · exact ⟨h0, h1, h2⟩
      · rw [if_pos h0, if_pos h1, if_neg h2] at hs; simp at hs
    · rw [if_pos h0, if_neg h1] at hs; split at hs <;> simp at hs
  · rw [if_neg h0] at hs; split at hs <;> split at hs <;> simp at hs
theorem encB_len {a0 a1 a2 : Int} {l : List Int} (h : l.length ≤ 56) : (encB a0 a1 a2 l).length = 64 := by
  simp [encB, putAt_length, padL_length l 56 h]
theorem encB_take {a0 a1 a2 : Int} {l : List Int} : (encB a0 a1 a2 l).take 4 = putAt a0 4 4 := by
  simp only [encB, List.append_assoc]
  rw [List.take_append_of_le_length (by rw [putAt_length]; omega), List.take_of_length_le (by rw [putAt_length]; omega)]
theorem padL_byt {l : List Int} (h : Byt l) (n : Nat) : Byt (padL l n) := by
  intro x hx
  simp only [padL, List.mem_append, List.mem_replicate] at hx
  rcases hx with hx | ⟨_, rfl⟩
  · exact h x hx
  · exact isB0
theorem app_byt {a b : List Int} (ha : Byt a) (hb : Byt b) : Byt (a ++ b) := by
  intro x hx
  rcases List.mem_append.1 hx with hx | hx
  · exact ha x hx
  · exact hb x hx
theorem take_byt {a : List Int} (h : Byt a) (n : Nat) : Byt (a.take n) := fun x hx => h x (List.mem_of_mem_take hx)
theorem drop_byt {a : List Int} (h : Byt a) (n : Nat) : Byt (a.drop n) := fun x hx => h x (List.mem_of_mem_drop hx)
theorem encB_byt {a0 a1 a2 : Int} {l : List Int} (h : Byt l) : Byt (encB a0 a1 a2 l) :=
  app_byt (app_byt (app_byt (putAt_byt _ _) (putAt_byt _ _)) (putAt_byt _ _)) (padL_byt h 56)
theorem byt_nil : Byt [] := fun x hx => by simp at hx

theorem u8_inj {x y : Int} (hx : 0 ≤ x ∧ x ≤ 255) (hy : 0 ≤ y ∧ y ≤ 255) (h : UInt8.ofNat x.toNat = UInt8.ofNat y.toNat) : x = y := by
  have e : ((UInt8.ofNat x.toNat).toNat : Int) = ((UInt8.ofNat y.toNat).toNat : Int) := by rw [h]
  rwa [u8_back hx, u8_back hy] at e
theorem bytesOf_inj : ∀ {a b : List Int}, Byt a → Byt b → Lib.bytesOf a = Lib.bytesOf b → a = b
  | [], [], _, _, _ => rfl
  | [], _ :: _, _, _, h => by simp [Lib.bytesOf] at h
  | _ :: _, [], _, _, h => by simp [Lib.bytesOf] at h
  | x :: a, y :: b, ha, hb, h => by
    simp only [Lib.bytesOf, List.map_cons, List.cons.injEq] at h
    rw [u8_inj (ha x (by simp)) (hb y (by simp)) h.1, bytesOf_inj (fun z hz => ha z (by simp [hz])) (fun z hz => hb z (by simp [hz])) h.2]
theorem prefix_eq {l p : List Int} (hl : Byt l) (hp : Byt p) : bytes_HasPrefix.f l p = some (decide (l.take p.length = p)) := by
  unfold bytes_HasPrefix.f Lib.hasPrefix
  congr 1
  rw [Bool.eq_iff_iff, List.isPrefixOf_iff_prefix, List.prefix_iff_eq_take, decide_eq_true_iff]
  have e : (Lib.bytesOf l).take (Lib.bytesOf p).length = Lib.bytesOf (l.take p.length) := by simp [Lib.bytesOf, List.map_take]
  rw [e]
  exact ⟨fun h => (bytesOf_inj hp (take_byt hl _) h).symm, fun h => by rw [h]⟩

def good (seq b : List Int) : Prop := b.length = 64 ∧ b.take 4 = seq
instance (seq b : List Int) : Decidable (good seq b) := by unfold good; infer_instance
/-- What the rows' bytes behind the first four come to. -/
def parS : List Int → List (List Int) → List Int
  | acc, [] => acc
  | acc, b :: r => parS (xorAll acc (b.drop 4)) r
theorem parS_byt : ∀ (r : List (List Int)) (acc : List Int), Byt acc → (∀ b ∈ r, Byt b) → Byt (parS acc r)
  | [], acc, h, _ => h
  | b :: r, acc, h, hr => parS_byt r _ (xorAll_byt h (drop_byt (hr b (by simp)) 4)) (fun c hc => hr c (by simp [hc]))
theorem par_loop (l : List (List Int)) (hb : ∀ b ∈ l, Byt b) (seq : List Int) (hs : Byt seq) (h4 : seq.length = 4) (hn : l.length ≤ 9223372036854775806) (d : Nat) : ∀ (k i : Nat) (acc : List Int), i + d = l.length → d < k → Byt acc → acc.length ≤ 60 →
    sector_Parity.l0 k seq acc l (l.length : Int) (i : Int) = some (if ∀ b ∈ l.drop i, good seq b then (seq ++ parS acc (l.drop i), true) else ([], false)) := by
  induction d with
  | zero =>
    intro k i acc hi hk ha h60
    obtain ⟨k, rfl⟩ : ∃ j, k = j + 1 := ⟨k - 1, by omega⟩
    rw [List.drop_of_length_le (by omega : l.length ≤ i), if_pos (by simp)]
    simp only [sector_Parity.l0]
    rw [if_neg (by omega)]
    unfold bytes_Clone.f
    rw [if_pos (by omega)]
    show (if seq.length + acc.length < 140737488355328 then _ else _) = _
    rw [if_pos (by omega)]
    rfl
  | succ d ih =>
    intro k i acc hi hk ha h60
    obtain ⟨k, rfl⟩ : ∃ j, k = j + 1 := ⟨k - 1, by omega⟩
    have hil : i < l.length := by omega
    have hbi : Byt l[i] := hb _ (List.getElem_mem hil)
    have er : Base.rd_L1 l (i : Int) = l[i] := by simp [Base.rd_L1, hil]
    simp only [sector_Parity.l0]
    rw [if_pos (by omega), if_pos (by omega), if_pos (by omega), er, prefix_eq hbi hs, List.drop_eq_getElem_cons hil]
    by_cases h64 : l[i].length = 64
    · rw [if_pos (by omega)]
      show (if decide (l[i].take seq.length = seq) = true then _ else _) = _
      by_cases hp : l[i].take 4 = seq
      · rw [if_pos (by rw [h4]; exact decide_eq_true hp), if_pos (by omega), xor_eq ha (drop_byt hbi 4) (by omega) (by rw [List.length_drop]; omega)]
        show sector_Parity.l0 k seq (xorAll acc (l[i].drop 4)) l (l.length : Int) (wrap64 ((i : Int) + 1)) = _
        rw [w64 (by omega) (by omega), show ((i : Int) + 1) = ((i + 1 : Nat) : Int) by omega,
          ih k (i + 1) _ (by omega) (by omega) (xorAll_byt ha (drop_byt hbi 4)) (by rw [xorAll_length, List.length_drop]; omega)]
        have : (∀ b ∈ l[i] :: l.drop (i + 1), good seq b) ↔ (∀ b ∈ l.drop (i + 1), good seq b) := by
          simp only [List.mem_cons, forall_eq_or_imp]
          exact ⟨fun h => h.2, fun h => ⟨⟨h64, hp⟩, h⟩⟩
        simp only [this, parS]
      · rw [if_neg (by rw [h4]; simpa using hp), if_neg]
        intro h
        exact hp (h _ List.mem_cons_self).2
    · rw [if_neg (by omega), if_neg]
      intro h
      exact h64 (h _ List.mem_cons_self).1
def parOK (l : List (List Int)) : Prop := l ≠ [] ∧ ∀ b ∈ l, good ((l.getD 0 []).take 4) b
instance (l : List (List Int)) : Decidable (parOK l) := by unfold parOK; infer_instance
def parV (l : List (List Int)) : List Int × Bool := if parOK l then ((l.getD 0 []).take 4 ++ parS [] l, true) else ([], false)
theorem par_eq (l : List (List Int)) (hb : ∀ b ∈ l, Byt b) (hn : l.length ≤ 9223372036854775806) (k : Nat) (hk : l.length + 2 ≤ k) : sector_Parity.f k l = some (parV l) := by
  unfold sector_Parity.f
  obtain ⟨k, rfl⟩ : ∃ j, k = j + 1 := ⟨k - 1, by omega⟩
  cases l with
  | nil =>
    rw [if_pos (by simp)]
    simp [sector_Parity.j0, parV, parOK]
  | cons a r =>
    have e0 : Base.rd_L1 (a :: r) 0 = a := rfl
    have e1 : (a :: r).getD 0 [] = a := rfl
    have ha : Byt a := hb a (by simp)
    rw [if_neg (by simp only [List.length_cons]; omega), if_pos (by simp only [List.length_cons]; omega), e0]
    simp only [sector_Parity.j0]
    unfold parV parOK
    simp only [e1]
    by_cases h64 : a.length = 64
    · rw [if_neg (by simp [h64]), if_pos (by simp only [List.length_cons]; omega), e0, if_pos (by omega)]
      have := par_loop (a :: r) hb (a.take 4) (take_byt ha 4) (by rw [List.length_take]; omega) hn (a :: r).length k 0 [] (by omega) (by omega) byt_nil (by simp)
      rw [List.drop_zero] at this
      rw [show ((0 : Int)) = ((0 : Nat) : Int) from rfl, this]
      by_cases hg : ∀ b ∈ a :: r, good (a.take 4) b
      · rw [if_pos hg, if_pos ⟨by simp, hg⟩]
      · rw [if_neg hg, if_neg (fun h => hg h.2)]
    · rw [if_pos (by simp only [bne_iff_ne, ne_eq]; omega), if_neg]
      rintro ⟨_, h⟩
      exact h64 (h a (by simp)).1
theorem restore_eq (l : List (List Int)) (hb : ∀ b ∈ l, Byt b) (hn : l.length ≤ 9223372036854775806) (k : Nat) (hk : l.length + 2 ≤ k) : sector_Restore.f k l = some (parV l) := by
  unfold sector_Restore.f
  rw [par_eq l hb hn k hk]
  rfl
theorem parV_bad {l : List (List Int)} (h : ¬ parOK l) : parV l = ([], false) := if_neg h
theorem parV_good {l : List (List Int)} (h : parOK l) : parV l = ((l.getD 0 []).take 4 ++ parS [] l, true) := if_pos h
end Go.Proofs.Ytljjlfjhkdbbfaa.Pure
