/- Plain laws over whole numbers and lists: PureDec. -/
import Derived.Test.YtkpipmhcjjncdaaDoorBase
import Derived.KernelRfl
import Derived.Laws.BitsLemmas
import Derived.Laws.BitsAllLaws
namespace Go.Proofs.YtkpipmhcjjncdaaDoor.Pure
open Go.RowKit Go.Proofs.YtkpipmhcjjncdaaDoor.Base Go.Proofs.YtkpipmhcjjncdaaDoor.Given Go.Proofs.YtkpipmhcjjncdaaDoorW.PrintWords Go.Proofs.YtkpipmhcjjncdaaDoorW.PrintLast Go.Proofs.YtkpipmhcjjncdaaDoorW.PrintMore
set_option linter.unusedVariables false
set_option linter.unusedSimpArgs false
theorem w64 {n : Int} (h0 : -9223372036854775808 ≤ n) (h1 : n ≤ 9223372036854775807) : wrap64 n = n := by unfold wrap64; omega
theorem i64_bd {n : Int} (h : (Lit.int .i64 n).wf = true) : -9223372036854775808 ≤ n ∧ n ≤ 9223372036854775807 := by simpa [Lit.wf, IntKind.min, IntKind.max, IntKind.signed, IntKind.bits] using h
theorem u8_bd {n : Int} (h : (Lit.int .u8 n).wf = true) : 0 ≤ n ∧ n ≤ 255 := by simpa [Lit.wf, IntKind.min, IntKind.max, IntKind.signed, IntKind.bits] using h
theorem rd_get {xs : List Int} {i : Nat} (h : i < xs.length) : rd xs (i : Int) = xs[i] := by simp [rd, h]
theorem same_loop (x y : List Int) (hl : x.length = y.length) (hn : x.length ≤ 140737488355328) (d : Nat) : ∀ (k i : Nat), i + d = x.length → d < k →
    moraineref00_SameBytes.l0 k x y (i : Int) = some (decide (x.drop i = y.drop i)) := by
  induction d with
  | zero =>
    intro k i hi hk
    obtain ⟨k, rfl⟩ : ∃ m, k = m + 1 := ⟨k - 1, by omega⟩
    simp only [moraineref00_SameBytes.l0]
    rw [if_neg (by omega), List.drop_of_length_le (by omega), List.drop_of_length_le (by omega)]; simp
  | succ d ih =>
    intro k i hi hk
    obtain ⟨k, rfl⟩ : ∃ m, k = m + 1 := ⟨k - 1, by omega⟩
    simp only [moraineref00_SameBytes.l0]
    rw [if_pos (by omega), if_pos (by omega), if_pos (by omega), rd_get (show i < x.length by omega), rd_get (show i < y.length by omega)]
    have ex : x.drop i = x[i] :: x.drop (i + 1) := List.drop_eq_getElem_cons (by omega)
    have ey : y.drop i = y[i] :: y.drop (i + 1) := List.drop_eq_getElem_cons (by omega)
    by_cases h : x[i] = y[i]
    · rw [if_pos h, w64 (by omega) (by omega)]
      have := ih k (i + 1) (by omega) (by omega)
      rw [show ((i : Int) + 1) = ((i + 1 : Nat) : Int) by omega, this]
      exact congrArg some (decide_eq_decide.2 ⟨fun e => by rw [ex, ey, h, e], fun e => by rw [ex, ey] at e; exact (List.cons.inj e).2⟩)
    · rw [if_neg h, decide_eq_false (fun e => by rw [ex, ey] at e; exact h (List.cons.inj e).1)]
theorem same_eq (x y : List Int) (hn : x.length ≤ 140737488355328) (k : Nat) (hk : x.length < k) : moraineref00_SameBytes.f k x y = some (decide (x = y)) := by
  unfold moraineref00_SameBytes.f
  by_cases hl : x.length = y.length
  · rw [if_pos (by omega)]
    have := same_loop x y hl hn x.length k 0 (by omega) hk
    simpa using this
  · rw [if_neg (by omega)]
    have : x ≠ y := fun e => hl (by rw [e])
    simp [this]
def Byt (l : List Int) : Prop := ∀ x ∈ l, 0 ≤ x ∧ x ≤ 255
theorem rd_byt {l : List Int} (h : Byt l) (i : Int) : 0 ≤ rd l i ∧ rd l i ≤ 255 := by
  unfold rd
  by_cases hi : i.toNat < l.length
  · rw [List.getD_eq_getElem?_getD, List.getElem?_eq_getElem hi]; exact h _ (List.getElem_mem hi)
  · rw [List.getD_eq_getElem?_getD, List.getElem?_eq_none (by omega)]; simp
theorem or_sum (j i : Nat) (x y : Int) (hj : j ≤ 62) (hx0 : 0 ≤ x) (hx : x % 2 ^ i = 0) (hx1 : x < 2 ^ j) (hy0 : 0 ≤ y) (hy : y < 2 ^ i) (hy1 : y < 2 ^ j) : Go.bits .or .i64 y x = y + x := by
  have hc : Go.bits .or .i64 y x = Go.bits .or .i64 x y := by simp only [Go.bits, BitVec.or_comm]
  rw [hc, bits_join .i64 j (by show j ≤ 64; omega) (fun n h0 h1 => by
    have : (2 : Int) ^ j ≤ 2 ^ 62 := by exact_mod_cast Nat.pow_le_pow_right (by omega) hj
    have h3 : n < (2 : Int) ^ 62 := Int.lt_of_lt_of_le h1 this
    have e62 : (2 : Int) ^ 62 = 4611686018427387904 := by kernel_rfl
    have h2 : n < 4611686018427387904 := by rw [e62] at h3; exact h3
    clear this h3 e62
    show IntKind.i64.wrap n = n
    simp only [IntKind.wrap, IntKind.signed, IntKind.bits]
    simp
    omega) i x y hx0 hx hx1 hy0 hy hy1]
  omega
theorem shl_at {c : Int} (i m : Nat) (h0 : 0 ≤ c) (h1 : c ≤ 255) (hm : m = 2 ^ i) (hi : i ≤ 24) : shl .i64 c (i : Int) = c * m := by
  unfold shl
  have e : min (i : Int).toNat IntKind.i64.bits = i := by show min i 64 = i; omega
  rw [e]
  have hp : (2 : Int) ^ i = (m : Int) := by rw [hm]; simp
  rw [hp]
  have hle0 : m ≤ 16777216 := by rw [hm]; exact Nat.pow_le_pow_right (by omega) hi
  have hle : (m : Int) ≤ 16777216 := by omega
  have hb : 0 ≤ c * (m : Int) ∧ c * (m : Int) ≤ 255 * 16777216 := ⟨Int.mul_nonneg h0 (by omega), Int.mul_le_mul h1 hle (by omega) (by omega)⟩
  simp only [IntKind.wrap, IntKind.signed, IntKind.bits]
  simp
  omega
/-- The number that the first w bytes tell. -/
def getL (s : List Int) : Nat → Int
  | 0 => 0
  | i + 1 => getL s i + rd s (i : Int) * 2 ^ (8 * i)
theorem getL_bd {s : List Int} (hs : Byt s) (i : Nat) : 0 ≤ getL s i ∧ getL s i < 2 ^ (8 * i) := by
  induction i with
  | zero => simp [getL]
  | succ i ih =>
    have hb := rd_byt hs (i : Int)
    have hp : (0 : Int) < 2 ^ (8 * i) := Int.pow_pos (by omega)
    have e : (2 : Int) ^ (8 * (i + 1)) = 2 ^ (8 * i) * 256 := by rw [show 8 * (i + 1) = 8 * i + 8 by omega, Int.pow_add]; rfl
    have h1 : 0 ≤ rd s (i : Int) * 2 ^ (8 * i) := Int.mul_nonneg hb.1 (by omega)
    have h2 : rd s (i : Int) * 2 ^ (8 * i) ≤ 255 * 2 ^ (8 * i) := Int.mul_le_mul_of_nonneg_right hb.2 (by omega)
    simp only [getL]
    omega
theorem sub_byt {b : List Int} (h : Byt b) (at_ w : Int) : Byt (sub b at_ w) := fun x hx => h x (List.mem_of_mem_take (List.mem_of_mem_drop hx))
theorem getV_eq {s : List Int} (hs : Byt s) (i : Nat) (hi : i ≤ 4) : getV s i = getL s i := by
  induction i with
  | zero => rfl
  | succ i ih =>
    have hb := rd_byt hs (i : Int)
    have hl := getL_bd hs i
    have hm : (2 ^ (8 * i) : Nat) ≤ 16777216 := Nat.pow_le_pow_right (by omega) (show 8 * i ≤ 24 by omega)
    have hp : ((2 : Int) ^ (8 * i)) = ((2 ^ (8 * i) : Nat) : Int) := by simp
    simp only [getV, getL]
    rw [ih (by omega), w64 (n := rd s (i : Int)) (by omega) (by omega), shl_at (c := rd s (i : Int)) (8 * i) (2 ^ (8 * i)) hb.1 hb.2 rfl (by omega)]
    generalize hM : 2 ^ (8 * i) = M at *
    have hb2 : 0 ≤ rd s (i : Int) * (M : Int) ∧ rd s (i : Int) * (M : Int) ≤ 255 * 16777216 := ⟨Int.mul_nonneg hb.1 (by omega), Int.mul_le_mul hb.2 (by omega) (by omega) (by omega)⟩
    rw [hp] at hl ⊢
    exact or_sum 40 (8 * i) _ _ (by omega) hb2.1 (by rw [hp]; exact Int.mul_emod_left _ _) (by omega) hl.1 (by rw [hp]; exact hl.2) (by omega)
theorem putAt1 (n : Int) : putAt n 1 1 = [n % 256] := by
  show [shr .i64 n ((8 * 0 : Nat) : Int) % 256] = _
  rw [sh0]
theorem putAt2 (n : Int) : putAt n 2 2 = [n % 256, n / 256 % 256] := by
  show [shr .i64 n ((8 * 0 : Nat) : Int) % 256, shr .i64 n ((8 * 1 : Nat) : Int) % 256] = _
  rw [sh0, sh1]
theorem putAt3 (n : Int) : putAt n 3 3 = [n % 256, n / 256 % 256, n / 65536 % 256] := by
  show [shr .i64 n ((8 * 0 : Nat) : Int) % 256, shr .i64 n ((8 * 1 : Nat) : Int) % 256, shr .i64 n ((8 * 2 : Nat) : Int) % 256] = _
  rw [sh0, sh1, sh2]
theorem putAt4 (n : Int) : putAt n 4 4 = [n % 256, n / 256 % 256, n / 65536 % 256, n / 16777216 % 256] := by
  show [shr .i64 n ((8 * 0 : Nat) : Int) % 256, shr .i64 n ((8 * 1 : Nat) : Int) % 256, shr .i64 n ((8 * 2 : Nat) : Int) % 256, shr .i64 n ((8 * 3 : Nat) : Int) % 256] = _
  rw [sh0, sh1, sh2, sh3]
theorem putAt_byt (n : Int) (w : Nat) : Byt (putAt n w w) := by
  intro x hx
  simp only [putAt, List.mem_map, List.mem_range] at hx
  obtain ⟨i, hi, rfl⟩ := hx
  rw [if_pos hi]; omega
theorem put_eq {w n : Int} (h : n ≤ 9223372036854775807) : bits_Put.f w n = some (if okPut w n then putAt n w.toNat w.toNat else []) := by
  unfold bits_Put.f; rw [if_neg (by omega)]
/-- What is put is got again. -/
theorem put_get {w n : Int} (h : okPut w n) : getL (putAt n w.toNat w.toNat) w.toNat = n := by
  rcases h with ⟨rfl, h0, h1⟩ | ⟨rfl, h0, h1⟩ | ⟨rfl, h0, h1⟩ | ⟨rfl, h0, h1⟩
  · show getL (putAt n 1 1) 1 = n
    rw [putAt1]; simp [getL, rd]; omega
  · show getL (putAt n 2 2) 2 = n
    rw [putAt2]; simp [getL, rd]; omega
  · show getL (putAt n 3 3) 3 = n
    rw [putAt3]; simp [getL, rd]; omega
  · show getL (putAt n 4 4) 4 = n
    rw [putAt4]; simp [getL, rd]; omega
theorem okPut_le {w n : Int} (h : okPut w n) : 1 ≤ w ∧ w ≤ 4 := by unfold okPut at h; omega
theorem get_eq {b : List Int} (hb : Byt b) (hn : b.length ≤ 140737488355328) (at_ w : Int) : bits_Get.f b at_ w = some (if okGet b at_ w then (getL (sub b at_ w) w.toNat, true) else (0, false)) := by
  unfold bits_Get.f
  rw [if_neg (by omega)]
  by_cases h : okGet b at_ w
  · rw [if_pos h, if_pos h, getV_eq (sub_byt hb _ _) _ (by have := h.2.1; omega)]
  · rw [if_neg h, if_neg h]
theorem rd_sub (b : List Int) (at_ w : Int) (i : Nat) (h0 : 0 ≤ at_) (h1 : (i : Int) < w) : rd (sub b at_ w) (i : Int) = rd b (at_ + i) := by
  unfold rd sub
  rw [List.getD_eq_getElem?_getD, List.getD_eq_getElem?_getD, List.getElem?_drop, List.getElem?_take, if_pos (by omega)]
  congr 2
  omega
/-- The reference goes from the last byte to the first. -/
theorem refget_loop (b : List Int) (hb : Byt b) (hn : b.length ≤ 140737488355328) (at_ w : Int) (h0 : 0 ≤ at_) (hw : w ≤ 4) (h1 : at_ + w ≤ b.length) (i : Nat) : ∀ (k : Nat) (x : Int), (i : Int) ≤ w → 0 ≤ x → x < 2 ^ (8 * (4 - i)) → i < k →
    moraineref01_Get.l0 k b at_ x ((i : Int) - 1) = some (x * 2 ^ (8 * i) + getL (sub b at_ w) i, true) := by
  induction i with
  | zero =>
    intro k x hi x0 x1 hk
    obtain ⟨k, rfl⟩ : ∃ m, k = m + 1 := ⟨k - 1, by omega⟩
    simp only [moraineref01_Get.l0]
    rw [if_neg (by omega)]
    simp [getL]
  | succ i ih =>
    intro k x hi x0 x1 hk
    obtain ⟨k, rfl⟩ : ∃ m, k = m + 1 := ⟨k - 1, by omega⟩
    simp only [moraineref01_Get.l0]
    have hr := rd_byt hb (at_ + i)
    have hx : x < 16777216 := by
      refine Int.lt_of_lt_of_le x1 ?_
      have : (2 ^ (8 * (4 - (i + 1))) : Nat) ≤ 16777216 := Nat.pow_le_pow_right (by omega) (show 8 * (4 - (i + 1)) ≤ 24 by omega)
      have e : ((2 : Int) ^ (8 * (4 - (i + 1)))) = ((2 ^ (8 * (4 - (i + 1))) : Nat) : Int) := by simp
      rw [e]; omega
    rw [show ((i + 1 : Nat) : Int) - 1 = (i : Int) by omega, if_pos (by omega), w64 (n := at_ + (i : Int)) (by omega) (by omega), if_pos (by omega), if_pos (by omega), w64 (n := x * 256) (by omega) (by omega), w64 (n := rd b (at_ + i)) (by omega) (by omega),
      w64 (n := x * 256 + rd b (at_ + i)) (by omega) (by omega), w64 (n := (i : Int) - 1) (by omega) (by omega)]
    have hp : (2 : Int) ^ (8 * (4 - i)) = 2 ^ (8 * (4 - (i + 1))) * 256 := by
      rw [show 8 * (4 - i) = 8 * (4 - (i + 1)) + 8 by omega, Int.pow_add]; rfl
    rw [ih k (x * 256 + rd b (at_ + i)) (by omega) (by omega) (by rw [hp]; omega) (by omega)]
    have e2 : (2 : Int) ^ (8 * (i + 1)) = 2 ^ (8 * i) * 256 := by rw [show 8 * (i + 1) = 8 * i + 8 by omega, Int.pow_add]; rfl
    simp only [getL]
    rw [rd_sub b at_ w i h0 (by omega), e2, Int.add_mul]
    have : x * 256 * 2 ^ (8 * i) = x * (2 ^ (8 * i) * 256) := by rw [Int.mul_assoc, Int.mul_comm 256]
    rw [this]
    congr 2
    omega
theorem refget_eq (k : Nat) {b : List Int} (hb : Byt b) (hn : b.length ≤ 140737488355328) (at_ w : Int) : moraineref01_Get.f (k + 6) b at_ w = some (if okGet b at_ w then (getL (sub b at_ w) w.toNat, true) else (0, false)) := by
  have hj : moraineref01_Get.j0 (k + 6) b at_ w true = some (0, false) := by simp [moraineref01_Get.j0]
  unfold moraineref01_Get.f
  by_cases h1 : w < 1; · rw [if_pos h1, hj, if_neg (by unfold okGet; omega)]
  rw [if_neg h1]
  by_cases h2 : w > 4; · rw [if_pos h2, hj, if_neg (by unfold okGet; omega)]
  rw [if_neg h2]
  by_cases h3 : at_ < 0; · rw [if_pos h3, hj, if_neg (by unfold okGet; omega)]
  rw [if_neg h3]
  by_cases h4 : at_ > b.length; · rw [if_pos h4, hj, if_neg (by unfold okGet; omega)]
  rw [if_neg h4, w64 (by omega) (by omega)]
  by_cases h5 : (b.length : Int) - at_ < w
  · rw [decide_eq_true h5, hj, if_neg (by unfold okGet; omega)]
  · rw [decide_eq_false h5, if_pos (show okGet b at_ w by unfold okGet; omega)]
    simp only [moraineref01_Get.j0]
    rw [if_neg (by simp), w64 (by omega) (by omega)]
    have hl := refget_loop b hb hn at_ w (by omega) (by omega) (by omega) w.toNat (k + 5) 0 (by omega) (by omega) (Int.pow_pos (by omega)) (by omega)
    rw [show ((w.toNat : Nat) : Int) = w by omega, Int.zero_mul, Int.zero_add] at hl
    exact hl
set_option maxRecDepth 100000 in
theorem alive_eq : morainelaw05_alive.f 20 = some true := by kernel_rfl
theorem alive_at (k : Nat) (hk : 20 ≤ k) : morainelaw05_alive.f k = some true := by
  obtain ⟨m, rfl⟩ : ∃ m, k = 20 + m := ⟨k - 20, by omega⟩
  clear hk
  induction m with
  | zero => exact alive_eq
  | succ m ih => exact morainelaw05_alive.mono _ _ ih
/-! the puts -/
def catS (l : List S57) : List Int := (l.map fun x => putAt x.f1 x.f0.toNat x.f0.toNat).flatten
theorem catS_snoc (l : List S57) (x : S57) : catS (l ++ [x]) = catS l ++ putAt x.f1 x.f0.toNat x.f0.toNat := by simp [catS]
def okS (x : S57) : Prop := okPut x.f0 x.f1
instance (x : S57) : Decidable (okS x) := by unfold okS; infer_instance
theorem catS_len (l : List S57) (h : ∀ x ∈ l, okS x) : (catS l).length ≤ 4 * l.length := by
  induction l with
  | nil => simp [catS]
  | cons x l ih =>
    have e : catS (x :: l) = putAt x.f1 x.f0.toNat x.f0.toNat ++ catS l := by simp [catS]
    have hx := okPut_le (h x (by simp))
    have := ih (fun y hy => h y (by simp [hy]))
    rw [e, List.length_append, putAt_length, List.length_cons]; omega
def headL (a : Int) : List Int := [77, 79, 82, a]
def recV (a : Int) (l : List S57) : List Int × Bool := if ∀ x ∈ l, okS x then (padL (headL a ++ catS l) 64, true) else ([], false)
theorem rdS (l : List S57) (i : Nat) (h : i < l.length) : rd_T57 l (i : Int) = l[i] := by
  show l.getD i z57 = _
  rw [List.getD_eq_getElem?_getD, List.getElem?_eq_getElem h]; rfl
theorem okS_len {x : S57} (h : okS x) : ¬ ((putAt x.f1 x.f0.toNat x.f0.toNat).length : Int) = 0 := by
  have := okPut_le h
  rw [putAt_length]; omega
theorem all_drop {α : Type} {P : α → Prop} (l : List α) (i : Nat) (h : i < l.length) : (∀ x ∈ l.drop i, P x) ↔ (P l[i] ∧ ∀ x ∈ l.drop (i + 1), P x) := by
  rw [List.drop_eq_getElem_cons h]; simp only [List.mem_cons, forall_eq_or_imp]
theorem all_take {α : Type} {P : α → Prop} (l : List α) (i : Nat) (h : i < l.length) (h1 : ∀ x ∈ l.take i, P x) (h2 : P l[i]) : ∀ x ∈ l.take (i + 1), P x := by
  rw [List.take_succ_eq_append_getElem h]
  intro x hx
  rcases List.mem_append.1 hx with hx | hx
  · exact h1 x hx
  · simp at hx; subst hx; exact h2
theorem sp_loop (a : Int) (l : List S57) (hl : l.length ≤ 10) (hb : ∀ x ∈ l, x.f1 ≤ 9223372036854775807) (d : Nat) : ∀ (k i : Nat), i + d = l.length → d < k → (∀ x ∈ l.take i, okS x) →
    super_put.l0 k (headL a ++ catS (l.take i)) l (l.length : Int) (i : Int) = some (if ∀ x ∈ l.drop i, okS x then (padL (headL a ++ catS l) 64, true) else ([], false)) := by
  induction d with
  | zero =>
    intro k i hi hk ht
    obtain ⟨k, rfl⟩ : ∃ m, k = m + 1 := ⟨k - 1, by omega⟩
    simp only [super_put.l0]
    rw [List.take_of_length_le (by omega)] at ht ⊢
    have hc := catS_len l ht
    rw [if_neg (by omega), List.drop_of_length_le (by omega)]
    unfold bits_Pad.f
    rw [if_neg (by simp only [headL, List.length_append, List.length_cons, List.length_nil]; omega)]
    simp
  | succ d ih =>
    intro k i hi hk ht
    obtain ⟨k, rfl⟩ : ∃ m, k = m + 1 := ⟨k - 1, by omega⟩
    have hlt : i < l.length := by omega
    have hbi := hb _ (List.getElem_mem hlt)
    have hc := catS_len _ ht
    rw [List.length_take] at hc
    simp only [super_put.l0]
    rw [if_pos (by omega), if_pos (by omega), if_pos (by omega), rdS l i hlt, put_eq hbi]
    simp only [Option.bind_some]
    by_cases hp : okS l[i]
    · have hle := okPut_le hp
      rw [if_pos (show okPut l[i].f0 l[i].f1 from hp), if_neg (okS_len hp), if_pos (by rw [putAt_length]; simp only [headL, List.length_append, List.length_cons, List.length_nil]; omega), w64 (by omega) (by omega)]
      have h := ih k (i + 1) (by omega) (by omega) (all_take l i hlt ht hp)
      rw [List.take_succ_eq_append_getElem hlt, catS_snoc, ← List.append_assoc] at h
      rw [show ((i : Int) + 1) = ((i + 1 : Nat) : Int) by omega, h]
      congr 1
      by_cases hr : ∀ x ∈ l.drop (i + 1), okS x
      · rw [if_pos hr, if_pos ((all_drop l i hlt).2 ⟨hp, hr⟩)]
      · rw [if_neg hr, if_neg (fun hh => hr ((all_drop l i hlt).1 hh).2)]
    · rw [if_neg (show ¬ okPut l[i].f0 l[i].f1 from hp), if_pos (by simp), if_neg (fun hh => hp ((all_drop l i hlt).1 hh).1)]
theorem sput_eq (a : Int) (l : List S57) (hl : l.length ≤ 10) (hb : ∀ x ∈ l, x.f1 ≤ 9223372036854775807) (k : Nat) (hk : 20 ≤ k) : super_put.f k a l = some (recV a l) := by
  unfold super_put.f
  exact sp_loop a l hl hb l.length k 0 (by omega) (by omega) (by simp)
theorem putMark_eq (n : Int) (hn : n ≤ 9223372036854775807) (k : Nat) (hk : 20 ≤ k) : super_PutMark.f k n = some (recV 2 [⟨4, n⟩]) := by
  unfold super_PutMark.f
  rw [sput_eq 2 _ (by simp) (by simpa using hn) k hk]; rfl
def okMem (e s t : Int) : Prop := 0 ≤ s ∧ s < 16 ∧ 0 ≤ t ∧ t ≤ 2 ∧ (t = 0 → s = 0)
instance (e s t : Int) : Decidable (okMem e s t) := by unfold okMem; infer_instance
theorem member_eq (e s t : Int) : super_member.f e s t = some (decide (okMem e s t)) := by
  unfold super_member.f
  by_cases h1 : s ≥ 0
  · rw [if_pos h1]
    by_cases h2 : s < 16
    · rw [if_pos h2]
      by_cases h3 : t ≥ 0
      · rw [if_pos h3]
        by_cases h4 : t ≤ 2
        · rw [if_pos h4]
          by_cases h5 : t = 0
          · rw [if_pos h5]
            refine congrArg some ?_
            rw [Bool.eq_iff_iff, beq_iff_eq, decide_eq_true_eq]
            unfold okMem; omega
          · rw [if_neg h5, decide_eq_true (by unfold okMem; omega)]
        · have : ¬ okMem e s t := by unfold okMem; omega
          rw [if_neg h4, decide_eq_false this]
      · have : ¬ okMem e s t := by unfold okMem; omega
        rw [if_neg h3, decide_eq_false this]
    · have : ¬ okMem e s t := by unfold okMem; omega
      rw [if_neg h2, decide_eq_false this]
  · have : ¬ okMem e s t := by unfold okMem; omega
    rw [if_neg h1, decide_eq_false this]
theorem recV_len (a : Int) (l : List S57) : (recV a l).1.length ≤ 64 ∨ 10 < l.length := by
  unfold recV
  split
  · rename_i h
    have := catS_len l h
    by_cases hl : l.length ≤ 10
    · left
      rw [padL_length _ _ (by simp only [headL, List.length_append, List.length_cons, List.length_nil]; omega)]
      exact Nat.le_refl _
    · right; omega
  · left; simp
/-! the gets -/
def goF (l : List Int) : List Int → Int → List Int
  | [], _ => []
  | w :: ws, a => getL (sub l a w) w.toNat :: goF l ws (a + w)
def endF : List Int → Int → Int
  | [], a => a
  | w :: ws, a => endF ws (a + w)
theorem endF_le : ∀ (ws : List Int) (a : Int), (∀ w ∈ ws, 1 ≤ w ∧ w ≤ 4) → a ≤ endF ws a
  | [], a, _ => Int.le_refl a
  | w :: ws, a, h => by
    have := endF_le ws (a + w) (fun v hv => h v (by simp [hv]))
    have := h w (by simp)
    show a ≤ endF ws (a + w); omega
def zeros (l : List Int) : Prop := ∀ x ∈ l, x = 0
instance (l : List Int) : Decidable (zeros l) := by unfold zeros; infer_instance
theorem nought_eq (l : List Int) : bits_Nought.f l = some (decide (zeros l)) := by
  unfold bits_Nought.f
  refine congrArg some (decide_eq_decide.2 ?_)
  rw [tl_zero]
  constructor
  · intro h x hx
    obtain ⟨i, hi, rfl⟩ := List.mem_iff_getElem.1 hx
    have := h i hi
    rwa [List.getD_eq_getElem?_getD, List.getElem?_eq_getElem hi] at this
  · intro h j hj
    rw [List.getD_eq_getElem?_getD, List.getElem?_eq_getElem hj]
    exact h _ (List.getElem_mem hj)
def recOf (a : Int) (l : List Int) : Prop := l.length = 64 ∧ l.take 3 = [77, 79, 82] ∧ l.getD 3 0 = a
instance (a : Int) (l : List Int) : Decidable (recOf a l) := by unfold recOf; infer_instance
def getS (a : Int) (l ws : List Int) : List Int × Bool := if recOf a l then (goF l ws 4, decide (zeros (l.drop (endF ws 4).toNat))) else ([], false)
theorem byte_eq {x : Int} {n : Nat} (h : 0 ≤ x ∧ x ≤ 255) (hn : n ≤ 255) : UInt8.ofNat x.toNat = UInt8.ofNat n ↔ x = (n : Int) := by
  rw [← UInt8.toNat_inj]
  have e1 : (UInt8.ofNat x.toNat).toNat = x.toNat := by simp; omega
  have e2 : (UInt8.ofNat n).toNat = n := by simp; omega
  rw [e1, e2]; omega
theorem str_eq {l : List Int} (hb : Byt l) (hl : l.length = 64) : (strOfNums (l.take 3)).toList = ([77, 79, 82] : List UInt8) ↔ l.take 3 = [77, 79, 82] := by
  match l, hl, hb with
  | a :: b :: c :: r, _, hb =>
    have ha := hb a (by simp); have hb' := hb b (by simp); have hc := hb c (by simp)
    have e : (strOfNums ((a :: b :: c :: r).take 3)).toList = [UInt8.ofNat a.toNat, UInt8.ofNat b.toNat, UInt8.ofNat c.toNat] := by
      simp [strOfNums, ByteArray.toList_mk]
    rw [e]
    simp only [List.take_succ_cons, List.take_zero, List.cons.injEq, and_true]
    have q1 := byte_eq (n := 77) ha (by decide)
    have q2 := byte_eq (n := 79) hb' (by decide)
    have q3 := byte_eq (n := 82) hc (by decide)
    constructor
    · rintro ⟨h1, h2, h3⟩
      exact ⟨q1.1 h1, q2.1 h2, q3.1 h3⟩
    · rintro ⟨h1, h2, h3⟩
      exact ⟨q1.2 h1, q2.2 h2, q3.2 h3⟩
theorem sg_loop (l : List Int) (hb : Byt l) (hl : l.length = 64) (ws : List Int) (hws : ∀ w ∈ ws, 1 ≤ w ∧ w ≤ 4) (hlen : ws.length ≤ 10) : ∀ (rest : List Int) (k i : Nat) (acc : List Int) (a : Int), ws.drop i = rest → i ≤ ws.length → rest.length < k → acc.length = i → 0 ≤ a → endF rest a ≤ 64 →
    super_get.l0 k l acc a ws (ws.length : Int) (i : Int) = some (acc ++ goF l rest a, decide (zeros (l.drop (endF rest a).toNat))) := by
  intro rest
  induction rest with
  | nil =>
    intro k i acc a hr hi hk ha h0 he
    obtain ⟨k, rfl⟩ : ∃ m, k = m + 1 := ⟨k - 1, by omega⟩
    have hd := congrArg List.length hr
    rw [List.length_drop, List.length_nil] at hd
    have he : a ≤ 64 := he
    simp only [super_get.l0]
    rw [if_neg (by omega), if_pos h0, if_pos (by omega), nought_eq]
    simp only [Option.bind_some]
    show some (acc, decide (zeros (l.drop a.toNat))) = some (acc ++ [], decide (zeros (l.drop a.toNat)))
    rw [List.append_nil]
  | cons w rest ih =>
    intro k i acc a hr hi hk ha h0 he
    rw [List.length_cons] at hk
    obtain ⟨k, rfl⟩ : ∃ m, k = m + 1 := ⟨k - 1, by omega⟩
    have hd := congrArg List.length hr
    rw [List.length_drop, List.length_cons] at hd
    have hlt : i < ws.length := by omega
    have hc := hr
    rw [List.drop_eq_getElem_cons hlt] at hc
    obtain ⟨hw, hr2⟩ := List.cons.inj hc
    have hwb := hws w (by rw [← hw]; exact List.getElem_mem hlt)
    have hall : ∀ v ∈ rest, 1 ≤ v ∧ v ≤ 4 := fun v hv => hws v (by rw [← hr2] at hv; exact List.mem_of_mem_drop hv)
    have he : endF rest (a + w) ≤ 64 := he
    have hle := endF_le rest (a + w) hall
    simp only [super_get.l0]
    rw [if_pos (by omega), if_pos (by omega), if_pos (by omega), rd_get hlt, hw, get_eq hb (by omega), if_pos (show okGet l a w by unfold okGet; omega)]
    simp only [Option.bind_some]
    rw [if_pos (by omega), w64 (n := a + w) (by omega) (by omega), w64 (n := (i : Int) + 1) (by omega) (by omega)]
    have h := ih k (i + 1) (acc ++ [getL (sub l a w) w.toNat]) (a + w) hr2 (by omega) (by omega) (by simp; omega) (by omega) he
    rw [show ((i : Int) + 1) = ((i + 1 : Nat) : Int) by omega, h]
    show some (acc ++ [getL (sub l a w) w.toNat] ++ goF l rest (a + w), decide (zeros (l.drop (endF rest (a + w)).toNat))) = some (acc ++ (getL (sub l a w) w.toNat :: goF l rest (a + w)), decide (zeros (l.drop (endF rest (a + w)).toNat)))
    rw [List.append_assoc]; rfl
theorem sget_eq (a : Int) (l : List Int) (hb : Byt l) (ws : List Int) (hws : ∀ w ∈ ws, 1 ≤ w ∧ w ≤ 4) (hlen : ws.length ≤ 10) (he : endF ws 4 ≤ 64) (k : Nat) (hk : 20 ≤ k) : super_get.f k l a ws = some (getS a l ws) := by
  obtain ⟨k, rfl⟩ : ∃ m, k = m + 1 := ⟨k - 1, by omega⟩
  unfold super_get.f getS
  by_cases hl : l.length = 64
  · rw [if_pos (by omega), if_pos (by omega)]
    by_cases hs : l.take 3 = [77, 79, 82]
    · rw [if_pos ((str_eq hb hl).2 hs), if_pos (by omega)]
      have e3 : rd l 3 = l.getD 3 0 := rfl
      by_cases h3 : l.getD 3 0 = a
      · have hR : recOf a l := ⟨hl, hs, h3⟩
        rw [e3, if_pos hR, bne_eq_false_iff_eq.2 h3]
        simp only [super_get.j0]
        rw [if_neg (by simp)]
        have := sg_loop l hb hl ws hws hlen ws k 0 [] 4 rfl (Nat.zero_le _) (by omega) rfl (by omega) he
        simpa using this
      · have hR : ¬ recOf a l := fun h => h3 h.2.2
        rw [e3, if_neg hR, bne_iff_ne.2 h3]
        simp [super_get.j0]
    · have hR : ¬ recOf a l := fun h => hs h.2.1
      rw [if_neg (fun h => hs ((str_eq hb hl).1 h)), if_neg hR]
      simp [super_get.j0]
  · have hR : ¬ recOf a l := fun h => hl h.1
    rw [if_neg (by omega), if_neg hR]
    simp [super_get.j0]
def markV (l : List Int) : Int × Bool := if recOf 2 l ∧ zeros (l.drop 8) then (getL (sub l 4 4) 4, true) else (0, false)
theorem getMark_eq (l : List Int) (hb : Byt l) (k : Nat) (hk : 20 ≤ k) : super_GetMark.f k l = some (markV l) := by
  unfold super_GetMark.f markV
  rw [sget_eq 2 l hb [4] (by simp) (by simp) (by decide) k hk]
  simp only [Option.bind_some]
  unfold getS
  by_cases h : recOf 2 l
  · rw [if_pos h]
    by_cases hz : zeros (l.drop 8)
    · rw [if_pos (show decide (zeros (l.drop (endF [4] 4).toNat)) = true from decide_eq_true hz), if_pos (show (0 : Int) < ((goF l [4] 4).length : Int) by show (0 : Int) < ((1 : Nat) : Int); decide), if_pos ⟨h, hz⟩]; rfl
    · rw [if_neg (show ¬ decide (zeros (l.drop (endF [4] 4).toNat)) = true from fun e => hz (of_decide_eq_true e)), if_neg (fun e => hz e.2)]
  · rw [if_neg h]
    show (if false = true then _ else some (0, false)) = _
    rw [if_neg (by simp), if_neg (fun e => h e.1)]
def memG (l : List Int) : Int × Int × Int × Bool :=
  if (recOf 3 l ∧ zeros (l.drop 10)) ∧ okMem (getL (sub l 4 4) 4) (getL (sub l 8 1) 1) (getL (sub l 9 1) 1) then (getL (sub l 4 4) 4, getL (sub l 8 1) 1, getL (sub l 9 1) 1, true) else (0, 0, 0, false)
theorem getMember_eq (l : List Int) (hb : Byt l) (k : Nat) (hk : 20 ≤ k) : super_GetMember.f k l = some (memG l) := by
  unfold super_GetMember.f memG
  rw [sget_eq 3 l hb [4, 1, 1] (by simp) (by simp) (by decide) k hk]
  simp only [Option.bind_some]
  unfold getS
  by_cases h : recOf 3 l
  · rw [if_pos h]
    by_cases hz : zeros (l.drop 10)
    · rw [if_pos (show decide (zeros (l.drop (endF [4, 1, 1] 4).toNat)) = true from decide_eq_true hz), if_pos (show (0 : Int) < ((goF l [4, 1, 1] 4).length : Int) by show (0 : Int) < ((3 : Nat) : Int); decide), if_pos (show (1 : Int) < ((goF l [4, 1, 1] 4).length : Int) by show (1 : Int) < ((3 : Nat) : Int); decide), if_pos (show (2 : Int) < ((goF l [4, 1, 1] 4).length : Int) by show (2 : Int) < ((3 : Nat) : Int); decide)]
      show (super_member.f (getL (sub l 4 4) 4) (getL (sub l 8 1) 1) (getL (sub l 9 1) 1)).bind _ = _
      rw [member_eq]
      simp only [Option.bind_some]
      by_cases hm : okMem (getL (sub l 4 4) 4) (getL (sub l 8 1) 1) (getL (sub l 9 1) 1)
      · rw [decide_eq_true hm, if_pos rfl, if_pos ⟨⟨h, hz⟩, hm⟩]; rfl
      · rw [decide_eq_false hm, if_neg (by simp), if_neg (fun e => hm e.2)]
    · rw [if_neg (show ¬ decide (zeros (l.drop (endF [4, 1, 1] 4).toNat)) = true from fun e => hz (of_decide_eq_true e)), if_neg (fun e => hz e.1.2)]
  · rw [if_neg h]
    show (if false = true then _ else some (0, 0, 0, false)) = _
    rw [if_neg (by simp), if_neg (fun e => h e.1.1)]
theorem refmember_eq (e s t : Int) : moraineref05_member.f e s t = some (decide (okMem e s t)) := by
  unfold moraineref05_member.f
  by_cases h1 : s ≥ 0
  · rw [if_pos h1]
    by_cases h2 : s < 16
    · rw [if_pos h2]
      by_cases h3 : t ≥ 0
      · rw [if_pos h3]
        by_cases h4 : t ≤ 2
        · rw [if_pos h4]
          by_cases h5 : t > 0
          · rw [if_pos h5, decide_eq_true (by unfold okMem; omega)]
          · rw [if_neg h5]
            refine congrArg some ?_
            rw [Bool.eq_iff_iff, beq_iff_eq, decide_eq_true_eq]
            unfold okMem; omega
        · have : ¬ okMem e s t := by unfold okMem; omega
          rw [if_neg h4, decide_eq_false this]
      · have : ¬ okMem e s t := by unfold okMem; omega
        rw [if_neg h3, decide_eq_false this]
    · have : ¬ okMem e s t := by unfold okMem; omega
      rw [if_neg h2, decide_eq_false this]
  · have : ¬ okMem e s t := by unfold okMem; omega
    rw [if_neg h1, decide_eq_false this]
theorem rn_loop (l : List Int) (hn : l.length ≤ 100000) (d : Nat) : ∀ (k i : Nat), i + d = l.length → d < k → moraineref01_Nought.l0 k l (i : Int) = some (decide (zeros (l.drop i))) := by
  induction d with
  | zero =>
    intro k i hi hk
    obtain ⟨k, rfl⟩ : ∃ m, k = m + 1 := ⟨k - 1, by omega⟩
    simp only [moraineref01_Nought.l0]
    rw [if_neg (by omega), List.drop_of_length_le (by omega)]
    exact congrArg some (decide_eq_true (show zeros [] from fun x hx => by simp at hx)).symm
  | succ d ih =>
    intro k i hi hk
    obtain ⟨k, rfl⟩ : ∃ m, k = m + 1 := ⟨k - 1, by omega⟩
    have hlt : i < l.length := by omega
    simp only [moraineref01_Nought.l0]
    rw [if_pos (by omega), if_pos (by omega), rd_get hlt]
    by_cases h : l[i] = 0
    · rw [if_pos h, w64 (by omega) (by omega), show ((i : Int) + 1) = ((i + 1 : Nat) : Int) by omega, ih k (i + 1) (by omega) (by omega)]
      exact congrArg some (decide_eq_decide.2 ⟨fun hz => (all_drop l i hlt).2 ⟨h, hz⟩, fun hz => ((all_drop l i hlt).1 hz).2⟩)
    · rw [if_neg h]
      exact congrArg some (decide_eq_false (fun hz => h ((all_drop l i hlt).1 hz).1)).symm
theorem rn_eq (l : List Int) (hn : l.length ≤ 100000) (k : Nat) (hk : l.length < k) : moraineref01_Nought.f k l = some (decide (zeros l)) := by
  unfold moraineref01_Nought.f
  exact rn_loop l hn l.length k 0 (by omega) hk
theorem rf_loop (l : List Int) (hb : Byt l) (hl : l.length = 64) (ws : List Int) (hws : ∀ w ∈ ws, 1 ≤ w ∧ w ≤ 4) (hlen : ws.length ≤ 10) : ∀ (rest : List Int) (k i : Nat) (acc : List Int) (a : Int), ws.drop i = rest → i ≤ ws.length → rest.length + 80 < k → acc.length = i → 0 ≤ a → endF rest a ≤ 64 →
    moraineref05_fields.l0 k l ws acc a (i : Int) = some (acc ++ goF l rest a, decide (zeros (l.drop (endF rest a).toNat))) := by
  intro rest
  induction rest with
  | nil =>
    intro k i acc a hr hi hk ha h0 he
    obtain ⟨k, rfl⟩ : ∃ m, k = m + 1 := ⟨k - 1, by omega⟩
    have hd := congrArg List.length hr
    rw [List.length_drop, List.length_nil] at hd
    have he : a ≤ 64 := he
    simp only [moraineref05_fields.l0]
    rw [if_neg (by omega), if_pos h0, if_pos (by omega), rn_eq _ (by rw [List.length_drop]; omega) k (by rw [List.length_drop]; omega)]
    simp only [Option.bind_some]
    show some (acc, decide (zeros (l.drop a.toNat))) = some (acc ++ [], decide (zeros (l.drop a.toNat)))
    rw [List.append_nil]
  | cons w rest ih =>
    intro k i acc a hr hi hk ha h0 he
    rw [List.length_cons] at hk
    obtain ⟨k, rfl⟩ : ∃ m, k = m + 6 + 1 := ⟨k - 7, by omega⟩
    have hd := congrArg List.length hr
    rw [List.length_drop, List.length_cons] at hd
    have hlt : i < ws.length := by omega
    have hc := hr
    rw [List.drop_eq_getElem_cons hlt] at hc
    obtain ⟨hw, hr2⟩ := List.cons.inj hc
    have hwb := hws w (by rw [← hw]; exact List.getElem_mem hlt)
    have hall : ∀ v ∈ rest, 1 ≤ v ∧ v ≤ 4 := fun v hv => hws v (by rw [← hr2] at hv; exact List.mem_of_mem_drop hv)
    have he : endF rest (a + w) ≤ 64 := he
    have hle := endF_le rest (a + w) hall
    simp only [moraineref05_fields.l0]
    rw [if_pos (by omega), if_pos (by omega), rd_get hlt, hw, refget_eq k hb (by omega), if_pos (show okGet l a w by unfold okGet; omega)]
    simp only [Option.bind_some]
    rw [if_pos (by omega), w64 (n := a + w) (by omega) (by omega), w64 (n := (i : Int) + 1) (by omega) (by omega)]
    have h := ih (k + 6) (i + 1) (acc ++ [getL (sub l a w) w.toNat]) (a + w) hr2 (by omega) (by omega) (by simp; omega) (by omega) he
    rw [show ((i : Int) + 1) = ((i + 1 : Nat) : Int) by omega]
    refine Eq.trans h ?_
    show some (acc ++ [getL (sub l a w) w.toNat] ++ goF l rest (a + w), decide (zeros (l.drop (endF rest (a + w)).toNat))) = some (acc ++ (getL (sub l a w) w.toNat :: goF l rest (a + w)), decide (zeros (l.drop (endF rest (a + w)).toNat)))
    rw [List.append_assoc]; rfl
theorem fields_eq (a : Int) (l : List Int) (hb : Byt l) (ws : List Int) (hws : ∀ w ∈ ws, 1 ≤ w ∧ w ≤ 4) (hlen : ws.length ≤ 10) (he : endF ws 4 ≤ 64) (k : Nat) (hk : 200 ≤ k) : moraineref05_fields.f k l a ws = some (getS a l ws) := by
  obtain ⟨k, rfl⟩ : ∃ m, k = m + 1 := ⟨k - 1, by omega⟩
  have hj : ∀ x y : List Int, moraineref05_fields.j0 (k + 1) x y true = some ([], false) := fun x y => by simp [moraineref05_fields.j0]
  unfold moraineref05_fields.f getS
  by_cases hl : l.length = 64
  · match l, hl, hb with
    | x :: y :: z :: v :: r, hl, hb =>
      rw [if_pos (by omega), if_pos (by omega)]
      have e0 : rd (x :: y :: z :: v :: r) 0 = x := rfl
      have e1 : rd (x :: y :: z :: v :: r) 1 = y := rfl
      have e2 : rd (x :: y :: z :: v :: r) 2 = z := rfl
      have e3 : rd (x :: y :: z :: v :: r) 3 = v := rfl
      have iff : recOf a (x :: y :: z :: v :: r) ↔ x = 77 ∧ y = 79 ∧ z = 82 ∧ v = a := by
        unfold recOf
        simp only [List.take_succ_cons, List.take_zero, List.cons.injEq, and_true]
        exact ⟨fun h => ⟨h.2.1.1, h.2.1.2.1, h.2.1.2.2, h.2.2⟩, fun h => ⟨hl, ⟨h.1, h.2.1, h.2.2.1⟩, h.2.2.2⟩⟩
      rw [e0]
      by_cases h0 : x = 77
      · rw [if_pos h0, if_pos (by omega), e1]
        by_cases h1 : y = 79
        · rw [if_pos h1, if_pos (by omega), e2]
          by_cases h2 : z = 82
          · rw [if_pos h2, if_pos (by omega), e3]
            by_cases h3 : v = a
            · rw [bne_eq_false_iff_eq.2 h3, if_pos (iff.2 ⟨h0, h1, h2, h3⟩)]
              simp only [moraineref05_fields.j0]
              rw [if_neg (by simp)]
              have := rf_loop (x :: y :: z :: v :: r) hb hl ws hws hlen ws k 0 [] 4 rfl (Nat.zero_le _) (by omega) rfl (by omega) he
              simpa using this
            · rw [bne_iff_ne.2 h3, hj, if_neg (fun h => h3 (iff.1 h).2.2.2)]
          · rw [if_neg h2, hj, if_neg (fun h => h2 (iff.1 h).2.2.1)]
        · rw [if_neg h1, hj, if_neg (fun h => h1 (iff.1 h).2.1)]
      · rw [if_neg h0, hj, if_neg (fun h => h0 (iff.1 h).1)]
  · have hR : ¬ recOf a l := fun h => hl h.1
    rw [if_neg (by omega), if_neg hR, hj]
theorem refGetMark_eq (l : List Int) (hb : Byt l) (k : Nat) (hk : 200 ≤ k) : moraineref05_GetMark.f k l = some (markV l) := by
  rw [← getMark_eq l hb 20 (Nat.le_refl _)]
  unfold moraineref05_GetMark.f super_GetMark.f
  rw [fields_eq 2 l hb [4] (by simp) (by simp) (by decide) k hk, sget_eq 2 l hb [4] (by simp) (by simp) (by decide) 20 (Nat.le_refl _)]
theorem refGetMember_eq (l : List Int) (hb : Byt l) (k : Nat) (hk : 200 ≤ k) : moraineref05_GetMember.f k l = some (memG l) := by
  rw [← getMember_eq l hb 20 (Nat.le_refl _)]
  unfold moraineref05_GetMember.f super_GetMember.f
  rw [fields_eq 3 l hb [4, 1, 1] (by simp) (by simp) (by decide) k hk, sget_eq 3 l hb [4, 1, 1] (by simp) (by simp) (by decide) 20 (Nat.le_refl _)]
  have e : ∀ e s t, moraineref05_member.f e s t = super_member.f e s t := fun e s t => by rw [member_eq, refmember_eq]
  simp only [e]
end Go.Proofs.YtkpipmhcjjncdaaDoor.Pure
