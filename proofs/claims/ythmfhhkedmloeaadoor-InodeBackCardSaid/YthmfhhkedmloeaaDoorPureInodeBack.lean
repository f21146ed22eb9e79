/- Plain laws over whole numbers and lists: PureInodeBack. -/
import Derived.Test.YthmfhhkedmloeaaDoorGivInodeGet
import Derived.Test.YthmfhhkedmloeaaDoorWMore
import Derived.Test.YthmfhhkedmloeaaDoorQInodeBackx
import Derived.KernelRfl
import Derived.Laws.BitsLemmas
import Derived.Laws.BitsAllLaws
namespace Go.Proofs.YthmfhhkedmloeaaDoor.Pure
open Go.RowKit Go.Proofs.YthmfhhkedmloeaaDoor.PInodeBack Go.Proofs.YthmfhhkedmloeaaDoor.Given Go.Proofs.YthmfhhkedmloeaaDoorW.PrintWords Go.Proofs.YthmfhhkedmloeaaDoorW.PrintLast Go.Proofs.YthmfhhkedmloeaaDoorW.PrintMore
set_option linter.unusedVariables false
set_option linter.unusedSimpArgs false
theorem w64 {n : Int} (h0 : -9223372036854775808 ≤ n) (h1 : n ≤ 9223372036854775807) : wrap64 n = n := by unfold wrap64; omega
theorem i64_bd {n : Int} (h : (Lit.int .i64 n).wf = true) : -9223372036854775808 ≤ n ∧ n ≤ 9223372036854775807 := by simpa [Lit.wf, IntKind.min, IntKind.max, IntKind.signed, IntKind.bits] using h
theorem u8_bd {n : Int} (h : (Lit.int .u8 n).wf = true) : 0 ≤ n ∧ n ≤ 255 := by simpa [Lit.wf, IntKind.min, IntKind.max, IntKind.signed, IntKind.bits] using h
theorem rd_get {xs : List Int} {i : Nat} (h : i < xs.length) : rd xs (i : Int) = xs[i] := by simp [rd, h]
def Byt (l : List Int) : Prop := ∀ x ∈ l, 0 ≤ x ∧ x ≤ 255
theorem rd_byt {l : List Int} (h : Byt l) (i : Int) : 0 ≤ rd l i ∧ rd l i ≤ 255 := by
  unfold rd
  by_cases hi : i.toNat < l.length
  · rw [List.getD_eq_getElem?_getD, List.getElem?_eq_getElem hi]; exact h _ (List.getElem_mem hi)
  · rw [List.getD_eq_getElem?_getD, List.getElem?_eq_none (by omega)]; simp
theorem or_sum (j i : Nat) (x y : Int) (hj : j ≤ 62) (hx0 : 0 ≤ x) (hx : x % 2 ^ i = 0) (hx1 : x < 2 ^ j) (hy0 : 0 ≤ y) (hy : y < 2 ^ i) (hy1 : y < 2 ^ j) : Go.bits .or .i64 y x = y + x := by
  have hc : Go.bits .or .i64 y x = Go.bits .or .i64 x y := by simp only [Go.bits, BitVec.or_comm]
  rw [hc, bits_join .i64 j (by show j ≤ 64; omega) (fun n h0 h1 => by
    have : (2 : Int) ^ j ≤ 2 ^ 62 := by exact_mod_cast Nat.pow_le_pow_right (by omega) hj
    have h3 : n < (2 : Int) ^ 62 := Int.lt_of_lt_of_le h1 this
    have e62 : (2 : Int) ^ 62 = 4611686018427387904 := by kernel_rfl
    have h2 : n < 4611686018427387904 := by rw [e62] at h3; exact h3
    clear this h3 e62
    show IntKind.i64.wrap n = n
    simp only [IntKind.wrap, IntKind.signed, IntKind.bits]
    simp
    omega) i x y hx0 hx hx1 hy0 hy hy1]
  omega
theorem shl_at {c : Int} (i m : Nat) (h0 : 0 ≤ c) (h1 : c ≤ 255) (hm : m = 2 ^ i) (hi : i ≤ 24) : shl .i64 c (i : Int) = c * m := by
  unfold shl
  have e : min (i : Int).toNat IntKind.i64.bits = i := by show min i 64 = i; omega
  rw [e]
  have hp : (2 : Int) ^ i = (m : Int) := by rw [hm]; simp
  rw [hp]
  have hle0 : m ≤ 16777216 := by rw [hm]; exact Nat.pow_le_pow_right (by omega) hi
  have hle : (m : Int) ≤ 16777216 := by omega
  have hb : 0 ≤ c * (m : Int) ∧ c * (m : Int) ≤ 255 * 16777216 := ⟨Int.mul_nonneg h0 (by omega), Int.mul_le_mul h1 hle (by omega) (by omega)⟩
  simp only [IntKind.wrap, IntKind.signed, IntKind.bits]
  simp
  omega
/-- The number that the first w bytes tell. -/
def getL (s : List Int) : Nat → Int
  | 0 => 0
  | i + 1 => getL s i + rd s (i : Int) * 2 ^ (8 * i)
theorem getL_bd {s : List Int} (hs : Byt s) (i : Nat) : 0 ≤ getL s i ∧ getL s i < 2 ^ (8 * i) := by
  induction i with
  | zero => simp [getL]
  | succ i ih =>
    have hb := rd_byt hs (i : Int)
    have hp : (0 : Int) < 2 ^ (8 * i) := Int.pow_pos (by omega)
    have e : (2 : Int) ^ (8 * (i + 1)) = 2 ^ (8 * i) * 256 := by rw [show 8 * (i + 1) = 8 * i + 8 by omega, Int.pow_add]; rfl
    have h1 : 0 ≤ rd s (i : Int) * 2 ^ (8 * i) := Int.mul_nonneg hb.1 (by omega)
    have h2 : rd s (i : Int) * 2 ^ (8 * i) ≤ 255 * 2 ^ (8 * i) := Int.mul_le_mul_of_nonneg_right hb.2 (by omega)
    simp only [getL]
    omega
theorem sub_byt {b : List Int} (h : Byt b) (at_ w : Int) : Byt (sub b at_ w) := fun x hx => h x (List.mem_of_mem_take (List.mem_of_mem_drop hx))
theorem getV_eq {s : List Int} (hs : Byt s) (i : Nat) (hi : i ≤ 4) : getV s i = getL s i := by
  induction i with
  | zero => rfl
  | succ i ih =>
    have hb := rd_byt hs (i : Int)
    have hl := getL_bd hs i
    have hm : (2 ^ (8 * i) : Nat) ≤ 16777216 := Nat.pow_le_pow_right (by omega) (show 8 * i ≤ 24 by omega)
    have hp : ((2 : Int) ^ (8 * i)) = ((2 ^ (8 * i) : Nat) : Int) := by simp
    simp only [getV, getL]
    rw [ih (by omega), w64 (n := rd s (i : Int)) (by omega) (by omega), shl_at (c := rd s (i : Int)) (8 * i) (2 ^ (8 * i)) hb.1 hb.2 rfl (by omega)]
    generalize hM : 2 ^ (8 * i) = M at *
    have hb2 : 0 ≤ rd s (i : Int) * (M : Int) ∧ rd s (i : Int) * (M : Int) ≤ 255 * 16777216 := ⟨Int.mul_nonneg hb.1 (by omega), Int.mul_le_mul hb.2 (by omega) (by omega) (by omega)⟩
    rw [hp] at hl ⊢
    exact or_sum 40 (8 * i) _ _ (by omega) hb2.1 (by rw [hp]; exact Int.mul_emod_left _ _) (by omega) hl.1 (by rw [hp]; exact hl.2) (by omega)
theorem putAt1 (n : Int) : putAt n 1 1 = [n % 256] := by
  show [shr .i64 n ((8 * 0 : Nat) : Int) % 256] = _
  rw [sh0]
theorem putAt2 (n : Int) : putAt n 2 2 = [n % 256, n / 256 % 256] := by
  show [shr .i64 n ((8 * 0 : Nat) : Int) % 256, shr .i64 n ((8 * 1 : Nat) : Int) % 256] = _
  rw [sh0, sh1]
theorem putAt3 (n : Int) : putAt n 3 3 = [n % 256, n / 256 % 256, n / 65536 % 256] := by
  show [shr .i64 n ((8 * 0 : Nat) : Int) % 256, shr .i64 n ((8 * 1 : Nat) : Int) % 256, shr .i64 n ((8 * 2 : Nat) : Int) % 256] = _
  rw [sh0, sh1, sh2]
theorem putAt4 (n : Int) : putAt n 4 4 = [n % 256, n / 256 % 256, n / 65536 % 256, n / 16777216 % 256] := by
  show [shr .i64 n ((8 * 0 : Nat) : Int) % 256, shr .i64 n ((8 * 1 : Nat) : Int) % 256, shr .i64 n ((8 * 2 : Nat) : Int) % 256, shr .i64 n ((8 * 3 : Nat) : Int) % 256] = _
  rw [sh0, sh1, sh2, sh3]
theorem putAt_byt (n : Int) (w : Nat) : Byt (putAt n w w) := by
  intro x hx
  simp only [putAt, List.mem_map, List.mem_range] at hx
  obtain ⟨i, hi, rfl⟩ := hx
  rw [if_pos hi]; omega
theorem put_eq {w n : Int} (h : n ≤ 9223372036854775807) : bits_Put.f w n = some (if okPut w n then putAt n w.toNat w.toNat else []) := by
  unfold bits_Put.f; rw [if_neg (by omega)]
/-- What is put is got again. -/
theorem put_get {w n : Int} (h : okPut w n) : getL (putAt n w.toNat w.toNat) w.toNat = n := by
  rcases h with ⟨rfl, h0, h1⟩ | ⟨rfl, h0, h1⟩ | ⟨rfl, h0, h1⟩ | ⟨rfl, h0, h1⟩
  · show getL (putAt n 1 1) 1 = n
    rw [putAt1]; simp [getL, rd]; omega
  · show getL (putAt n 2 2) 2 = n
    rw [putAt2]; simp [getL, rd]; omega
  · show getL (putAt n 3 3) 3 = n
    rw [putAt3]; simp [getL, rd]; omega
  · show getL (putAt n 4 4) 4 = n
    rw [putAt4]; simp [getL, rd]; omega
theorem okPut_le {w n : Int} (h : okPut w n) : 1 ≤ w ∧ w ≤ 4 := by unfold okPut at h; omega
theorem get_eq {b : List Int} (hb : Byt b) (hn : b.length ≤ 140737488355328) (at_ w : Int) : bits_Get.f b at_ w = some (if okGet b at_ w then (getL (sub b at_ w) w.toNat, true) else (0, false)) := by
  unfold bits_Get.f
  rw [if_neg (by omega)]
  by_cases h : okGet b at_ w
  · rw [if_pos h, if_pos h, getV_eq (sub_byt hb _ _) _ (by have := h.2.1; omega)]
  · rw [if_neg h, if_neg h]
theorem same_loop (x y : List Int) (hl : x.length = y.length) (hn : x.length ≤ 140737488355328) (d : Nat) : ∀ (k i : Nat), i + d = x.length → d < k →
    moraineref00_SameBytes.l0 k x y (i : Int) = some (decide (x.drop i = y.drop i)) := by
  induction d with
  | zero =>
    intro k i hi hk
    obtain ⟨k, rfl⟩ : ∃ m, k = m + 1 := ⟨k - 1, by omega⟩
    simp only [moraineref00_SameBytes.l0]
    rw [if_neg (by omega), List.drop_of_length_le (by omega), List.drop_of_length_le (by omega)]; simp
  | succ d ih =>
    intro k i hi hk
    obtain ⟨k, rfl⟩ : ∃ m, k = m + 1 := ⟨k - 1, by omega⟩
    simp only [moraineref00_SameBytes.l0]
    rw [if_pos (by omega), if_pos (by omega), if_pos (by omega), rd_get (show i < x.length by omega), rd_get (show i < y.length by omega)]
    have ex : x.drop i = x[i] :: x.drop (i + 1) := List.drop_eq_getElem_cons (by omega)
    have ey : y.drop i = y[i] :: y.drop (i + 1) := List.drop_eq_getElem_cons (by omega)
    by_cases h : x[i] = y[i]
    · rw [if_pos h, w64 (by omega) (by omega)]
      have := ih k (i + 1) (by omega) (by omega)
      rw [show ((i : Int) + 1) = ((i + 1 : Nat) : Int) by omega, this]
      exact congrArg some (decide_eq_decide.2 ⟨fun e => by rw [ex, ey, h, e], fun e => by rw [ex, ey] at e; exact (List.cons.inj e).2⟩)
    · rw [if_neg h, decide_eq_false (fun e => by rw [ex, ey] at e; exact h (List.cons.inj e).1)]
theorem same_eq (x y : List Int) (hn : x.length ≤ 140737488355328) (k : Nat) (hk : x.length < k) : moraineref00_SameBytes.f k x y = some (decide (x = y)) := by
  unfold moraineref00_SameBytes.f
  by_cases hl : x.length = y.length
  · rw [if_pos (by omega)]
    have := same_loop x y hl hn x.length k 0 (by omega) hk
    simpa using this
  · rw [if_neg (by omega)]
    have : x ≠ y := fun e => hl (by rw [e])
    simp [this]
theorem getL1' (a : Int) : getL [a] 1 = a := by simp [getL, rd]
theorem getL2' (a b : Int) : getL [a, b] 2 = a + b * 256 := by simp [getL, rd]
theorem getL4' (a b c d : Int) : getL [a, b, c, d] 4 = a + b * 256 + c * 65536 + d * 16777216 := by simp [getL, rd]
theorem put_getL {s : List Int} (hb : Byt s) (w : Int) (hw : w = 1 ∨ w = 2 ∨ w = 4) (hl : (s.length : Int) = w) : okPut w (getL s w.toNat) ∧ putAt (getL s w.toNat) w.toNat w.toNat = s := by
  rcases hw with rfl | rfl | rfl
  · match s, hl with
    | [a], _ =>
      have ha := hb a (by simp)
      rw [show (1 : Int).toNat = 1 from rfl, getL1', putAt1]
      exact ⟨by unfold okPut; omega, by rw [show a % 256 = a by omega]⟩
  · match s, hl with
    | [a, b], _ =>
      have ha := hb a (by simp); have hb' := hb b (by simp)
      rw [show (2 : Int).toNat = 2 from rfl, getL2', putAt2]
      refine ⟨by unfold okPut; omega, ?_⟩
      rw [show (a + b * 256) % 256 = a by omega, show (a + b * 256) / 256 % 256 = b by omega]
  · match s, hl with
    | [a, b, c, d], _ =>
      have ha := hb a (by simp); have hb' := hb b (by simp); have hc := hb c (by simp); have hd := hb d (by simp)
      rw [show (4 : Int).toNat = 4 from rfl, getL4', putAt4]
      refine ⟨by unfold okPut; omega, ?_⟩
      rw [show (a + b * 256 + c * 65536 + d * 16777216) % 256 = a by omega, show (a + b * 256 + c * 65536 + d * 16777216) / 256 % 256 = b by omega, show (a + b * 256 + c * 65536 + d * 16777216) / 65536 % 256 = c by omega, show (a + b * 256 + c * 65536 + d * 16777216) / 16777216 % 256 = d by omega]
theorem wid_of (j : Nat) : wid j = 1 ∨ wid j = 2 ∨ wid j = 4 := by
  unfold wid; split
  · exact .inl rfl
  · split
    · exact .inr (.inr rfl)
    · exact .inr (.inl rfl)
theorem offs_mono {i j : Nat} (h : i ≤ j) : offs i ≤ offs j := by
  induction j with
  | zero => rw [Nat.le_zero.1 h]; exact Nat.le_refl _
  | succ j ih =>
    rcases Nat.lt_or_ge i (j + 1) with h1 | h1
    · have h2 := ih (by omega)
      have h3 := offs_succ j
      have h4 := wid_of j
      omega
    · rw [show i = j + 1 by omega]; exact Nat.le_refl _
theorem sub_len {L : List Int} (hl : L.length = 56) {j : Nat} (hj : j < 21) : ((sub L ((offs j : Nat) : Int) (wid j)).length : Int) = wid j := by
  have h1 := offs_mono (show j + 1 ≤ 21 by omega)
  have h2 : offs 21 = 43 := rfl
  have h3 := offs_succ j
  have h4 := wid_of j
  unfold sub
  rw [List.length_drop, List.length_take, hl, h3, Int.toNat_natCast, Int.toNat_natCast]
  omega
theorem okGet_at {L : List Int} (hl : L.length = 56) {j : Nat} (hj : j < 21) : okGet L ((offs j : Nat) : Int) (wid j) := by
  have h1 := offs_mono (show j + 1 ≤ 21 by omega)
  have h2 : offs 21 = 43 := rfl
  have h3 := offs_succ j
  have h4 := wid_of j
  unfold okGet
  omega
theorem fv_eq {L : List Int} (hb : Byt L) (hl : L.length = 56) {j : Nat} (hj : j < 21) : fv L j = getL (sub L ((offs j : Nat) : Int) (wid j)) (wid j).toNat := by
  unfold fv tv
  rw [if_pos (okGet_at hl hj), getV_eq (sub_byt hb _ _) _ (by have := wid_of j; omega)]
theorem pv_fv {L : List Int} (hb : Byt L) (hl : L.length = 56) {j : Nat} (hj : j < 21) : pv (wid j) (fv L j) = sub L ((offs j : Nat) : Int) (wid j) := by
  have h := put_getL (sub_byt hb ((offs j : Nat) : Int) (wid j)) (wid j) (wid_of j) (sub_len hl hj)
  rw [fv_eq hb hl hj]
  unfold pv
  rw [if_pos h.1, h.2]
theorem subs_take (L : List Int) (n : Nat) : ((List.range n).map fun j => sub L ((offs j : Nat) : Int) (wid j)).flatten = L.take (offs n) := by
  induction n with
  | zero => rfl
  | succ n ih =>
    have h3 := offs_succ n
    have h4 := wid_of n
    rw [List.range_succ, List.map_append, List.flatten_append, ih]
    simp only [List.map_cons, List.map_nil, List.flatten_cons, List.flatten_nil, List.append_nil]
    unfold sub
    rw [h3, Int.toNat_natCast, Int.toNat_natCast]
    have e : L.take (offs n) = (L.take (offs (n + 1))).take (offs n) := by rw [List.take_take, Nat.min_eq_left (by omega)]
    rw [e, List.take_append_drop]
theorem parts_eq (L : List Int) : recParts (gl L 21) = (List.range 21).map fun j => pv (wid j) (fv L j) := rfl
theorem back_bytes {L : List Int} (hb : Byt L) (hl : L.length = 56) (hz : ∀ x ∈ L.drop 43, x = 0) : recBytes (gl L 21) = L := by
  unfold recBytes
  rw [parts_eq, show ((List.range 21).map fun j => pv (wid j) (fv L j)) = (List.range 21).map fun j => sub L ((offs j : Nat) : Int) (wid j) from List.map_congr_left fun j hj => pv_fv hb hl (List.mem_range.1 hj), subs_take]
  unfold padL
  have e : L.drop 43 = List.replicate 13 0 := by
    have := List.eq_replicate_iff.2 ⟨rfl, hz⟩
    rw [List.length_drop, hl] at this; exact this
  rw [show offs 21 = 43 from rfl, show 56 - (L.take 43).length = 13 by rw [List.length_take, hl]; rfl, ← e, List.take_append_drop]
theorem xor0 {p t : Int} (hp : 0 ≤ p ∧ p ≤ 255) (ht : 0 ≤ t ∧ t ≤ 255) (h : Go.bits .xor .u8 p t = p) : t = 0 := by
  rw [u8_xor p t hp.1 (by omega) ht.1 (by omega)] at h
  have h2 : p.toNat ^^^ t.toNat = p.toNat := by omega
  have h3 : p.toNat ^^^ (p.toNat ^^^ t.toNat) = p.toNat ^^^ p.toNat := by rw [h2]
  rw [← Nat.xor_assoc, Nat.xor_self, Nat.zero_xor] at h3
  omega
theorem xor_byt {p t : Int} (hp : 0 ≤ p ∧ p ≤ 255) (ht : 0 ≤ t ∧ t ≤ 255) : 0 ≤ Go.bits .xor .u8 p t ∧ Go.bits .xor .u8 p t ≤ 255 := by
  rw [u8_xor p t hp.1 (by omega) ht.1 (by omega)]
  have := Nat.xor_lt_two_pow (n := 8) (x := p.toNat) (y := t.toNat) (by omega) (by omega)
  omega
theorem bytes_byt (l : List Int) : Byt (recBytes l) := by
  intro x hx
  unfold recBytes padL at hx
  rcases List.mem_append.1 hx with hx | hx
  · obtain ⟨p, hp, hx⟩ := List.mem_flatten.1 hx
    exact recParts_byt l p hp x hx
  · rw [List.eq_of_mem_replicate hx]; omega
theorem bytes_len {l : List Int} (hl : l.length = 21) (h : okRec l = true) : (recBytes l).length = 56 := by
  obtain ⟨k, ln, sz, x0, x1, x2, x3, x4, x5, x6, x7, x8, x9, x10, x11, x12, x13, x14, x15, s, d, rfl⟩ := list21 l hl
  unfold recBytes
  exact padL_length _ _ (by rw [recParts_len h]; decide)
theorem set_byt {l : List Int} (hb : Byt l) (i : Nat) {x : Int} (hx : 0 ≤ x ∧ x ≤ 255) : Byt (l.set i x) := fun y hy => by
  rcases List.mem_or_eq_of_mem_set hy with h | rfl
  · exact hb y h
  · exact hx
theorem get_len (L : List Int) : (inode_Get.f L).1.length = 21 := by
  unfold inode_Get.f
  split
  · exact gl_len L 21
  · simp
theorem turned_far {l : List Int} (hl : l.length = 21) (h : okRec l = true) (i : Nat) (hi : i < 56) (t : Int) (ht : 0 ≤ t ∧ t ≤ 255) (h0 : t ≠ 0) (R : List Int) (ok : Bool)
    (hg : inode_Get.f ((recBytes l).set i (Go.bits .xor .u8 ((recBytes l).getD i 0) t)) = (R, ok)) : decide (R = l) = true → ok = false := by
  intro hR
  have hR := of_decide_eq_true hR
  cases ok with
  | false => rfl
  | true =>
    exfalso
    have hb := bytes_byt l
    have hP := bytes_len hl h
    have hi' : i < (recBytes l).length := by rw [hP]; exact hi
    have hp : 0 ≤ (recBytes l).getD i 0 ∧ (recBytes l).getD i 0 ≤ 255 := by
      rw [List.getD_eq_getElem?_getD, List.getElem?_eq_getElem hi']; exact hb _ (List.getElem_mem hi')
    obtain ⟨x, hx⟩ : ∃ x, Go.bits .xor .u8 ((recBytes l).getD i 0) t = x := ⟨_, rfl⟩
    have hxb : 0 ≤ x ∧ x ≤ 255 := by rw [← hx]; exact xor_byt hp ht
    rw [hx] at hg
    unfold inode_Get.f at hg
    cases hk : getOk ((recBytes l).set i x) with
    | false => rw [hk] at hg; simp at hg
    | true =>
      rw [hk] at hg
      have e1 : gl ((recBytes l).set i x) 21 = R := congrArg Prod.fst hg
      unfold getOk at hk
      simp only [Bool.and_eq_true, decide_eq_true_eq] at hk
      have hz : ∀ y ∈ ((recBytes l).set i x).drop 43, y = 0 := by
        have := (tl_zero _ _).1 hk.2.2
        intro y hy
        obtain ⟨j, hj, rfl⟩ := List.mem_iff_getElem.1 hy
        have h2 := this j hj
        rwa [List.getD_eq_getElem?_getD, List.getElem?_eq_getElem hj] at h2
      have hB := back_bytes (set_byt hb i hxb) hk.1 hz
      rw [e1, hR] at hB
      have h3 : (recBytes l)[i]? = some x := by
        have := congrArg (fun z => z[i]?) hB
        simp only [List.getElem?_set_self hi'] at this
        exact this
      have h4 : (recBytes l).getD i 0 = x := by rw [List.getD_eq_getElem?_getD, h3]; rfl
      exact h0 (xor0 hp ht (by rw [hx, h4]))
theorem flat_len {f : Nat → List Int} (hf : ∀ j, j < 21 → ((f j).length : Int) = wid j) : ∀ n, n ≤ 21 → (((List.range n).map f).flatten).length = offs n
  | 0, _ => rfl
  | n + 1, h => by
    have ih := flat_len hf n (by omega)
    have h2 := hf n (by omega)
    have h3 := offs_succ n
    rw [List.range_succ, List.map_append, List.flatten_append, List.length_append, ih]
    simp only [List.map_cons, List.map_nil, List.flatten_cons, List.flatten_nil, List.append_nil]
    omega
theorem flat_pre {f : Nat → List Int} (hf : ∀ j, j < 21 → ((f j).length : Int) = wid j) (Z : List Int) (n : Nat) (h : n ≤ 21) : (((List.range 21).map f).flatten ++ Z).take (offs n) = ((List.range n).map f).flatten := by
  obtain ⟨m, hm⟩ : ∃ m, 21 = n + m := ⟨21 - n, by omega⟩
  have e : List.range 21 = List.range n ++ (List.range m).map (n + ·) := by rw [hm, List.range_add]
  rw [e, List.map_append, List.flatten_append, List.append_assoc, ← flat_len hf n h, List.take_left]
theorem sub_flat {f : Nat → List Int} (hf : ∀ j, j < 21 → ((f j).length : Int) = wid j) (Z : List Int) (j : Nat) (h : j < 21) : sub (((List.range 21).map f).flatten ++ Z) ((offs j : Nat) : Int) (wid j) = f j := by
  unfold sub
  rw [offs_succ, Int.toNat_natCast, Int.toNat_natCast, flat_pre hf Z (j + 1) (by omega), List.range_succ, List.map_append, List.flatten_append]
  simp only [List.map_cons, List.map_nil, List.flatten_cons, List.flatten_nil, List.append_nil]
  rw [← flat_len hf j (by omega), List.drop_left]
theorem okPut_all {l : List Int} (hl : l.length = 21) (h : okRec l = true) : ∀ j, j < 21 → okPut (wid j) (l.getD j 0) := by
  obtain ⟨k, ln, sz, x0, x1, x2, x3, x4, x5, x6, x7, x8, x9, x10, x11, x12, x13, x14, x15, s, d, rfl⟩ := list21 l hl
  obtain ⟨h0, h1, h2, h3, h4, h5⟩ := okRec_bd h
  intro j hj
  rcases (by omega : j = 0 ∨ j = 1 ∨ j = 2 ∨ (3 ≤ j ∧ j < 19) ∨ j = 19 ∨ j = 20) with rfl | rfl | rfl | ⟨a, b⟩ | rfl | rfl
  · show okPut 1 k; unfold okPut; omega
  · show okPut 2 ln; unfold okPut; omega
  · show okPut 4 sz; unfold okPut; omega
  · obtain ⟨i, rfl⟩ : ∃ i, j = 3 + i := ⟨j - 3, by omega⟩
    have hw : wid (3 + i) = 2 := by unfold wid; rw [if_neg (by omega), if_neg (by omega)]
    rw [dir_get k ln sz x0 x1 x2 x3 x4 x5 x6 x7 x8 x9 x10 x11 x12 x13 x14 x15 s d i (by omega), hw]
    have := h3 i (by omega)
    unfold okPut; omega
  · show okPut 2 s; unfold okPut; omega
  · show okPut 2 d; unfold okPut; omega
theorem parts_of {l : List Int} (hl : l.length = 21) : recParts l = (List.range 21).map fun j => pv (wid j) (l.getD j 0) := by
  obtain ⟨k, ln, sz, x0, x1, x2, x3, x4, x5, x6, x7, x8, x9, x10, x11, x12, x13, x14, x15, s, d, rfl⟩ := list21 l hl
  rfl
theorem gl_back {l : List Int} (hl : l.length = 21) (h : okRec l = true) : gl (recBytes l) 21 = l := by
  have hp := okPut_all hl h
  have hf : ∀ j, j < 21 → ((pv (wid j) (l.getD j 0)).length : Int) = wid j := by
    intro j hj
    have := wid_of j
    rw [pv_exact (hp j hj)]; omega
  have hB := bytes_byt l
  have hL := bytes_len hl h
  refine List.ext_getElem? fun j => ?_
  by_cases hj : j < 21
  · have e : sub (recBytes l) ((offs j : Nat) : Int) (wid j) = pv (wid j) (l.getD j 0) := by
      unfold recBytes padL
      rw [parts_of hl]
      exact sub_flat hf _ j hj
    rw [gl_get _ _ _ hj, if_pos hj, fv_eq hB hL hj, e]
    unfold pv
    rw [if_pos (hp j hj), put_get (hp j hj), List.getD_eq_getElem?_getD, List.getElem?_eq_getElem (by omega)]; rfl
  · rw [List.getElem?_eq_none (by rw [gl_len]; omega), List.getElem?_eq_none (by omega)]
theorem bytes_drop {l : List Int} (hl : l.length = 21) (h : okRec l = true) : ∀ x ∈ (recBytes l).drop 43, x = 0 := by
  obtain ⟨k, ln, sz, x0, x1, x2, x3, x4, x5, x6, x7, x8, x9, x10, x11, x12, x13, x14, x15, s, d, rfl⟩ := list21 l hl
  intro x hx
  unfold recBytes padL at hx
  have e := recParts_len h
  rw [← e, List.drop_left] at hx
  exact List.eq_of_mem_replicate hx
theorem get_put {l : List Int} (hl : l.length = 21) (h : okRec l = true) : inode_Get.f (recBytes l) = (l, true) := by
  have hL := bytes_len hl h
  have hz : tl ((recBytes l).drop 43) ((recBytes l).drop 43).length = 0 := (tl_zero _ _).2 fun j hj => by
    rw [List.getD_eq_getElem?_getD, List.getElem?_eq_getElem hj]
    exact bytes_drop hl h _ (List.getElem_mem hj)
  have hk : getOk (recBytes l) = true := by
    unfold getOk
    rw [gl_back hl h, h, decide_eq_true hL, decide_eq_true hz]; rfl
  unfold inode_Get.f
  rw [hk, gl_back hl h]; rfl
theorem put_of_get {b R : List Int} (hb : Byt b) (h : inode_Get.f b = (R, true)) : R.length = 21 ∧ inode_Put.f R = (b, true) := by
  have hlen := get_len b
  rw [h] at hlen
  refine ⟨hlen, ?_⟩
  unfold inode_Get.f at h
  cases hk : getOk b with
  | false => rw [hk] at h; simp at h
  | true =>
    rw [hk] at h
    have e1 : gl b 21 = R := congrArg Prod.fst h
    unfold getOk at hk
    simp only [Bool.and_eq_true, decide_eq_true_eq] at hk
    have hz : ∀ y ∈ b.drop 43, y = 0 := by
      have := (tl_zero _ _).1 hk.2.2
      intro y hy
      obtain ⟨j, hj, rfl⟩ := List.mem_iff_getElem.1 hy
      have h2 := this j hj
      rwa [List.getD_eq_getElem?_getD, List.getElem?_eq_getElem hj] at h2
    have hB := back_bytes hb hk.1 hz
    unfold inode_Put.f
    rw [← e1, hk.2.1, if_pos rfl, hB]
theorem sameI_loop (x y : List Int) (hl : x.length = y.length) (hn : x.length ≤ 140737488355328) (d : Nat) : ∀ (k i : Nat), i + d = x.length → d < k →
    moraineref00_SameInts.l0 k x y (i : Int) = some (decide (x.drop i = y.drop i)) := by
  induction d with
  | zero =>
    intro k i hi hk
    obtain ⟨k, rfl⟩ : ∃ m, k = m + 1 := ⟨k - 1, by omega⟩
    simp only [moraineref00_SameInts.l0]
    rw [if_neg (by omega), List.drop_of_length_le (by omega), List.drop_of_length_le (by omega)]; simp
  | succ d ih =>
    intro k i hi hk
    obtain ⟨k, rfl⟩ : ∃ m, k = m + 1 := ⟨k - 1, by omega⟩
    simp only [moraineref00_SameInts.l0]
    rw [if_pos (by omega), if_pos (by omega), if_pos (by omega), rd_get (show i < x.length by omega), rd_get (show i < y.length by omega)]
    have ex : x.drop i = x[i] :: x.drop (i + 1) := List.drop_eq_getElem_cons (by omega)
    have ey : y.drop i = y[i] :: y.drop (i + 1) := List.drop_eq_getElem_cons (by omega)
    by_cases h : x[i] = y[i]
    · rw [if_pos h, w64 (by omega) (by omega)]
      have := ih k (i + 1) (by omega) (by omega)
      rw [show ((i : Int) + 1) = ((i + 1 : Nat) : Int) by omega, this]
      exact congrArg some (decide_eq_decide.2 ⟨fun e => by rw [ex, ey, h, e], fun e => by rw [ex, ey] at e; exact (List.cons.inj e).2⟩)
    · rw [if_neg h, decide_eq_false (fun e => by rw [ex, ey] at e; exact h (List.cons.inj e).1)]
theorem sameI_eq (x y : List Int) (hn : x.length ≤ 140737488355328) (k : Nat) (hk : x.length < k) : moraineref00_SameInts.f k x y = some (decide (x = y)) := by
  unfold moraineref00_SameInts.f
  by_cases hl : x.length = y.length
  · rw [if_pos (by omega)]
    have := sameI_loop x y hl hn x.length k 0 (by omega) hk
    simpa using this
  · rw [if_neg (by omega)]
    have : x ≠ y := fun e => hl (by rw [e])
    simp [this]
/-- The bytes of pointers. -/
def cat (l : List Int) : List Int := (l.map fun p => putAt p 2 2).flatten
theorem cat_snoc (l : List Int) (p : Int) : cat (l ++ [p]) = cat l ++ putAt p 2 2 := by simp [cat]
theorem cat_len (l : List Int) : (cat l).length = 2 * l.length := by
  induction l with
  | nil => rfl
  | cons p l ih =>
    have e : cat (p :: l) = putAt p 2 2 ++ cat l := by simp [cat]
    rw [e, List.length_append, putAt_length, ih, List.length_cons]; omega
def okP (p : Int) : Prop := 0 ≤ p ∧ p < 65536
instance (p : Int) : Decidable (okP p) := by unfold okP; infer_instance
def padV (x : List Int) : List Int × Bool := if x.length ≤ 56 then (padL x 56, true) else ([], false)
theorem padV_eq (x : List Int) : bits_Pad.f x 56 = some (padV x) := by
  unfold bits_Pad.f padV
  by_cases h : x.length ≤ 56
  · rw [if_neg (by omega), if_pos h]; rfl
  · rw [if_pos (by omega), if_neg h]
theorem put2_ok {p : Int} (h : okP p) : bits_Put.f 2 p = some (putAt p 2 2) := by
  unfold okP at h
  rw [put_eq (by omega), if_pos (by unfold okPut; omega)]; rfl
theorem put2_no {p : Int} (h : ¬ okP p) (hb : p ≤ 9223372036854775807) : bits_Put.f 2 p = some [] := by
  unfold okP at h
  rw [put_eq hb, if_neg (by unfold okPut; omega)]
theorem getI (l : List Int) (i : Nat) (h : i < l.length) : rd l (i : Int) = l[i] := rd_get h
theorem take_snoc' (l : List Int) (i : Nat) (h : i < l.length) : l.take (i + 1) = l.take i ++ [l[i]] := by rw [List.take_succ_eq_append_getElem h]
theorem drop_all {P : Int → Prop} (l : List Int) (i : Nat) (h : i < l.length) : (∀ x ∈ l.drop i, P x) ↔ (P l[i] ∧ ∀ x ∈ l.drop (i + 1), P x) := by
  rw [List.drop_eq_getElem_cons h]; simp only [List.mem_cons, forall_eq_or_imp]
theorem ip_loop (l : List Int) (hl : l.length ≤ 1000) (hb : ∀ x ∈ l, x ≤ 9223372036854775807) (d : Nat) : ∀ (k i : Nat), i + d = l.length → d < k →
    inode_PutPointers.l0 k (cat (l.take i)) l (l.length : Int) (i : Int) = some (if ∀ x ∈ l.drop i, okP x then padV (cat l) else ([], false)) := by
  induction d with
  | zero =>
    intro k i hi hk
    obtain ⟨k, rfl⟩ : ∃ m, k = m + 1 := ⟨k - 1, by omega⟩
    simp only [inode_PutPointers.l0]
    rw [if_neg (by omega), List.take_of_length_le (by omega), List.drop_of_length_le (by omega), padV_eq]
    simp
  | succ d ih =>
    intro k i hi hk
    obtain ⟨k, rfl⟩ : ∃ m, k = m + 1 := ⟨k - 1, by omega⟩
    have hlt : i < l.length := by omega
    have hbi := hb _ (List.getElem_mem hlt)
    have hc := cat_len (l.take i)
    rw [List.length_take] at hc
    simp only [inode_PutPointers.l0]
    rw [if_pos (by omega), if_pos (by omega), if_pos (by omega), getI l i hlt]
    by_cases hp : okP l[i]
    · rw [put2_ok hp]
      simp only [Option.bind_some]
      rw [if_neg (by rw [putAt_length]; decide), if_pos (by rw [putAt_length]; omega), w64 (by omega) (by omega)]
      have h := ih k (i + 1) (by omega) (by omega)
      rw [take_snoc' l i hlt, cat_snoc] at h
      rw [show ((i : Int) + 1) = ((i + 1 : Nat) : Int) by omega, h]
      congr 1
      by_cases hr : ∀ x ∈ l.drop (i + 1), okP x
      · rw [if_pos hr, if_pos ((drop_all l i hlt).2 ⟨hp, hr⟩)]
      · rw [if_neg hr, if_neg (fun hh => hr ((drop_all l i hlt).1 hh).2)]
    · rw [put2_no hp hbi]
      simp only [Option.bind_some]
      rw [if_pos (by simp), if_neg (fun hh => hp ((drop_all l i hlt).1 hh).1)]
def ppV (l : List Int) : List Int × Bool := if ∀ x ∈ l, okP x then padV (cat l) else ([], false)
theorem pp_eq (l : List Int) (hl : l.length ≤ 1000) (hb : ∀ x ∈ l, x ≤ 9223372036854775807) (k : Nat) (hk : l.length < k) : inode_PutPointers.f k l = some (ppV l) := by
  unfold inode_PutPointers.f
  exact ip_loop l hl hb l.length k 0 (by omega) hk
theorem ppV_big {l : List Int} (h : 28 < l.length) : ppV l = ([], false) := by
  unfold ppV padV
  have := cat_len l
  split
  · rw [if_neg (by omega)]
  · rfl
theorem ppV_len (l : List Int) : (ppV l).1.length ≤ 56 := by
  unfold ppV padV
  split
  · split
    · rename_i h; rw [padL_length _ _ h]; exact Nat.le_refl _
    · simp
  · simp
theorem cat_app (a b : List Int) : cat (a ++ b) = cat a ++ cat b := by simp [cat]
theorem cat_rep (n : Nat) : cat (List.replicate n 0) = List.replicate (2 * n) 0 := by
  induction n with
  | zero => rfl
  | succ n ih =>
    rw [List.replicate_succ', cat_snoc, ih, show putAt 0 2 2 = List.replicate 2 0 from by rw [putAt2]; rfl, List.replicate_append_replicate]; rfl
theorem cat_byt (l : List Int) : Byt (cat l) := by
  intro x hx
  unfold cat at hx
  obtain ⟨p, hp, hx⟩ := List.mem_flatten.1 hx
  obtain ⟨y, _, rfl⟩ := List.mem_map.1 hp
  exact putAt_byt y 2 x hx
theorem cat_sub (M : List Int) (i : Nat) (h : i < M.length) : sub (cat M) ((2 * i : Nat) : Int) 2 = putAt M[i] 2 2 := by
  have e : M = M.take i ++ (M[i] :: M.drop (i + 1)) := by rw [← List.drop_eq_getElem_cons h, List.take_append_drop]
  have e2 : cat M = cat (M.take i) ++ putAt M[i] 2 2 ++ cat (M.drop (i + 1)) := by
    have h2 : ∀ (x : Int) (xs : List Int), cat (x :: xs) = putAt x 2 2 ++ cat xs := fun _ _ => by simp [cat]
    rw [List.append_assoc, ← h2 M[i], ← cat_app, ← e]
  have l1 : (cat (M.take i)).length = 2 * i := by rw [cat_len, List.length_take]; omega
  have l2 : (putAt M[i] 2 2).length = 2 := putAt_length _ _ _
  rw [e2]
  unfold sub
  rw [show (((2 * i : Nat) : Int) + 2).toNat = 2 * i + 2 by omega, Int.toNat_natCast, List.take_append_of_le_length (by rw [List.length_append]; omega), List.take_of_length_le (by rw [List.length_append]; omega), ← l1, List.drop_left]
theorem ptrs_cat (M : List Int) (hM : M.length = 28) (hp : ∀ x ∈ M, okP x) : ptrs (cat M) 28 = M := by
  refine List.ext_getElem? fun i => ?_
  by_cases hi : i < 28
  · have hg : okGet (cat M) ((2 * i : Nat) : Int) 2 := by unfold okGet; rw [cat_len, hM]; omega
    have hx := hp _ (List.getElem_mem (by omega : i < M.length))
    have hk : okPut 2 M[i] := by unfold okP at hx; unfold okPut; omega
    have h2 := put_get hk
    rw [show (2 : Int).toNat = 2 from rfl] at h2
    unfold ptrs tv
    rw [List.getElem?_map, List.getElem?_range hi, List.getElem?_eq_getElem (by omega)]
    simp only [Option.map_some]
    rw [if_pos hg, getV_eq (sub_byt (cat_byt M) _ _) _ (by decide), cat_sub M i (by omega), show (2 : Int).toNat = 2 from rfl, h2]
  · rw [List.getElem?_eq_none (by rw [ptrs_length]; omega), List.getElem?_eq_none (by omega)]
theorem ptr_facts (l : List Int) : ppV l = ([], false) ∨ (l.length ≤ 28 ∧ ∃ Q, ppV l = (Q, true) ∧ Q.length = 56 ∧ ptrs Q 28 = l ++ List.replicate (28 - l.length) 0) := by
  unfold ppV padV
  by_cases h : ∀ x ∈ l, okP x
  · rw [if_pos h]
    by_cases hl : (cat l).length ≤ 56
    · rw [if_pos hl]
      have hl2 := hl
      rw [cat_len] at hl2
      refine .inr ⟨by omega, _, rfl, padL_length _ _ hl, ?_⟩
      have e : padL (cat l) 56 = cat (l ++ List.replicate (28 - l.length) 0) := by
        rw [cat_app, cat_rep]; unfold padL
        rw [show 56 - (cat l).length = 2 * (28 - l.length) by rw [cat_len]; omega]
      rw [e]
      refine ptrs_cat _ (by rw [List.length_append, List.length_replicate]; omega) fun x hx => ?_
      rcases List.mem_append.1 hx with hx | hx
      · exact h x hx
      · rw [List.eq_of_mem_replicate hx]; unfold okP; omega
    · rw [if_neg hl]; exact .inl rfl
  · rw [if_neg h]; exact .inl rfl
end Go.Proofs.YthmfhhkedmloeaaDoor.Pure
