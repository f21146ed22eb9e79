/- Plain laws over whole numbers and lists: PureSuperBack. -/
import Derived.Test.YtkpipmhcjjncdaaDoorQSuperBackx
import Derived.KernelRfl
import Derived.Laws.BitsLemmas
import Derived.Laws.BitsAllLaws
namespace Go.Proofs.YtkpipmhcjjncdaaDoor.Pure
open Go.RowKit Go.Proofs.YtkpipmhcjjncdaaDoor.PSuperBack Go.Proofs.YtkpipmhcjjncdaaDoor.Given Go.Proofs.YtkpipmhcjjncdaaDoorW.PrintWords Go.Proofs.YtkpipmhcjjncdaaDoorW.PrintLast Go.Proofs.YtkpipmhcjjncdaaDoorW.PrintMore
set_option linter.unusedVariables false
set_option linter.unusedSimpArgs false
theorem w64 {n : Int} (h0 : -9223372036854775808 ≤ n) (h1 : n ≤ 9223372036854775807) : wrap64 n = n := by unfold wrap64; omega
theorem i64_bd {n : Int} (h : (Lit.int .i64 n).wf = true) : -9223372036854775808 ≤ n ∧ n ≤ 9223372036854775807 := by simpa [Lit.wf, IntKind.min, IntKind.max, IntKind.signed, IntKind.bits] using h
theorem u8_bd {n : Int} (h : (Lit.int .u8 n).wf = true) : 0 ≤ n ∧ n ≤ 255 := by simpa [Lit.wf, IntKind.min, IntKind.max, IntKind.signed, IntKind.bits] using h
theorem rd_get {xs : List Int} {i : Nat} (h : i < xs.length) : rd xs (i : Int) = xs[i] := by simp [rd, h]
def Byt (l : List Int) : Prop := ∀ x ∈ l, 0 ≤ x ∧ x ≤ 255
theorem rd_byt {l : List Int} (h : Byt l) (i : Int) : 0 ≤ rd l i ∧ rd l i ≤ 255 := by
  unfold rd
  by_cases hi : i.toNat < l.length
  · rw [List.getD_eq_getElem?_getD, List.getElem?_eq_getElem hi]; exact h _ (List.getElem_mem hi)
  · rw [List.getD_eq_getElem?_getD, List.getElem?_eq_none (by omega)]; simp
theorem or_sum (j i : Nat) (x y : Int) (hj : j ≤ 62) (hx0 : 0 ≤ x) (hx : x % 2 ^ i = 0) (hx1 : x < 2 ^ j) (hy0 : 0 ≤ y) (hy : y < 2 ^ i) (hy1 : y < 2 ^ j) : Go.bits .or .i64 y x = y + x := by
  have hc : Go.bits .or .i64 y x = Go.bits .or .i64 x y := by simp only [Go.bits, BitVec.or_comm]
  rw [hc, bits_join .i64 j (by show j ≤ 64; omega) (fun n h0 h1 => by
    have : (2 : Int) ^ j ≤ 2 ^ 62 := by exact_mod_cast Nat.pow_le_pow_right (by omega) hj
    have h3 : n < (2 : Int) ^ 62 := Int.lt_of_lt_of_le h1 this
    have e62 : (2 : Int) ^ 62 = 4611686018427387904 := by kernel_rfl
    have h2 : n < 4611686018427387904 := by rw [e62] at h3; exact h3
    clear this h3 e62
    show IntKind.i64.wrap n = n
    simp only [IntKind.wrap, IntKind.signed, IntKind.bits]
    simp
    omega) i x y hx0 hx hx1 hy0 hy hy1]
  omega
theorem shl_at {c : Int} (i m : Nat) (h0 : 0 ≤ c) (h1 : c ≤ 255) (hm : m = 2 ^ i) (hi : i ≤ 24) : shl .i64 c (i : Int) = c * m := by
  unfold shl
  have e : min (i : Int).toNat IntKind.i64.bits = i := by show min i 64 = i; omega
  rw [e]
  have hp : (2 : Int) ^ i = (m : Int) := by rw [hm]; simp
  rw [hp]
  have hle0 : m ≤ 16777216 := by rw [hm]; exact Nat.pow_le_pow_right (by omega) hi
  have hle : (m : Int) ≤ 16777216 := by omega
  have hb : 0 ≤ c * (m : Int) ∧ c * (m : Int) ≤ 255 * 16777216 := ⟨Int.mul_nonneg h0 (by omega), Int.mul_le_mul h1 hle (by omega) (by omega)⟩
  simp only [IntKind.wrap, IntKind.signed, IntKind.bits]
  simp
  omega
/-- The number that the first w bytes tell. -/
def getL (s : List Int) : Nat → Int
  | 0 => 0
  | i + 1 => getL s i + rd s (i : Int) * 2 ^ (8 * i)
theorem getL_bd {s : List Int} (hs : Byt s) (i : Nat) : 0 ≤ getL s i ∧ getL s i < 2 ^ (8 * i) := by
  induction i with
  | zero => simp [getL]
  | succ i ih =>
    have hb := rd_byt hs (i : Int)
    have hp : (0 : Int) < 2 ^ (8 * i) := Int.pow_pos (by omega)
    have e : (2 : Int) ^ (8 * (i + 1)) = 2 ^ (8 * i) * 256 := by rw [show 8 * (i + 1) = 8 * i + 8 by omega, Int.pow_add]; rfl
    have h1 : 0 ≤ rd s (i : Int) * 2 ^ (8 * i) := Int.mul_nonneg hb.1 (by omega)
    have h2 : rd s (i : Int) * 2 ^ (8 * i) ≤ 255 * 2 ^ (8 * i) := Int.mul_le_mul_of_nonneg_right hb.2 (by omega)
    simp only [getL]
    omega
theorem sub_byt {b : List Int} (h : Byt b) (at_ w : Int) : Byt (sub b at_ w) := fun x hx => h x (List.mem_of_mem_take (List.mem_of_mem_drop hx))
theorem getV_eq {s : List Int} (hs : Byt s) (i : Nat) (hi : i ≤ 4) : getV s i = getL s i := by
  induction i with
  | zero => rfl
  | succ i ih =>
    have hb := rd_byt hs (i : Int)
    have hl := getL_bd hs i
    have hm : (2 ^ (8 * i) : Nat) ≤ 16777216 := Nat.pow_le_pow_right (by omega) (show 8 * i ≤ 24 by omega)
    have hp : ((2 : Int) ^ (8 * i)) = ((2 ^ (8 * i) : Nat) : Int) := by simp
    simp only [getV, getL]
    rw [ih (by omega), w64 (n := rd s (i : Int)) (by omega) (by omega), shl_at (c := rd s (i : Int)) (8 * i) (2 ^ (8 * i)) hb.1 hb.2 rfl (by omega)]
    generalize hM : 2 ^ (8 * i) = M at *
    have hb2 : 0 ≤ rd s (i : Int) * (M : Int) ∧ rd s (i : Int) * (M : Int) ≤ 255 * 16777216 := ⟨Int.mul_nonneg hb.1 (by omega), Int.mul_le_mul hb.2 (by omega) (by omega) (by omega)⟩
    rw [hp] at hl ⊢
    exact or_sum 40 (8 * i) _ _ (by omega) hb2.1 (by rw [hp]; exact Int.mul_emod_left _ _) (by omega) hl.1 (by rw [hp]; exact hl.2) (by omega)
theorem putAt1 (n : Int) : putAt n 1 1 = [n % 256] := by
  show [shr .i64 n ((8 * 0 : Nat) : Int) % 256] = _
  rw [sh0]
theorem putAt2 (n : Int) : putAt n 2 2 = [n % 256, n / 256 % 256] := by
  show [shr .i64 n ((8 * 0 : Nat) : Int) % 256, shr .i64 n ((8 * 1 : Nat) : Int) % 256] = _
  rw [sh0, sh1]
theorem putAt3 (n : Int) : putAt n 3 3 = [n % 256, n / 256 % 256, n / 65536 % 256] := by
  show [shr .i64 n ((8 * 0 : Nat) : Int) % 256, shr .i64 n ((8 * 1 : Nat) : Int) % 256, shr .i64 n ((8 * 2 : Nat) : Int) % 256] = _
  rw [sh0, sh1, sh2]
theorem putAt4 (n : Int) : putAt n 4 4 = [n % 256, n / 256 % 256, n / 65536 % 256, n / 16777216 % 256] := by
  show [shr .i64 n ((8 * 0 : Nat) : Int) % 256, shr .i64 n ((8 * 1 : Nat) : Int) % 256, shr .i64 n ((8 * 2 : Nat) : Int) % 256, shr .i64 n ((8 * 3 : Nat) : Int) % 256] = _
  rw [sh0, sh1, sh2, sh3]
theorem putAt_byt (n : Int) (w : Nat) : Byt (putAt n w w) := by
  intro x hx
  simp only [putAt, List.mem_map, List.mem_range] at hx
  obtain ⟨i, hi, rfl⟩ := hx
  rw [if_pos hi]; omega
theorem put_eq {w n : Int} (h : n ≤ 9223372036854775807) : bits_Put.f w n = some (if okPut w n then putAt n w.toNat w.toNat else []) := by
  unfold bits_Put.f; rw [if_neg (by omega)]
/-- What is put is got again. -/
theorem put_get {w n : Int} (h : okPut w n) : getL (putAt n w.toNat w.toNat) w.toNat = n := by
  rcases h with ⟨rfl, h0, h1⟩ | ⟨rfl, h0, h1⟩ | ⟨rfl, h0, h1⟩ | ⟨rfl, h0, h1⟩
  · show getL (putAt n 1 1) 1 = n
    rw [putAt1]; simp [getL, rd]; omega
  · show getL (putAt n 2 2) 2 = n
    rw [putAt2]; simp [getL, rd]; omega
  · show getL (putAt n 3 3) 3 = n
    rw [putAt3]; simp [getL, rd]; omega
  · show getL (putAt n 4 4) 4 = n
    rw [putAt4]; simp [getL, rd]; omega
theorem okPut_le {w n : Int} (h : okPut w n) : 1 ≤ w ∧ w ≤ 4 := by unfold okPut at h; omega
theorem get_eq {b : List Int} (hb : Byt b) (hn : b.length ≤ 140737488355328) (at_ w : Int) : bits_Get.f b at_ w = some (if okGet b at_ w then (getL (sub b at_ w) w.toNat, true) else (0, false)) := by
  unfold bits_Get.f
  rw [if_neg (by omega)]
  by_cases h : okGet b at_ w
  · rw [if_pos h, if_pos h, getV_eq (sub_byt hb _ _) _ (by have := h.2.1; omega)]
  · rw [if_neg h, if_neg h]
theorem mul_bd {a b A B : Int} (h0 : 0 ≤ a) (h1 : a ≤ A) (h2 : 0 ≤ b) (h3 : b ≤ B) : 0 ≤ a * b ∧ a * b ≤ A * B :=
  ⟨Int.mul_nonneg h0 h2, Int.mul_le_mul h1 h3 h2 (by omega)⟩
def pl (d r : Int) : Int := r * (d - 1) - 1
def ot (s : Int) : Int := 1 + s / 8
structure GB (d r s : Int) : Prop where
  d0 : 3 ≤ d
  d1 : d ≤ 16
  r0 : 1 ≤ r
  r1 : r ≤ 4
  s0 : 12 ≤ s
  s1 : s ≤ 64
def GR (d r s : Int) : Prop := GB d r s ∧ ot s * pl d r ≥ 8
theorem pl_bd {d r s : Int} (h : GB d r s) : 1 ≤ pl d r ∧ pl d r ≤ 59 := by
  obtain ⟨h1, h2, h3, h4, h5, h6⟩ := h
  unfold pl
  rcases (by omega : r = 1 ∨ r = 2 ∨ r = 3 ∨ r = 4) with rfl | rfl | rfl | rfl <;> omega
theorem ot_bd {d r s : Int} (h : GB d r s) : 2 ≤ ot s ∧ ot s ≤ 9 := by
  obtain ⟨h1, h2, h3, h4, h5, h6⟩ := h
  unfold ot; omega
theorem tdiv8 {s : Int} (h : 0 ≤ s) : Int.tdiv s 8 = s / 8 := Int.tdiv_eq_ediv_of_nonneg h
theorem within_eq (a b c : Int) : geo_within.f a b c = some (decide (b ≤ a ∧ a ≤ c)) := by
  unfold geo_within.f
  by_cases h : b ≤ a <;> simp [h]
theorem others_eq {d r s : Int} (h : GB d r s) : geo_others.f d r s = some (ot s) := by
  have h5 := h.s0; have h6 := h.s1
  unfold geo_others.f ot
  rw [tdiv8 (by omega), w64 (n := s / 8) (by omega) (by omega), w64 (by omega) (by omega)]
theorem places_eq {d r s : Int} (h : GB d r s) : geo_places.f d r s = some (pl d r) := by
  have h3 := pl_bd h
  have h1 := h.d0; have h2 := h.d1
  unfold geo_places.f
  unfold pl at *
  rw [w64 (n := d - 1) (by omega) (by omega), w64 (n := r * (d - 1)) (by omega) (by omega), w64 (by omega) (by omega)]
open Classical in
theorem Right_eq (d r s : Int) : geo_Right.f d r s = some (decide (GR d r s)) := by
  unfold geo_Right.f
  rw [within_eq, within_eq, within_eq]
  simp only [Option.bind_some]
  by_cases h1 : 3 ≤ d ∧ d ≤ 16
  · by_cases h2 : 1 ≤ r ∧ r ≤ 4
    · by_cases h3 : 12 ≤ s ∧ s ≤ 64
      · have hb : GB d r s := ⟨h1.1, h1.2, h2.1, h2.2, h3.1, h3.2⟩
        rw [if_pos (decide_eq_true h1), if_pos (decide_eq_true h2), if_pos (decide_eq_true h3), others_eq hb, places_eq hb]
        simp only [Option.bind_some]
        have hp := pl_bd hb; have ho := ot_bd hb
        have hm := mul_bd (a := ot s) (b := pl d r) (A := 9) (B := 59) (by omega) (by omega) (by omega) (by omega)
        rw [w64 (by omega) (by omega)]
        simp [GR, hb]
      · have : ¬ GR d r s := fun g => h3 ⟨g.1.s0, g.1.s1⟩
        rw [if_pos (decide_eq_true h1), if_pos (decide_eq_true h2), if_neg (by simpa using h3)]; simp [this]
    · have : ¬ GR d r s := fun g => h2 ⟨g.1.r0, g.1.r1⟩
      rw [if_pos (decide_eq_true h1), if_neg (by simpa using h2)]; simp [this]
  · have : ¬ GR d r s := fun g => h1 ⟨g.1.d0, g.1.d1⟩
    rw [if_neg (by simpa using h1)]; simp [this]
theorem Right_pos {d r s : Int} (h : GR d r s) : geo_Right.f d r s = some true := by rw [Right_eq]; simp [h]
theorem Right_neg {d r s : Int} (h : ¬ GR d r s) : geo_Right.f d r s = some false := by rw [Right_eq]; simp [h]
instance (d r s : Int) : Decidable (GB d r s) := decidable_of_iff (3 ≤ d ∧ d ≤ 16 ∧ 1 ≤ r ∧ r ≤ 4 ∧ 12 ≤ s ∧ s ≤ 64) ⟨fun h => ⟨h.1, h.2.1, h.2.2.1, h.2.2.2.1, h.2.2.2.2.1, h.2.2.2.2.2⟩, fun h => ⟨h.d0, h.d1, h.r0, h.r1, h.s0, h.s1⟩⟩
instance (d r s : Int) : Decidable (GR d r s) := by unfold GR; infer_instance
set_option maxRecDepth 100000 in
theorem alive_eq : morainelaw05_alive.f 20 = some true := by kernel_rfl
theorem alive_at (k : Nat) (hk : 20 ≤ k) : morainelaw05_alive.f k = some true := by
  obtain ⟨m, rfl⟩ : ∃ m, k = 20 + m := ⟨k - 20, by omega⟩
  clear hk
  induction m with
  | zero => exact alive_eq
  | succ m ih => exact morainelaw05_alive.mono _ _ ih
/-! the puts -/
def catS (l : List S57) : List Int := (l.map fun x => putAt x.f1 x.f0.toNat x.f0.toNat).flatten
theorem catS_snoc (l : List S57) (x : S57) : catS (l ++ [x]) = catS l ++ putAt x.f1 x.f0.toNat x.f0.toNat := by simp [catS]
def okS (x : S57) : Prop := okPut x.f0 x.f1
instance (x : S57) : Decidable (okS x) := by unfold okS; infer_instance
theorem catS_len (l : List S57) (h : ∀ x ∈ l, okS x) : (catS l).length ≤ 4 * l.length := by
  induction l with
  | nil => simp [catS]
  | cons x l ih =>
    have e : catS (x :: l) = putAt x.f1 x.f0.toNat x.f0.toNat ++ catS l := by simp [catS]
    have hx := okPut_le (h x (by simp))
    have := ih (fun y hy => h y (by simp [hy]))
    rw [e, List.length_append, putAt_length, List.length_cons]; omega
def headL (a : Int) : List Int := [77, 79, 82, a]
def recV (a : Int) (l : List S57) : List Int × Bool := if ∀ x ∈ l, okS x then (padL (headL a ++ catS l) 64, true) else ([], false)
theorem rdS (l : List S57) (i : Nat) (h : i < l.length) : rd_T57 l (i : Int) = l[i] := by
  show l.getD i z57 = _
  rw [List.getD_eq_getElem?_getD, List.getElem?_eq_getElem h]; rfl
theorem okS_len {x : S57} (h : okS x) : ¬ ((putAt x.f1 x.f0.toNat x.f0.toNat).length : Int) = 0 := by
  have := okPut_le h
  rw [putAt_length]; omega
theorem all_drop {α : Type} {P : α → Prop} (l : List α) (i : Nat) (h : i < l.length) : (∀ x ∈ l.drop i, P x) ↔ (P l[i] ∧ ∀ x ∈ l.drop (i + 1), P x) := by
  rw [List.drop_eq_getElem_cons h]; simp only [List.mem_cons, forall_eq_or_imp]
theorem all_take {α : Type} {P : α → Prop} (l : List α) (i : Nat) (h : i < l.length) (h1 : ∀ x ∈ l.take i, P x) (h2 : P l[i]) : ∀ x ∈ l.take (i + 1), P x := by
  rw [List.take_succ_eq_append_getElem h]
  intro x hx
  rcases List.mem_append.1 hx with hx | hx
  · exact h1 x hx
  · simp at hx; subst hx; exact h2
theorem sp_loop (a : Int) (l : List S57) (hl : l.length ≤ 10) (hb : ∀ x ∈ l, x.f1 ≤ 9223372036854775807) (d : Nat) : ∀ (k i : Nat), i + d = l.length → d < k → (∀ x ∈ l.take i, okS x) →
    super_put.l0 k (headL a ++ catS (l.take i)) l (l.length : Int) (i : Int) = some (if ∀ x ∈ l.drop i, okS x then (padL (headL a ++ catS l) 64, true) else ([], false)) := by
  induction d with
  | zero =>
    intro k i hi hk ht
    obtain ⟨k, rfl⟩ : ∃ m, k = m + 1 := ⟨k - 1, by omega⟩
    simp only [super_put.l0]
    rw [List.take_of_length_le (by omega)] at ht ⊢
    have hc := catS_len l ht
    rw [if_neg (by omega), List.drop_of_length_le (by omega)]
    unfold bits_Pad.f
    rw [if_neg (by simp only [headL, List.length_append, List.length_cons, List.length_nil]; omega)]
    simp
  | succ d ih =>
    intro k i hi hk ht
    obtain ⟨k, rfl⟩ : ∃ m, k = m + 1 := ⟨k - 1, by omega⟩
    have hlt : i < l.length := by omega
    have hbi := hb _ (List.getElem_mem hlt)
    have hc := catS_len _ ht
    rw [List.length_take] at hc
    simp only [super_put.l0]
    rw [if_pos (by omega), if_pos (by omega), if_pos (by omega), rdS l i hlt, put_eq hbi]
    simp only [Option.bind_some]
    by_cases hp : okS l[i]
    · have hle := okPut_le hp
      rw [if_pos (show okPut l[i].f0 l[i].f1 from hp), if_neg (okS_len hp), if_pos (by rw [putAt_length]; simp only [headL, List.length_append, List.length_cons, List.length_nil]; omega), w64 (by omega) (by omega)]
      have h := ih k (i + 1) (by omega) (by omega) (all_take l i hlt ht hp)
      rw [List.take_succ_eq_append_getElem hlt, catS_snoc, ← List.append_assoc] at h
      rw [show ((i : Int) + 1) = ((i + 1 : Nat) : Int) by omega, h]
      congr 1
      by_cases hr : ∀ x ∈ l.drop (i + 1), okS x
      · rw [if_pos hr, if_pos ((all_drop l i hlt).2 ⟨hp, hr⟩)]
      · rw [if_neg hr, if_neg (fun hh => hr ((all_drop l i hlt).1 hh).2)]
    · rw [if_neg (show ¬ okPut l[i].f0 l[i].f1 from hp), if_pos (by simp), if_neg (fun hh => hp ((all_drop l i hlt).1 hh).1)]
theorem sput_eq (a : Int) (l : List S57) (hl : l.length ≤ 10) (hb : ∀ x ∈ l, x.f1 ≤ 9223372036854775807) (k : Nat) (hk : 20 ≤ k) : super_put.f k a l = some (recV a l) := by
  unfold super_put.f
  exact sp_loop a l hl hb l.length k 0 (by omega) (by omega) (by simp)
theorem putMark_eq (n : Int) (hn : n ≤ 9223372036854775807) (k : Nat) (hk : 20 ≤ k) : super_PutMark.f k n = some (recV 2 [⟨4, n⟩]) := by
  unfold super_PutMark.f
  rw [sput_eq 2 _ (by simp) (by simpa using hn) k hk]; rfl
def okMem (e s t : Int) : Prop := 0 ≤ s ∧ s < 16 ∧ 0 ≤ t ∧ t ≤ 2 ∧ (t = 0 → s = 0)
instance (e s t : Int) : Decidable (okMem e s t) := by unfold okMem; infer_instance
theorem member_eq (e s t : Int) : super_member.f e s t = some (decide (okMem e s t)) := by
  unfold super_member.f
  by_cases h1 : s ≥ 0
  · rw [if_pos h1]
    by_cases h2 : s < 16
    · rw [if_pos h2]
      by_cases h3 : t ≥ 0
      · rw [if_pos h3]
        by_cases h4 : t ≤ 2
        · rw [if_pos h4]
          by_cases h5 : t = 0
          · rw [if_pos h5]
            refine congrArg some ?_
            rw [Bool.eq_iff_iff, beq_iff_eq, decide_eq_true_eq]
            unfold okMem; omega
          · rw [if_neg h5, decide_eq_true (by unfold okMem; omega)]
        · have : ¬ okMem e s t := by unfold okMem; omega
          rw [if_neg h4, decide_eq_false this]
      · have : ¬ okMem e s t := by unfold okMem; omega
        rw [if_neg h3, decide_eq_false this]
    · have : ¬ okMem e s t := by unfold okMem; omega
      rw [if_neg h2, decide_eq_false this]
  · have : ¬ okMem e s t := by unfold okMem; omega
    rw [if_neg h1, decide_eq_false this]
theorem recV_len (a : Int) (l : List S57) : (recV a l).1.length ≤ 64 ∨ 10 < l.length := by
  unfold recV
  split
  · rename_i h
    have := catS_len l h
    by_cases hl : l.length ≤ 10
    · left
      rw [padL_length _ _ (by simp only [headL, List.length_append, List.length_cons, List.length_nil]; omega)]
      exact Nat.le_refl _
    · right; omega
  · left; simp
def memV (e s t : Int) : List Int × Bool := if okMem e s t then recV 3 [⟨4, e⟩, ⟨1, s⟩, ⟨1, t⟩] else ([], false)
theorem putMember_eq (e s t : Int) (he : e ≤ 9223372036854775807) (k : Nat) (hk : 20 ≤ k) : super_PutMember.f k e s t = some (memV e s t) := by
  unfold super_PutMember.f memV
  rw [member_eq]
  simp only [Option.bind_some]
  by_cases h : okMem e s t
  · have h' := h
    unfold okMem at h'
    rw [decide_eq_true h, if_pos rfl, if_pos h, sput_eq 3 _ (by simp) (by simp; omega) k hk]; rfl
  · rw [decide_eq_false h, if_neg (by simp), if_neg h]
def supV (d r s : Int) : List Int × Bool := if GR d r s then recV 1 [⟨1, d⟩, ⟨1, r⟩, ⟨1, s⟩] else ([], false)
theorem putSuper_eq (d r s : Int) (k : Nat) (hk : 20 ≤ k) : super_PutSuper.f k d r s = some (supV d r s) := by
  unfold super_PutSuper.f supV
  by_cases h : GR d r s
  · have h1 := h.1.d1; have h2 := h.1.r1; have h3 := h.1.s1
    rw [Right_pos h, if_pos h]
    simp only [Option.bind_some]
    rw [if_pos trivial, sput_eq 1 _ (by simp) (by simp; omega) k hk]; rfl
  · rw [Right_neg h, if_neg h]; simp
/-! the gets -/
def goF (l : List Int) : List Int → Int → List Int
  | [], _ => []
  | w :: ws, a => getL (sub l a w) w.toNat :: goF l ws (a + w)
def endF : List Int → Int → Int
  | [], a => a
  | w :: ws, a => endF ws (a + w)
theorem endF_le : ∀ (ws : List Int) (a : Int), (∀ w ∈ ws, 1 ≤ w ∧ w ≤ 4) → a ≤ endF ws a
  | [], a, _ => Int.le_refl a
  | w :: ws, a, h => by
    have := endF_le ws (a + w) (fun v hv => h v (by simp [hv]))
    have := h w (by simp)
    show a ≤ endF ws (a + w); omega
def zeros (l : List Int) : Prop := ∀ x ∈ l, x = 0
instance (l : List Int) : Decidable (zeros l) := by unfold zeros; infer_instance
theorem nought_eq (l : List Int) : bits_Nought.f l = some (decide (zeros l)) := by
  unfold bits_Nought.f
  refine congrArg some (decide_eq_decide.2 ?_)
  rw [tl_zero]
  constructor
  · intro h x hx
    obtain ⟨i, hi, rfl⟩ := List.mem_iff_getElem.1 hx
    have := h i hi
    rwa [List.getD_eq_getElem?_getD, List.getElem?_eq_getElem hi] at this
  · intro h j hj
    rw [List.getD_eq_getElem?_getD, List.getElem?_eq_getElem hj]
    exact h _ (List.getElem_mem hj)
def recOf (a : Int) (l : List Int) : Prop := l.length = 64 ∧ l.take 3 = [77, 79, 82] ∧ l.getD 3 0 = a
instance (a : Int) (l : List Int) : Decidable (recOf a l) := by unfold recOf; infer_instance
def getS (a : Int) (l ws : List Int) : List Int × Bool := if recOf a l then (goF l ws 4, decide (zeros (l.drop (endF ws 4).toNat))) else ([], false)
theorem byte_eq {x : Int} {n : Nat} (h : 0 ≤ x ∧ x ≤ 255) (hn : n ≤ 255) : UInt8.ofNat x.toNat = UInt8.ofNat n ↔ x = (n : Int) := by
  rw [← UInt8.toNat_inj]
  have e1 : (UInt8.ofNat x.toNat).toNat = x.toNat := by simp; omega
  have e2 : (UInt8.ofNat n).toNat = n := by simp; omega
  rw [e1, e2]; omega
theorem str_eq {l : List Int} (hb : Byt l) (hl : l.length = 64) : (strOfNums (l.take 3)).toList = ([77, 79, 82] : List UInt8) ↔ l.take 3 = [77, 79, 82] := by
  match l, hl, hb with
  | a :: b :: c :: r, _, hb =>
    have ha := hb a (by simp); have hb' := hb b (by simp); have hc := hb c (by simp)
    have e : (strOfNums ((a :: b :: c :: r).take 3)).toList = [UInt8.ofNat a.toNat, UInt8.ofNat b.toNat, UInt8.ofNat c.toNat] := by
      simp [strOfNums, ByteArray.toList_mk]
    rw [e]
    simp only [List.take_succ_cons, List.take_zero, List.cons.injEq, and_true]
    have q1 := byte_eq (n := 77) ha (by decide)
    have q2 := byte_eq (n := 79) hb' (by decide)
    have q3 := byte_eq (n := 82) hc (by decide)
    constructor
    · rintro ⟨h1, h2, h3⟩
      exact ⟨q1.1 h1, q2.1 h2, q3.1 h3⟩
    · rintro ⟨h1, h2, h3⟩
      exact ⟨q1.2 h1, q2.2 h2, q3.2 h3⟩
theorem sg_loop (l : List Int) (hb : Byt l) (hl : l.length = 64) (ws : List Int) (hws : ∀ w ∈ ws, 1 ≤ w ∧ w ≤ 4) (hlen : ws.length ≤ 10) : ∀ (rest : List Int) (k i : Nat) (acc : List Int) (a : Int), ws.drop i = rest → i ≤ ws.length → rest.length < k → acc.length = i → 0 ≤ a → endF rest a ≤ 64 →
    super_get.l0 k l acc a ws (ws.length : Int) (i : Int) = some (acc ++ goF l rest a, decide (zeros (l.drop (endF rest a).toNat))) := by
  intro rest
  induction rest with
  | nil =>
    intro k i acc a hr hi hk ha h0 he
    obtain ⟨k, rfl⟩ : ∃ m, k = m + 1 := ⟨k - 1, by omega⟩
    have hd := congrArg List.length hr
    rw [List.length_drop, List.length_nil] at hd
    have he : a ≤ 64 := he
    simp only [super_get.l0]
    rw [if_neg (by omega), if_pos h0, if_pos (by omega), nought_eq]
    simp only [Option.bind_some]
    show some (acc, decide (zeros (l.drop a.toNat))) = some (acc ++ [], decide (zeros (l.drop a.toNat)))
    rw [List.append_nil]
  | cons w rest ih =>
    intro k i acc a hr hi hk ha h0 he
    rw [List.length_cons] at hk
    obtain ⟨k, rfl⟩ : ∃ m, k = m + 1 := ⟨k - 1, by omega⟩
    have hd := congrArg List.length hr
    rw [List.length_drop, List.length_cons] at hd
    have hlt : i < ws.length := by omega
    have hc := hr
    rw [List.drop_eq_getElem_cons hlt] at hc
    obtain ⟨hw, hr2⟩ := List.cons.inj hc
    have hwb := hws w (by rw [← hw]; exact List.getElem_mem hlt)
    have hall : ∀ v ∈ rest, 1 ≤ v ∧ v ≤ 4 := fun v hv => hws v (by rw [← hr2] at hv; exact List.mem_of_mem_drop hv)
    have he : endF rest (a + w) ≤ 64 := he
    have hle := endF_le rest (a + w) hall
    simp only [super_get.l0]
    rw [if_pos (by omega), if_pos (by omega), if_pos (by omega), rd_get hlt, hw, get_eq hb (by omega), if_pos (show okGet l a w by unfold okGet; omega)]
    simp only [Option.bind_some]
    rw [if_pos (by omega), w64 (n := a + w) (by omega) (by omega), w64 (n := (i : Int) + 1) (by omega) (by omega)]
    have h := ih k (i + 1) (acc ++ [getL (sub l a w) w.toNat]) (a + w) hr2 (by omega) (by omega) (by simp; omega) (by omega) he
    rw [show ((i : Int) + 1) = ((i + 1 : Nat) : Int) by omega, h]
    show some (acc ++ [getL (sub l a w) w.toNat] ++ goF l rest (a + w), decide (zeros (l.drop (endF rest (a + w)).toNat))) = some (acc ++ (getL (sub l a w) w.toNat :: goF l rest (a + w)), decide (zeros (l.drop (endF rest (a + w)).toNat)))
    rw [List.append_assoc]; rfl
theorem sget_eq (a : Int) (l : List Int) (hb : Byt l) (ws : List Int) (hws : ∀ w ∈ ws, 1 ≤ w ∧ w ≤ 4) (hlen : ws.length ≤ 10) (he : endF ws 4 ≤ 64) (k : Nat) (hk : 20 ≤ k) : super_get.f k l a ws = some (getS a l ws) := by
  obtain ⟨k, rfl⟩ : ∃ m, k = m + 1 := ⟨k - 1, by omega⟩
  unfold super_get.f getS
  by_cases hl : l.length = 64
  · rw [if_pos (by omega), if_pos (by omega)]
    by_cases hs : l.take 3 = [77, 79, 82]
    · rw [if_pos ((str_eq hb hl).2 hs), if_pos (by omega)]
      have e3 : rd l 3 = l.getD 3 0 := rfl
      by_cases h3 : l.getD 3 0 = a
      · have hR : recOf a l := ⟨hl, hs, h3⟩
        rw [e3, if_pos hR, bne_eq_false_iff_eq.2 h3]
        simp only [super_get.j0]
        rw [if_neg (by simp)]
        have := sg_loop l hb hl ws hws hlen ws k 0 [] 4 rfl (Nat.zero_le _) (by omega) rfl (by omega) he
        simpa using this
      · have hR : ¬ recOf a l := fun h => h3 h.2.2
        rw [e3, if_neg hR, bne_iff_ne.2 h3]
        simp [super_get.j0]
    · have hR : ¬ recOf a l := fun h => hs h.2.1
      rw [if_neg (fun h => hs ((str_eq hb hl).1 h)), if_neg hR]
      simp [super_get.j0]
  · have hR : ¬ recOf a l := fun h => hl h.1
    rw [if_neg (by omega), if_neg hR]
    simp [super_get.j0]
def markV (l : List Int) : Int × Bool := if recOf 2 l ∧ zeros (l.drop 8) then (getL (sub l 4 4) 4, true) else (0, false)
theorem getMark_eq (l : List Int) (hb : Byt l) (k : Nat) (hk : 20 ≤ k) : super_GetMark.f k l = some (markV l) := by
  unfold super_GetMark.f markV
  rw [sget_eq 2 l hb [4] (by simp) (by simp) (by decide) k hk]
  simp only [Option.bind_some]
  unfold getS
  by_cases h : recOf 2 l
  · rw [if_pos h]
    by_cases hz : zeros (l.drop 8)
    · rw [if_pos (show decide (zeros (l.drop (endF [4] 4).toNat)) = true from decide_eq_true hz), if_pos (show (0 : Int) < ((goF l [4] 4).length : Int) by show (0 : Int) < ((1 : Nat) : Int); decide), if_pos ⟨h, hz⟩]; rfl
    · rw [if_neg (show ¬ decide (zeros (l.drop (endF [4] 4).toNat)) = true from fun e => hz (of_decide_eq_true e)), if_neg (fun e => hz e.2)]
  · rw [if_neg h]
    show (if false = true then _ else some (0, false)) = _
    rw [if_neg (by simp), if_neg (fun e => h e.1)]
def memG (l : List Int) : Int × Int × Int × Bool :=
  if (recOf 3 l ∧ zeros (l.drop 10)) ∧ okMem (getL (sub l 4 4) 4) (getL (sub l 8 1) 1) (getL (sub l 9 1) 1) then (getL (sub l 4 4) 4, getL (sub l 8 1) 1, getL (sub l 9 1) 1, true) else (0, 0, 0, false)
theorem getMember_eq (l : List Int) (hb : Byt l) (k : Nat) (hk : 20 ≤ k) : super_GetMember.f k l = some (memG l) := by
  unfold super_GetMember.f memG
  rw [sget_eq 3 l hb [4, 1, 1] (by simp) (by simp) (by decide) k hk]
  simp only [Option.bind_some]
  unfold getS
  by_cases h : recOf 3 l
  · rw [if_pos h]
    by_cases hz : zeros (l.drop 10)
    · rw [if_pos (show decide (zeros (l.drop (endF [4, 1, 1] 4).toNat)) = true from decide_eq_true hz), if_pos (show (0 : Int) < ((goF l [4, 1, 1] 4).length : Int) by show (0 : Int) < ((3 : Nat) : Int); decide), if_pos (show (1 : Int) < ((goF l [4, 1, 1] 4).length : Int) by show (1 : Int) < ((3 : Nat) : Int); decide), if_pos (show (2 : Int) < ((goF l [4, 1, 1] 4).length : Int) by show (2 : Int) < ((3 : Nat) : Int); decide)]
      show (super_member.f (getL (sub l 4 4) 4) (getL (sub l 8 1) 1) (getL (sub l 9 1) 1)).bind _ = _
      rw [member_eq]
      simp only [Option.bind_some]
      by_cases hm : okMem (getL (sub l 4 4) 4) (getL (sub l 8 1) 1) (getL (sub l 9 1) 1)
      · rw [decide_eq_true hm, if_pos rfl, if_pos ⟨⟨h, hz⟩, hm⟩]; rfl
      · rw [decide_eq_false hm, if_neg (by simp), if_neg (fun e => hm e.2)]
    · rw [if_neg (show ¬ decide (zeros (l.drop (endF [4, 1, 1] 4).toNat)) = true from fun e => hz (of_decide_eq_true e)), if_neg (fun e => hz e.1.2)]
  · rw [if_neg h]
    show (if false = true then _ else some (0, 0, 0, false)) = _
    rw [if_neg (by simp), if_neg (fun e => h e.1.1)]
def supG (l : List Int) : Int × Int × Int × Bool :=
  if (recOf 1 l ∧ zeros (l.drop 7)) ∧ GR (getL (sub l 4 1) 1) (getL (sub l 5 1) 1) (getL (sub l 6 1) 1) then (getL (sub l 4 1) 1, getL (sub l 5 1) 1, getL (sub l 6 1) 1, true) else (0, 0, 0, false)
theorem getSuper_eq (l : List Int) (hb : Byt l) (k : Nat) (hk : 20 ≤ k) : super_GetSuper.f k l = some (supG l) := by
  unfold super_GetSuper.f supG
  rw [sget_eq 1 l hb [1, 1, 1] (by simp) (by simp) (by decide) k hk]
  simp only [Option.bind_some]
  unfold getS
  by_cases h : recOf 1 l
  · rw [if_pos h]
    by_cases hz : zeros (l.drop 7)
    · rw [if_pos (show decide (zeros (l.drop (endF [1, 1, 1] 4).toNat)) = true from decide_eq_true hz), if_pos (show (0 : Int) < ((goF l [1, 1, 1] 4).length : Int) by show (0 : Int) < ((3 : Nat) : Int); decide), if_pos (show (1 : Int) < ((goF l [1, 1, 1] 4).length : Int) by show (1 : Int) < ((3 : Nat) : Int); decide), if_pos (show (2 : Int) < ((goF l [1, 1, 1] 4).length : Int) by show (2 : Int) < ((3 : Nat) : Int); decide)]
      show (geo_Right.f (getL (sub l 4 1) 1) (getL (sub l 5 1) 1) (getL (sub l 6 1) 1)).bind _ = _
      by_cases hm : GR (getL (sub l 4 1) 1) (getL (sub l 5 1) 1) (getL (sub l 6 1) 1)
      · rw [Right_pos hm]
        simp only [Option.bind_some]
        rw [if_pos trivial, if_pos ⟨⟨h, hz⟩, hm⟩]; rfl
      · rw [Right_neg hm]
        simp only [Option.bind_some]
        rw [if_neg (by simp), if_neg (fun e => hm e.2)]
    · rw [if_neg (show ¬ decide (zeros (l.drop (endF [1, 1, 1] 4).toNat)) = true from fun e => hz (of_decide_eq_true e)), if_neg (fun e => hz e.1.2)]
  · rw [if_neg h]
    show (if false = true then _ else some (0, 0, 0, false)) = _
    rw [if_neg (by simp), if_neg (fun e => h e.1.1)]
theorem getL4 (a b c d : Int) : getL [a, b, c, d] 4 = a + b * 256 + c * 65536 + d * 16777216 := by simp [getL, rd]
theorem getL1 (a : Int) : getL [a] 1 = a := by simp [getL, rd]
theorem recV_mark (n : Int) : recV 2 [⟨4, n⟩] = if okPut 4 n then (padL (headL 2 ++ putAt n 4 4) 64, true) else ([], false) := by
  unfold recV
  by_cases h : okPut 4 n
  · rw [if_pos h, if_pos (by simpa [okS] using h)]; simp [catS]
  · rw [if_neg h, if_neg (by simpa [okS] using h)]
theorem recV_mem (e s u : Int) : recV 3 [⟨4, e⟩, ⟨1, s⟩, ⟨1, u⟩] = if okPut 4 e ∧ okPut 1 s ∧ okPut 1 u then (padL (headL 3 ++ (putAt e 4 4 ++ (putAt s 1 1 ++ putAt u 1 1))) 64, true) else ([], false) := by
  unfold recV
  by_cases h : okPut 4 e ∧ okPut 1 s ∧ okPut 1 u
  · rw [if_pos h, if_pos (by simpa [okS] using h)]; simp [catS]
  · rw [if_neg h, if_neg (by simpa [okS] using h)]
def supL (d r s : Int) : List Int := 77 :: 79 :: 82 :: 1 :: d :: r :: s :: List.replicate 57 0
def markL (n : Int) : List Int := 77 :: 79 :: 82 :: 2 :: n % 256 :: n / 256 % 256 :: n / 65536 % 256 :: n / 16777216 % 256 :: List.replicate 56 0
def memL (e s u : Int) : List Int := 77 :: 79 :: 82 :: 3 :: e % 256 :: e / 256 % 256 :: e / 65536 % 256 :: e / 16777216 % 256 :: s :: u :: List.replicate 54 0
theorem zrep (n : Nat) : zeros (List.replicate n 0) := fun x hx => List.eq_of_mem_replicate hx
theorem byt_rep (n : Nat) : Byt (List.replicate n 0) := fun x hx => by rw [List.eq_of_mem_replicate hx]; omega
theorem byt_cons {x : Int} {l : List Int} (h : 0 ≤ x ∧ x ≤ 255) (hl : Byt l) : Byt (x :: l) := fun y hy => by
  rcases List.mem_cons.1 hy with rfl | hy
  · exact h
  · exact hl y hy
theorem supL_byt {d r s : Int} (h : GR d r s) : Byt (supL d r s) := by
  have h1 := h.1.d1; have h2 := h.1.r1; have h3 := h.1.s1
  have a1 := h.1.d0; have a2 := h.1.r0; have a3 := h.1.s0
  unfold supL
  iterate 7 (refine byt_cons (by omega) ?_)
  exact byt_rep 57
theorem markL_byt (n : Int) : Byt (markL n) := by
  unfold markL
  iterate 8 (refine byt_cons (by omega) ?_)
  exact byt_rep 56
theorem memL_byt {e s u : Int} (h : okMem e s u) : Byt (memL e s u) := by
  unfold okMem at h
  unfold memL
  iterate 10 (refine byt_cons (by omega) ?_)
  exact byt_rep 54
theorem supV_at {d r s : Int} (h : GR d r s) : supV d r s = (supL d r s, true) := by
  have h1 := h.1.d1; have h2 := h.1.r1; have h3 := h.1.s1
  have a1 := h.1.d0; have a2 := h.1.r0; have a3 := h.1.s0
  have hok : ∀ x ∈ ([⟨1, d⟩, ⟨1, r⟩, ⟨1, s⟩] : List S57), okS x := by
    simp only [List.mem_cons, List.not_mem_nil, or_false, forall_eq_or_imp, forall_eq]
    unfold okS okPut
    exact ⟨.inl ⟨rfl, by show 0 ≤ d; omega, by show d < 256; omega⟩, .inl ⟨rfl, by show 0 ≤ r; omega, by show r < 256; omega⟩, .inl ⟨rfl, by show 0 ≤ s; omega, by show s < 256; omega⟩⟩
  unfold supV recV
  rw [if_pos h, if_pos hok]
  have e : catS [⟨1, d⟩, ⟨1, r⟩, ⟨1, s⟩] = [d % 256, r % 256, s % 256] := by
    show putAt d 1 1 ++ (putAt r 1 1 ++ (putAt s 1 1 ++ [])) = _
    rw [putAt1, putAt1, putAt1]; rfl
  rw [e, show d % 256 = d by omega, show r % 256 = r by omega, show s % 256 = s by omega]; rfl
theorem supG_at {d r s : Int} (h : GR d r s) : supG (supL d r s) = (d, r, s, true) := by
  have e4 : getL (sub (supL d r s) 4 1) 1 = d := getL1 d
  have e5 : getL (sub (supL d r s) 5 1) 1 = r := getL1 r
  have e6 : getL (sub (supL d r s) 6 1) 1 = s := getL1 s
  unfold supG
  rw [e4, e5, e6, if_pos ⟨⟨⟨rfl, rfl, rfl⟩, zrep 57⟩, h⟩]
theorem not_rec {a b : Int} {l : List Int} (h : l.getD 3 0 = a) (hn : a ≠ b) : ¬ recOf b l := fun g => hn (h.symm.trans g.2.2)
theorem supG_no {l : List Int} (h : ¬ recOf 1 l) : supG l = (0, 0, 0, false) := if_neg (fun g => h g.1.1)
theorem markV_no {l : List Int} (h : ¬ recOf 2 l) : markV l = (0, false) := if_neg (fun g => h g.1)
theorem memG_no {l : List Int} (h : ¬ recOf 3 l) : memG l = (0, 0, 0, false) := if_neg (fun g => h g.1.1)
theorem markR_at {n : Int} (h : okPut 4 n) : recV 2 [⟨4, n⟩] = (markL n, true) := by
  rw [recV_mark, if_pos h, putAt4]; rfl
theorem markV_at {n : Int} (h : okPut 4 n) : markV (markL n) = (n, true) := by
  unfold okPut at h
  have e4 : getL (sub (markL n) 4 4) 4 = n := (getL4 _ _ _ _).trans (by omega)
  unfold markV
  rw [e4, if_pos ⟨⟨rfl, rfl, rfl⟩, zrep 56⟩]
theorem memR_at {e s u : Int} (h : okMem e s u) (he : okPut 4 e) : memV e s u = (memL e s u, true) := by
  have h' := h
  unfold okMem at h'
  unfold memV
  rw [if_pos h, recV_mem, if_pos ⟨he, .inl ⟨rfl, by omega, by omega⟩, .inl ⟨rfl, by omega, by omega⟩⟩, putAt4, putAt1, putAt1, show s % 256 = s by omega, show u % 256 = u by omega]; rfl
theorem memV_no {e s u : Int} (h : ¬ (okMem e s u ∧ okPut 4 e)) : memV e s u = ([], false) := by
  unfold memV
  by_cases hm : okMem e s u
  · rw [if_pos hm, recV_mem, if_neg (fun g => h ⟨hm, g.1⟩)]
  · rw [if_neg hm]
theorem memG_at {e s u : Int} (h : okMem e s u) (he : okPut 4 e) : memG (memL e s u) = (e, s, u, true) := by
  unfold okPut at he
  have e4 : getL (sub (memL e s u) 4 4) 4 = e := (getL4 _ _ _ _).trans (by omega)
  have e8 : getL (sub (memL e s u) 8 1) 1 = s := getL1 s
  have e9 : getL (sub (memL e s u) 9 1) 1 = u := getL1 u
  unfold memG
  rw [e4, e8, e9, if_pos ⟨⟨⟨rfl, rfl, rfl⟩, zrep 54⟩, h⟩]
/-- What the law asks of the first record. -/
def Sup (K : Nat) (d r s : Int) : Prop := super_PutSuper.f K d r s = some ([], false) ∨ ∃ A, super_PutSuper.f K d r s = some (A, true) ∧ A.length = 64 ∧ super_GetSuper.f K A = some (d, r, s, true) ∧ super_GetMark.f K A = some (0, false) ∧ super_GetMember.f K A = some (0, 0, 0, false)
def Mrk (K : Nat) (n : Int) : Prop := super_PutMark.f K n = some ([], false) ∨ ∃ A, super_PutMark.f K n = some (A, true) ∧ A.length = 64 ∧ super_GetMark.f K A = some (n, true) ∧ super_GetSuper.f K A = some (0, 0, 0, false) ∧ super_GetMember.f K A = some (0, 0, 0, false)
def Mem (K : Nat) (e s u : Int) : Prop := super_PutMember.f K e s u = some ([], false) ∨ ∃ A, super_PutMember.f K e s u = some (A, true) ∧ A.length = 64 ∧ super_GetMember.f K A = some (e, s, u, true) ∧ super_GetSuper.f K A = some (0, 0, 0, false) ∧ super_GetMark.f K A = some (0, false)
theorem back_facts (d r s n e t u : Int) (hn : n ≤ 9223372036854775807) (he : e ≤ 9223372036854775807) : ∃ K, morainelaw05_alive.f K = some true ∧ Sup K d r s ∧ Mrk K n ∧ Mem K e t u := by
  obtain ⟨K, hK⟩ : ∃ K, K = 3000 := ⟨_, rfl⟩
  refine ⟨K, alive_at K (by omega), ?_, ?_, ?_⟩
  · by_cases h : GR d r s
    · refine .inr ⟨supL d r s, ?_, rfl, ?_, ?_, ?_⟩
      · rw [putSuper_eq d r s K (by omega), supV_at h]
      · rw [getSuper_eq _ (supL_byt h) K (by omega), supG_at h]
      · rw [getMark_eq _ (supL_byt h) K (by omega), markV_no (not_rec (a := 1) rfl (by decide))]
      · rw [getMember_eq _ (supL_byt h) K (by omega), memG_no (not_rec (a := 1) rfl (by decide))]
    · exact .inl (by rw [putSuper_eq d r s K (by omega)]; unfold supV; rw [if_neg h])
  · by_cases h : okPut 4 n
    · refine .inr ⟨markL n, ?_, rfl, ?_, ?_, ?_⟩
      · rw [putMark_eq n hn K (by omega), markR_at h]
      · rw [getMark_eq _ (markL_byt n) K (by omega), markV_at h]
      · rw [getSuper_eq _ (markL_byt n) K (by omega), supG_no (not_rec (a := 2) rfl (by decide))]
      · rw [getMember_eq _ (markL_byt n) K (by omega), memG_no (not_rec (a := 2) rfl (by decide))]
    · exact .inl (by rw [putMark_eq n hn K (by omega), recV_mark, if_neg h])
  · by_cases h : okMem e t u ∧ okPut 4 e
    · refine .inr ⟨memL e t u, ?_, rfl, ?_, ?_, ?_⟩
      · rw [putMember_eq e t u he K (by omega), memR_at h.1 h.2]
      · rw [getMember_eq _ (memL_byt h.1) K (by omega), memG_at h.1 h.2]
      · rw [getSuper_eq _ (memL_byt h.1) K (by omega), supG_no (not_rec (a := 3) rfl (by decide))]
      · rw [getMark_eq _ (memL_byt h.1) K (by omega), markV_no (not_rec (a := 3) rfl (by decide))]
    · exact .inl (by rw [putMember_eq e t u he K (by omega), memV_no h])
end Go.Proofs.YtkpipmhcjjncdaaDoor.Pure
