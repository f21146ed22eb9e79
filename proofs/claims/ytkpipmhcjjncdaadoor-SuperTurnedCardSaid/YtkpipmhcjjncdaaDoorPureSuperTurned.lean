/- Plain laws over whole numbers and lists: PureSuperTurned. -/
import Derived.Test.YtkpipmhcjjncdaaDoorQSuperTurnedx
import Derived.KernelRfl
import Derived.Laws.BitsLemmas
import Derived.Laws.BitsAllLaws
namespace Go.Proofs.YtkpipmhcjjncdaaDoor.Pure
open Go.RowKit Go.Proofs.YtkpipmhcjjncdaaDoor.PSuperTurned Go.Proofs.YtkpipmhcjjncdaaDoor.Given Go.Proofs.YtkpipmhcjjncdaaDoorW.PrintWords Go.Proofs.YtkpipmhcjjncdaaDoorW.PrintLast Go.Proofs.YtkpipmhcjjncdaaDoorW.PrintMore
set_option linter.unusedVariables false
set_option linter.unusedSimpArgs false
theorem w64 {n : Int} (h0 : -9223372036854775808 ≤ n) (h1 : n ≤ 9223372036854775807) : wrap64 n = n := by unfold wrap64; omega
theorem i64_bd {n : Int} (h : (Lit.int .i64 n).wf = true) : -9223372036854775808 ≤ n ∧ n ≤ 9223372036854775807 := by simpa [Lit.wf, IntKind.min, IntKind.max, IntKind.signed, IntKind.bits] using h
theorem u8_bd {n : Int} (h : (Lit.int .u8 n).wf = true) : 0 ≤ n ∧ n ≤ 255 := by simpa [Lit.wf, IntKind.min, IntKind.max, IntKind.signed, IntKind.bits] using h
theorem rd_get {xs : List Int} {i : Nat} (h : i < xs.length) : rd xs (i : Int) = xs[i] := by simp [rd, h]
def Byt (l : List Int) : Prop := ∀ x ∈ l, 0 ≤ x ∧ x ≤ 255
theorem rd_byt {l : List Int} (h : Byt l) (i : Int) : 0 ≤ rd l i ∧ rd l i ≤ 255 := by
  unfold rd
  by_cases hi : i.toNat < l.length
  · rw [List.getD_eq_getElem?_getD, List.getElem?_eq_getElem hi]; exact h _ (List.getElem_mem hi)
  · rw [List.getD_eq_getElem?_getD, List.getElem?_eq_none (by omega)]; simp
theorem or_sum (j i : Nat) (x y : Int) (hj : j ≤ 62) (hx0 : 0 ≤ x) (hx : x % 2 ^ i = 0) (hx1 : x < 2 ^ j) (hy0 : 0 ≤ y) (hy : y < 2 ^ i) (hy1 : y < 2 ^ j) : Go.bits .or .i64 y x = y + x := by
  have hc : Go.bits .or .i64 y x = Go.bits .or .i64 x y := by simp only [Go.bits, BitVec.or_comm]
  rw [hc, bits_join .i64 j (by show j ≤ 64; omega) (fun n h0 h1 => by
    have : (2 : Int) ^ j ≤ 2 ^ 62 := by exact_mod_cast Nat.pow_le_pow_right (by omega) hj
    have h3 : n < (2 : Int) ^ 62 := Int.lt_of_lt_of_le h1 this
    have e62 : (2 : Int) ^ 62 = 4611686018427387904 := by kernel_rfl
    have h2 : n < 4611686018427387904 := by rw [e62] at h3; exact h3
    clear this h3 e62
    show IntKind.i64.wrap n = n
    simp only [IntKind.wrap, IntKind.signed, IntKind.bits]
    simp
    omega) i x y hx0 hx hx1 hy0 hy hy1]
  omega
theorem shl_at {c : Int} (i m : Nat) (h0 : 0 ≤ c) (h1 : c ≤ 255) (hm : m = 2 ^ i) (hi : i ≤ 24) : shl .i64 c (i : Int) = c * m := by
  unfold shl
  have e : min (i : Int).toNat IntKind.i64.bits = i := by show min i 64 = i; omega
  rw [e]
  have hp : (2 : Int) ^ i = (m : Int) := by rw [hm]; simp
  rw [hp]
  have hle0 : m ≤ 16777216 := by rw [hm]; exact Nat.pow_le_pow_right (by omega) hi
  have hle : (m : Int) ≤ 16777216 := by omega
  have hb : 0 ≤ c * (m : Int) ∧ c * (m : Int) ≤ 255 * 16777216 := ⟨Int.mul_nonneg h0 (by omega), Int.mul_le_mul h1 hle (by omega) (by omega)⟩
  simp only [IntKind.wrap, IntKind.signed, IntKind.bits]
  simp
  omega
/-- The number that the first w bytes tell. -/
def getL (s : List Int) : Nat → Int
  | 0 => 0
  | i + 1 => getL s i + rd s (i : Int) * 2 ^ (8 * i)
theorem getL_bd {s : List Int} (hs : Byt s) (i : Nat) : 0 ≤ getL s i ∧ getL s i < 2 ^ (8 * i) := by
  induction i with
  | zero => simp [getL]
  | succ i ih =>
    have hb := rd_byt hs (i : Int)
    have hp : (0 : Int) < 2 ^ (8 * i) := Int.pow_pos (by omega)
    have e : (2 : Int) ^ (8 * (i + 1)) = 2 ^ (8 * i) * 256 := by rw [show 8 * (i + 1) = 8 * i + 8 by omega, Int.pow_add]; rfl
    have h1 : 0 ≤ rd s (i : Int) * 2 ^ (8 * i) := Int.mul_nonneg hb.1 (by omega)
    have h2 : rd s (i : Int) * 2 ^ (8 * i) ≤ 255 * 2 ^ (8 * i) := Int.mul_le_mul_of_nonneg_right hb.2 (by omega)
    simp only [getL]
    omega
theorem sub_byt {b : List Int} (h : Byt b) (at_ w : Int) : Byt (sub b at_ w) := fun x hx => h x (List.mem_of_mem_take (List.mem_of_mem_drop hx))
theorem getV_eq {s : List Int} (hs : Byt s) (i : Nat) (hi : i ≤ 4) : getV s i = getL s i := by
  induction i with
  | zero => rfl
  | succ i ih =>
    have hb := rd_byt hs (i : Int)
    have hl := getL_bd hs i
    have hm : (2 ^ (8 * i) : Nat) ≤ 16777216 := Nat.pow_le_pow_right (by omega) (show 8 * i ≤ 24 by omega)
    have hp : ((2 : Int) ^ (8 * i)) = ((2 ^ (8 * i) : Nat) : Int) := by simp
    simp only [getV, getL]
    rw [ih (by omega), w64 (n := rd s (i : Int)) (by omega) (by omega), shl_at (c := rd s (i : Int)) (8 * i) (2 ^ (8 * i)) hb.1 hb.2 rfl (by omega)]
    generalize hM : 2 ^ (8 * i) = M at *
    have hb2 : 0 ≤ rd s (i : Int) * (M : Int) ∧ rd s (i : Int) * (M : Int) ≤ 255 * 16777216 := ⟨Int.mul_nonneg hb.1 (by omega), Int.mul_le_mul hb.2 (by omega) (by omega) (by omega)⟩
    rw [hp] at hl ⊢
    exact or_sum 40 (8 * i) _ _ (by omega) hb2.1 (by rw [hp]; exact Int.mul_emod_left _ _) (by omega) hl.1 (by rw [hp]; exact hl.2) (by omega)
theorem putAt1 (n : Int) : putAt n 1 1 = [n % 256] := by
  show [shr .i64 n ((8 * 0 : Nat) : Int) % 256] = _
  rw [sh0]
theorem putAt2 (n : Int) : putAt n 2 2 = [n % 256, n / 256 % 256] := by
  show [shr .i64 n ((8 * 0 : Nat) : Int) % 256, shr .i64 n ((8 * 1 : Nat) : Int) % 256] = _
  rw [sh0, sh1]
theorem putAt3 (n : Int) : putAt n 3 3 = [n % 256, n / 256 % 256, n / 65536 % 256] := by
  show [shr .i64 n ((8 * 0 : Nat) : Int) % 256, shr .i64 n ((8 * 1 : Nat) : Int) % 256, shr .i64 n ((8 * 2 : Nat) : Int) % 256] = _
  rw [sh0, sh1, sh2]
theorem putAt4 (n : Int) : putAt n 4 4 = [n % 256, n / 256 % 256, n / 65536 % 256, n / 16777216 % 256] := by
  show [shr .i64 n ((8 * 0 : Nat) : Int) % 256, shr .i64 n ((8 * 1 : Nat) : Int) % 256, shr .i64 n ((8 * 2 : Nat) : Int) % 256, shr .i64 n ((8 * 3 : Nat) : Int) % 256] = _
  rw [sh0, sh1, sh2, sh3]
theorem putAt_byt (n : Int) (w : Nat) : Byt (putAt n w w) := by
  intro x hx
  simp only [putAt, List.mem_map, List.mem_range] at hx
  obtain ⟨i, hi, rfl⟩ := hx
  rw [if_pos hi]; omega
theorem put_eq {w n : Int} (h : n ≤ 9223372036854775807) : bits_Put.f w n = some (if okPut w n then putAt n w.toNat w.toNat else []) := by
  unfold bits_Put.f; rw [if_neg (by omega)]
/-- What is put is got again. -/
theorem put_get {w n : Int} (h : okPut w n) : getL (putAt n w.toNat w.toNat) w.toNat = n := by
  rcases h with ⟨rfl, h0, h1⟩ | ⟨rfl, h0, h1⟩ | ⟨rfl, h0, h1⟩ | ⟨rfl, h0, h1⟩
  · show getL (putAt n 1 1) 1 = n
    rw [putAt1]; simp [getL, rd]; omega
  · show getL (putAt n 2 2) 2 = n
    rw [putAt2]; simp [getL, rd]; omega
  · show getL (putAt n 3 3) 3 = n
    rw [putAt3]; simp [getL, rd]; omega
  · show getL (putAt n 4 4) 4 = n
    rw [putAt4]; simp [getL, rd]; omega
theorem okPut_le {w n : Int} (h : okPut w n) : 1 ≤ w ∧ w ≤ 4 := by unfold okPut at h; omega
theorem get_eq {b : List Int} (hb : Byt b) (hn : b.length ≤ 140737488355328) (at_ w : Int) : bits_Get.f b at_ w = some (if okGet b at_ w then (getL (sub b at_ w) w.toNat, true) else (0, false)) := by
  unfold bits_Get.f
  rw [if_neg (by omega)]
  by_cases h : okGet b at_ w
  · rw [if_pos h, if_pos h, getV_eq (sub_byt hb _ _) _ (by have := h.2.1; omega)]
  · rw [if_neg h, if_neg h]
set_option maxRecDepth 100000 in
theorem alive_eq : morainelaw05_alive.f 20 = some true := by kernel_rfl
theorem alive_at (k : Nat) (hk : 20 ≤ k) : morainelaw05_alive.f k = some true := by
  obtain ⟨m, rfl⟩ : ∃ m, k = 20 + m := ⟨k - 20, by omega⟩
  clear hk
  induction m with
  | zero => exact alive_eq
  | succ m ih => exact morainelaw05_alive.mono _ _ ih
/-! the puts -/
def catS (l : List S57) : List Int := (l.map fun x => putAt x.f1 x.f0.toNat x.f0.toNat).flatten
theorem catS_snoc (l : List S57) (x : S57) : catS (l ++ [x]) = catS l ++ putAt x.f1 x.f0.toNat x.f0.toNat := by simp [catS]
def okS (x : S57) : Prop := okPut x.f0 x.f1
instance (x : S57) : Decidable (okS x) := by unfold okS; infer_instance
theorem catS_len (l : List S57) (h : ∀ x ∈ l, okS x) : (catS l).length ≤ 4 * l.length := by
  induction l with
  | nil => simp [catS]
  | cons x l ih =>
    have e : catS (x :: l) = putAt x.f1 x.f0.toNat x.f0.toNat ++ catS l := by simp [catS]
    have hx := okPut_le (h x (by simp))
    have := ih (fun y hy => h y (by simp [hy]))
    rw [e, List.length_append, putAt_length, List.length_cons]; omega
def headL (a : Int) : List Int := [77, 79, 82, a]
def recV (a : Int) (l : List S57) : List Int × Bool := if ∀ x ∈ l, okS x then (padL (headL a ++ catS l) 64, true) else ([], false)
theorem rdS (l : List S57) (i : Nat) (h : i < l.length) : rd_T57 l (i : Int) = l[i] := by
  show l.getD i z57 = _
  rw [List.getD_eq_getElem?_getD, List.getElem?_eq_getElem h]; rfl
theorem okS_len {x : S57} (h : okS x) : ¬ ((putAt x.f1 x.f0.toNat x.f0.toNat).length : Int) = 0 := by
  have := okPut_le h
  rw [putAt_length]; omega
theorem all_drop {α : Type} {P : α → Prop} (l : List α) (i : Nat) (h : i < l.length) : (∀ x ∈ l.drop i, P x) ↔ (P l[i] ∧ ∀ x ∈ l.drop (i + 1), P x) := by
  rw [List.drop_eq_getElem_cons h]; simp only [List.mem_cons, forall_eq_or_imp]
theorem all_take {α : Type} {P : α → Prop} (l : List α) (i : Nat) (h : i < l.length) (h1 : ∀ x ∈ l.take i, P x) (h2 : P l[i]) : ∀ x ∈ l.take (i + 1), P x := by
  rw [List.take_succ_eq_append_getElem h]
  intro x hx
  rcases List.mem_append.1 hx with hx | hx
  · exact h1 x hx
  · simp at hx; subst hx; exact h2
theorem sp_loop (a : Int) (l : List S57) (hl : l.length ≤ 10) (hb : ∀ x ∈ l, x.f1 ≤ 9223372036854775807) (d : Nat) : ∀ (k i : Nat), i + d = l.length → d < k → (∀ x ∈ l.take i, okS x) →
    super_put.l0 k (headL a ++ catS (l.take i)) l (l.length : Int) (i : Int) = some (if ∀ x ∈ l.drop i, okS x then (padL (headL a ++ catS l) 64, true) else ([], false)) := by
  induction d with
  | zero =>
    intro k i hi hk ht
    obtain ⟨k, rfl⟩ : ∃ m, k = m + 1 := ⟨k - 1, by omega⟩
    simp only [super_put.l0]
    rw [List.take_of_length_le (by omega)] at ht ⊢
    have hc := catS_len l ht
    rw [if_neg (by omega), List.drop_of_length_le (by omega)]
    unfold bits_Pad.f
    rw [if_neg (by simp only [headL, List.length_append, List.length_cons, List.length_nil]; omega)]
    simp
  | succ d ih =>
    intro k i hi hk ht
    obtain ⟨k, rfl⟩ : ∃ m, k = m + 1 := ⟨k - 1, by omega⟩
    have hlt : i < l.length := by omega
    have hbi := hb _ (List.getElem_mem hlt)
    have hc := catS_len _ ht
    rw [List.length_take] at hc
    simp only [super_put.l0]
    rw [if_pos (by omega), if_pos (by omega), if_pos (by omega), rdS l i hlt, put_eq hbi]
    simp only [Option.bind_some]
    by_cases hp : okS l[i]
    · have hle := okPut_le hp
      rw [if_pos (show okPut l[i].f0 l[i].f1 from hp), if_neg (okS_len hp), if_pos (by rw [putAt_length]; simp only [headL, List.length_append, List.length_cons, List.length_nil]; omega), w64 (by omega) (by omega)]
      have h := ih k (i + 1) (by omega) (by omega) (all_take l i hlt ht hp)
      rw [List.take_succ_eq_append_getElem hlt, catS_snoc, ← List.append_assoc] at h
      rw [show ((i : Int) + 1) = ((i + 1 : Nat) : Int) by omega, h]
      congr 1
      by_cases hr : ∀ x ∈ l.drop (i + 1), okS x
      · rw [if_pos hr, if_pos ((all_drop l i hlt).2 ⟨hp, hr⟩)]
      · rw [if_neg hr, if_neg (fun hh => hr ((all_drop l i hlt).1 hh).2)]
    · rw [if_neg (show ¬ okPut l[i].f0 l[i].f1 from hp), if_pos (by simp), if_neg (fun hh => hp ((all_drop l i hlt).1 hh).1)]
theorem sput_eq (a : Int) (l : List S57) (hl : l.length ≤ 10) (hb : ∀ x ∈ l, x.f1 ≤ 9223372036854775807) (k : Nat) (hk : 20 ≤ k) : super_put.f k a l = some (recV a l) := by
  unfold super_put.f
  exact sp_loop a l hl hb l.length k 0 (by omega) (by omega) (by simp)
theorem putMark_eq (n : Int) (hn : n ≤ 9223372036854775807) (k : Nat) (hk : 20 ≤ k) : super_PutMark.f k n = some (recV 2 [⟨4, n⟩]) := by
  unfold super_PutMark.f
  rw [sput_eq 2 _ (by simp) (by simpa using hn) k hk]; rfl
def okMem (e s t : Int) : Prop := 0 ≤ s ∧ s < 16 ∧ 0 ≤ t ∧ t ≤ 2 ∧ (t = 0 → s = 0)
instance (e s t : Int) : Decidable (okMem e s t) := by unfold okMem; infer_instance
theorem member_eq (e s t : Int) : super_member.f e s t = some (decide (okMem e s t)) := by
  unfold super_member.f
  by_cases h1 : s ≥ 0
  · rw [if_pos h1]
    by_cases h2 : s < 16
    · rw [if_pos h2]
      by_cases h3 : t ≥ 0
      · rw [if_pos h3]
        by_cases h4 : t ≤ 2
        · rw [if_pos h4]
          by_cases h5 : t = 0
          · rw [if_pos h5]
            refine congrArg some ?_
            rw [Bool.eq_iff_iff, beq_iff_eq, decide_eq_true_eq]
            unfold okMem; omega
          · rw [if_neg h5, decide_eq_true (by unfold okMem; omega)]
        · have : ¬ okMem e s t := by unfold okMem; omega
          rw [if_neg h4, decide_eq_false this]
      · have : ¬ okMem e s t := by unfold okMem; omega
        rw [if_neg h3, decide_eq_false this]
    · have : ¬ okMem e s t := by unfold okMem; omega
      rw [if_neg h2, decide_eq_false this]
  · have : ¬ okMem e s t := by unfold okMem; omega
    rw [if_neg h1, decide_eq_false this]
def memV (e s t : Int) : List Int × Bool := if okMem e s t then recV 3 [⟨4, e⟩, ⟨1, s⟩, ⟨1, t⟩] else ([], false)
theorem putMember_eq (e s t : Int) (he : e ≤ 9223372036854775807) (k : Nat) (hk : 20 ≤ k) : super_PutMember.f k e s t = some (memV e s t) := by
  unfold super_PutMember.f memV
  rw [member_eq]
  simp only [Option.bind_some]
  by_cases h : okMem e s t
  · have h' := h
    unfold okMem at h'
    rw [decide_eq_true h, if_pos rfl, if_pos h, sput_eq 3 _ (by simp) (by simp; omega) k hk]; rfl
  · rw [decide_eq_false h, if_neg (by simp), if_neg h]
theorem recV_len (a : Int) (l : List S57) : (recV a l).1.length ≤ 64 ∨ 10 < l.length := by
  unfold recV
  split
  · rename_i h
    have := catS_len l h
    by_cases hl : l.length ≤ 10
    · left
      rw [padL_length _ _ (by simp only [headL, List.length_append, List.length_cons, List.length_nil]; omega)]
      exact Nat.le_refl _
    · right; omega
  · left; simp
/-! the gets -/
def goF (l : List Int) : List Int → Int → List Int
  | [], _ => []
  | w :: ws, a => getL (sub l a w) w.toNat :: goF l ws (a + w)
def endF : List Int → Int → Int
  | [], a => a
  | w :: ws, a => endF ws (a + w)
theorem endF_le : ∀ (ws : List Int) (a : Int), (∀ w ∈ ws, 1 ≤ w ∧ w ≤ 4) → a ≤ endF ws a
  | [], a, _ => Int.le_refl a
  | w :: ws, a, h => by
    have := endF_le ws (a + w) (fun v hv => h v (by simp [hv]))
    have := h w (by simp)
    show a ≤ endF ws (a + w); omega
def zeros (l : List Int) : Prop := ∀ x ∈ l, x = 0
instance (l : List Int) : Decidable (zeros l) := by unfold zeros; infer_instance
theorem nought_eq (l : List Int) : bits_Nought.f l = some (decide (zeros l)) := by
  unfold bits_Nought.f
  refine congrArg some (decide_eq_decide.2 ?_)
  rw [tl_zero]
  constructor
  · intro h x hx
    obtain ⟨i, hi, rfl⟩ := List.mem_iff_getElem.1 hx
    have := h i hi
    rwa [List.getD_eq_getElem?_getD, List.getElem?_eq_getElem hi] at this
  · intro h j hj
    rw [List.getD_eq_getElem?_getD, List.getElem?_eq_getElem hj]
    exact h _ (List.getElem_mem hj)
def recOf (a : Int) (l : List Int) : Prop := l.length = 64 ∧ l.take 3 = [77, 79, 82] ∧ l.getD 3 0 = a
instance (a : Int) (l : List Int) : Decidable (recOf a l) := by unfold recOf; infer_instance
def getS (a : Int) (l ws : List Int) : List Int × Bool := if recOf a l then (goF l ws 4, decide (zeros (l.drop (endF ws 4).toNat))) else ([], false)
theorem byte_eq {x : Int} {n : Nat} (h : 0 ≤ x ∧ x ≤ 255) (hn : n ≤ 255) : UInt8.ofNat x.toNat = UInt8.ofNat n ↔ x = (n : Int) := by
  rw [← UInt8.toNat_inj]
  have e1 : (UInt8.ofNat x.toNat).toNat = x.toNat := by simp; omega
  have e2 : (UInt8.ofNat n).toNat = n := by simp; omega
  rw [e1, e2]; omega
theorem str_eq {l : List Int} (hb : Byt l) (hl : l.length = 64) : (strOfNums (l.take 3)).toList = ([77, 79, 82] : List UInt8) ↔ l.take 3 = [77, 79, 82] := by
  match l, hl, hb with
  | a :: b :: c :: r, _, hb =>
    have ha := hb a (by simp); have hb' := hb b (by simp); have hc := hb c (by simp)
    have e : (strOfNums ((a :: b :: c :: r).take 3)).toList = [UInt8.ofNat a.toNat, UInt8.ofNat b.toNat, UInt8.ofNat c.toNat] := by
      simp [strOfNums, ByteArray.toList_mk]
    rw [e]
    simp only [List.take_succ_cons, List.take_zero, List.cons.injEq, and_true]
    have q1 := byte_eq (n := 77) ha (by decide)
    have q2 := byte_eq (n := 79) hb' (by decide)
    have q3 := byte_eq (n := 82) hc (by decide)
    constructor
    · rintro ⟨h1, h2, h3⟩
      exact ⟨q1.1 h1, q2.1 h2, q3.1 h3⟩
    · rintro ⟨h1, h2, h3⟩
      exact ⟨q1.2 h1, q2.2 h2, q3.2 h3⟩
theorem sg_loop (l : List Int) (hb : Byt l) (hl : l.length = 64) (ws : List Int) (hws : ∀ w ∈ ws, 1 ≤ w ∧ w ≤ 4) (hlen : ws.length ≤ 10) : ∀ (rest : List Int) (k i : Nat) (acc : List Int) (a : Int), ws.drop i = rest → i ≤ ws.length → rest.length < k → acc.length = i → 0 ≤ a → endF rest a ≤ 64 →
    super_get.l0 k l acc a ws (ws.length : Int) (i : Int) = some (acc ++ goF l rest a, decide (zeros (l.drop (endF rest a).toNat))) := by
  intro rest
  induction rest with
  | nil =>
    intro k i acc a hr hi hk ha h0 he
    obtain ⟨k, rfl⟩ : ∃ m, k = m + 1 := ⟨k - 1, by omega⟩
    have hd := congrArg List.length hr
    rw [List.length_drop, List.length_nil] at hd
    have he : a ≤ 64 := he
    simp only [super_get.l0]
    rw [if_neg (by omega), if_pos h0, if_pos (by omega), nought_eq]
    simp only [Option.bind_some]
    show some (acc, decide (zeros (l.drop a.toNat))) = some (acc ++ [], decide (zeros (l.drop a.toNat)))
    rw [List.append_nil]
  | cons w rest ih =>
    intro k i acc a hr hi hk ha h0 he
    rw [List.length_cons] at hk
    obtain ⟨k, rfl⟩ : ∃ m, k = m + 1 := ⟨k - 1, by omega⟩
    have hd := congrArg List.length hr
    rw [List.length_drop, List.length_cons] at hd
    have hlt : i < ws.length := by omega
    have hc := hr
    rw [List.drop_eq_getElem_cons hlt] at hc
    obtain ⟨hw, hr2⟩ := List.cons.inj hc
    have hwb := hws w (by rw [← hw]; exact List.getElem_mem hlt)
    have hall : ∀ v ∈ rest, 1 ≤ v ∧ v ≤ 4 := fun v hv => hws v (by rw [← hr2] at hv; exact List.mem_of_mem_drop hv)
    have he : endF rest (a + w) ≤ 64 := he
    have hle := endF_le rest (a + w) hall
    simp only [super_get.l0]
    rw [if_pos (by omega), if_pos (by omega), if_pos (by omega), rd_get hlt, hw, get_eq hb (by omega), if_pos (show okGet l a w by unfold okGet; omega)]
    simp only [Option.bind_some]
    rw [if_pos (by omega), w64 (n := a + w) (by omega) (by omega), w64 (n := (i : Int) + 1) (by omega) (by omega)]
    have h := ih k (i + 1) (acc ++ [getL (sub l a w) w.toNat]) (a + w) hr2 (by omega) (by omega) (by simp; omega) (by omega) he
    rw [show ((i : Int) + 1) = ((i + 1 : Nat) : Int) by omega, h]
    show some (acc ++ [getL (sub l a w) w.toNat] ++ goF l rest (a + w), decide (zeros (l.drop (endF rest (a + w)).toNat))) = some (acc ++ (getL (sub l a w) w.toNat :: goF l rest (a + w)), decide (zeros (l.drop (endF rest (a + w)).toNat)))
    rw [List.append_assoc]; rfl
theorem sget_eq (a : Int) (l : List Int) (hb : Byt l) (ws : List Int) (hws : ∀ w ∈ ws, 1 ≤ w ∧ w ≤ 4) (hlen : ws.length ≤ 10) (he : endF ws 4 ≤ 64) (k : Nat) (hk : 20 ≤ k) : super_get.f k l a ws = some (getS a l ws) := by
  obtain ⟨k, rfl⟩ : ∃ m, k = m + 1 := ⟨k - 1, by omega⟩
  unfold super_get.f getS
  by_cases hl : l.length = 64
  · rw [if_pos (by omega), if_pos (by omega)]
    by_cases hs : l.take 3 = [77, 79, 82]
    · rw [if_pos ((str_eq hb hl).2 hs), if_pos (by omega)]
      have e3 : rd l 3 = l.getD 3 0 := rfl
      by_cases h3 : l.getD 3 0 = a
      · have hR : recOf a l := ⟨hl, hs, h3⟩
        rw [e3, if_pos hR, bne_eq_false_iff_eq.2 h3]
        simp only [super_get.j0]
        rw [if_neg (by simp)]
        have := sg_loop l hb hl ws hws hlen ws k 0 [] 4 rfl (Nat.zero_le _) (by omega) rfl (by omega) he
        simpa using this
      · have hR : ¬ recOf a l := fun h => h3 h.2.2
        rw [e3, if_neg hR, bne_iff_ne.2 h3]
        simp [super_get.j0]
    · have hR : ¬ recOf a l := fun h => hs h.2.1
      rw [if_neg (fun h => hs ((str_eq hb hl).1 h)), if_neg hR]
      simp [super_get.j0]
  · have hR : ¬ recOf a l := fun h => hl h.1
    rw [if_neg (by omega), if_neg hR]
    simp [super_get.j0]
def markV (l : List Int) : Int × Bool := if recOf 2 l ∧ zeros (l.drop 8) then (getL (sub l 4 4) 4, true) else (0, false)
theorem getMark_eq (l : List Int) (hb : Byt l) (k : Nat) (hk : 20 ≤ k) : super_GetMark.f k l = some (markV l) := by
  unfold super_GetMark.f markV
  rw [sget_eq 2 l hb [4] (by simp) (by simp) (by decide) k hk]
  simp only [Option.bind_some]
  unfold getS
  by_cases h : recOf 2 l
  · rw [if_pos h]
    by_cases hz : zeros (l.drop 8)
    · rw [if_pos (show decide (zeros (l.drop (endF [4] 4).toNat)) = true from decide_eq_true hz), if_pos (show (0 : Int) < ((goF l [4] 4).length : Int) by show (0 : Int) < ((1 : Nat) : Int); decide), if_pos ⟨h, hz⟩]; rfl
    · rw [if_neg (show ¬ decide (zeros (l.drop (endF [4] 4).toNat)) = true from fun e => hz (of_decide_eq_true e)), if_neg (fun e => hz e.2)]
  · rw [if_neg h]
    show (if false = true then _ else some (0, false)) = _
    rw [if_neg (by simp), if_neg (fun e => h e.1)]
def memG (l : List Int) : Int × Int × Int × Bool :=
  if (recOf 3 l ∧ zeros (l.drop 10)) ∧ okMem (getL (sub l 4 4) 4) (getL (sub l 8 1) 1) (getL (sub l 9 1) 1) then (getL (sub l 4 4) 4, getL (sub l 8 1) 1, getL (sub l 9 1) 1, true) else (0, 0, 0, false)
theorem getMember_eq (l : List Int) (hb : Byt l) (k : Nat) (hk : 20 ≤ k) : super_GetMember.f k l = some (memG l) := by
  unfold super_GetMember.f memG
  rw [sget_eq 3 l hb [4, 1, 1] (by simp) (by simp) (by decide) k hk]
  simp only [Option.bind_some]
  unfold getS
  by_cases h : recOf 3 l
  · rw [if_pos h]
    by_cases hz : zeros (l.drop 10)
    · rw [if_pos (show decide (zeros (l.drop (endF [4, 1, 1] 4).toNat)) = true from decide_eq_true hz), if_pos (show (0 : Int) < ((goF l [4, 1, 1] 4).length : Int) by show (0 : Int) < ((3 : Nat) : Int); decide), if_pos (show (1 : Int) < ((goF l [4, 1, 1] 4).length : Int) by show (1 : Int) < ((3 : Nat) : Int); decide), if_pos (show (2 : Int) < ((goF l [4, 1, 1] 4).length : Int) by show (2 : Int) < ((3 : Nat) : Int); decide)]
      show (super_member.f (getL (sub l 4 4) 4) (getL (sub l 8 1) 1) (getL (sub l 9 1) 1)).bind _ = _
      rw [member_eq]
      simp only [Option.bind_some]
      by_cases hm : okMem (getL (sub l 4 4) 4) (getL (sub l 8 1) 1) (getL (sub l 9 1) 1)
      · rw [decide_eq_true hm, if_pos rfl, if_pos ⟨⟨h, hz⟩, hm⟩]; rfl
      · rw [decide_eq_false hm, if_neg (by simp), if_neg (fun e => hm e.2)]
    · rw [if_neg (show ¬ decide (zeros (l.drop (endF [4, 1, 1] 4).toNat)) = true from fun e => hz (of_decide_eq_true e)), if_neg (fun e => hz e.1.2)]
  · rw [if_neg h]
    show (if false = true then _ else some (0, 0, 0, false)) = _
    rw [if_neg (by simp), if_neg (fun e => h e.1.1)]
def xo (x y : Int) : Int := Go.bits .xor .u8 x y
def IsB (x : Int) : Prop := 0 ≤ x ∧ x ≤ 255
theorem xo_nat {x y : Int} (hx : IsB x) (hy : IsB y) : xo x y = ((x.toNat ^^^ y.toNat : Nat) : Int) := u8_xor x y hx.1 (by have := hx.2; omega) hy.1 (by have := hy.2; omega)
theorem xo_byt {x y : Int} (hx : IsB x) (hy : IsB y) : IsB (xo x y) := by
  rw [xo_nat hx hy]
  have h1 := hx.2; have h2 := hy.2; have h3 := hx.1; have h4 := hy.1
  have : x.toNat ^^^ y.toNat < 2 ^ 8 := Nat.xor_lt_two_pow (by omega) (by omega)
  exact ⟨by omega, by omega⟩
theorem isB0 : IsB 0 := ⟨by omega, by omega⟩
theorem xo_zero {x : Int} (hx : IsB x) : xo x 0 = x := by rw [xo_nat hx isB0]; have := hx.1; simp; omega
theorem zero_xo {x : Int} (hx : IsB x) : xo 0 x = x := by rw [xo_nat isB0 hx]; have := hx.1; simp; omega
theorem xo_comm {x y : Int} (hx : IsB x) (hy : IsB y) : xo x y = xo y x := by rw [xo_nat hx hy, xo_nat hy hx, Nat.xor_comm]
theorem xo_self {x : Int} (hx : IsB x) : xo x x = 0 := by rw [xo_nat hx hx, Nat.xor_self]; rfl
theorem xo_assoc {x y z : Int} (hx : IsB x) (hy : IsB y) (hz : IsB z) : xo (xo x y) z = xo x (xo y z) := by
  have h1 := xo_byt hx hy; have h2 := xo_byt hy hz
  rw [xo_nat h1 hz, xo_nat hx h2, xo_nat hx hy, xo_nat hy hz, Int.toNat_natCast, Int.toNat_natCast, Nat.xor_assoc]
theorem xo_xo {x y : Int} (hx : IsB x) (hy : IsB y) : xo (xo x y) y = x := by rw [xo_assoc hx hy hy, xo_self hy, xo_zero hx]
/-- The bytes of two, one by one; noughts behind the shorter. -/
theorem xo_same {x t : Int} (hx : IsB x) (ht : IsB t) (h : xo x t = x) : t = 0 := by
  rw [← zero_xo ht, ← xo_self hx, xo_assoc hx hx ht, h, xo_self hx]
theorem getL4 (a b c d : Int) : getL [a, b, c, d] 4 = a + b * 256 + c * 65536 + d * 16777216 := by simp [getL, rd]
theorem getL1 (a : Int) : getL [a] 1 = a := by simp [getL, rd]
theorem zeros_rep {l : List Int} (h : zeros l) : l = List.replicate l.length 0 := List.eq_replicate_iff.2 ⟨rfl, h⟩
/-- The bytes of a mark are told by what it tells. -/
theorem mark_inj {l : List Int} (hb : Byt l) (h : recOf 2 l) (hz : zeros (l.drop 8)) : l = padL (headL 2 ++ putAt (getL (sub l 4 4) 4) 4 4) 64 := by
  obtain ⟨hl, h3, h4⟩ := h
  match l, hl, hb with
  | a :: b :: c :: d :: e :: f :: g :: i :: r, hl, hb =>
    have hr := zeros_rep (l := r) hz
    simp only [List.length_cons] at hl
    have hrl : r.length = 56 := by omega
    simp only [List.take_succ_cons, List.take_zero, List.cons.injEq, and_true] at h3
    obtain ⟨rfl, rfl, rfl⟩ := h3
    have h4 : d = 2 := h4
    subst h4
    have e1 := hb e (by simp); have e2 := hb f (by simp); have e3 := hb g (by simp); have e4 := hb i (by simp)
    have hs : sub (77 :: 79 :: 82 :: 2 :: e :: f :: g :: i :: r) 4 4 = [e, f, g, i] := rfl
    rw [hs, getL4, putAt4, hr, hrl]
    have q1 : (e + f * 256 + g * 65536 + i * 16777216) % 256 = e := by omega
    have q2 : (e + f * 256 + g * 65536 + i * 16777216) / 256 % 256 = f := by omega
    have q3 : (e + f * 256 + g * 65536 + i * 16777216) / 65536 % 256 = g := by omega
    have q4 : (e + f * 256 + g * 65536 + i * 16777216) / 16777216 % 256 = i := by omega
    rw [q1, q2, q3, q4]; rfl
theorem mem_inj {l : List Int} (hb : Byt l) (h : recOf 3 l) (hz : zeros (l.drop 10)) : l = padL (headL 3 ++ (putAt (getL (sub l 4 4) 4) 4 4 ++ (putAt (getL (sub l 8 1) 1) 1 1 ++ putAt (getL (sub l 9 1) 1) 1 1))) 64 := by
  obtain ⟨hl, h3, h4⟩ := h
  match l, hl, hb with
  | a :: b :: c :: d :: e :: f :: g :: i :: j :: m :: r, hl, hb =>
    have hr := zeros_rep (l := r) hz
    simp only [List.length_cons] at hl
    have hrl : r.length = 54 := by omega
    simp only [List.take_succ_cons, List.take_zero, List.cons.injEq, and_true] at h3
    obtain ⟨rfl, rfl, rfl⟩ := h3
    have h4 : d = 3 := h4
    subst h4
    have e1 := hb e (by simp); have e2 := hb f (by simp); have e3 := hb g (by simp); have e4 := hb i (by simp); have e5 := hb j (by simp); have e6 := hb m (by simp)
    have hs : sub (77 :: 79 :: 82 :: 3 :: e :: f :: g :: i :: j :: m :: r) 4 4 = [e, f, g, i] := rfl
    have hs1 : sub (77 :: 79 :: 82 :: 3 :: e :: f :: g :: i :: j :: m :: r) 8 1 = [j] := rfl
    have hs2 : sub (77 :: 79 :: 82 :: 3 :: e :: f :: g :: i :: j :: m :: r) 9 1 = [m] := rfl
    rw [hs, hs1, hs2, getL4, getL1, getL1, putAt4, putAt1, putAt1, hr, hrl]
    have q1 : (e + f * 256 + g * 65536 + i * 16777216) % 256 = e := by omega
    have q2 : (e + f * 256 + g * 65536 + i * 16777216) / 256 % 256 = f := by omega
    have q3 : (e + f * 256 + g * 65536 + i * 16777216) / 65536 % 256 = g := by omega
    have q4 : (e + f * 256 + g * 65536 + i * 16777216) / 16777216 % 256 = i := by omega
    have q5 : j % 256 = j := by omega
    have q6 : m % 256 = m := by omega
    rw [q1, q2, q3, q4, q5, q6]; rfl
theorem padL_byt {l : List Int} (h : Byt l) (n : Nat) : Byt (padL l n) := by
  intro x hx
  rcases List.mem_append.1 hx with hx | hx
  · exact h x hx
  · have := (List.mem_replicate.1 hx).2; omega
theorem app_byt {a b : List Int} (ha : Byt a) (hb : Byt b) : Byt (a ++ b) := by
  intro x hx
  rcases List.mem_append.1 hx with hx | hx
  · exact ha x hx
  · exact hb x hx
theorem head_byt (a : Int) (h : 0 ≤ a ∧ a ≤ 255) : Byt (headL a) := by
  intro x hx
  simp only [headL, List.mem_cons, List.not_mem_nil, or_false] at hx
  omega
theorem set_byt {l : List Int} (hb : Byt l) (i : Nat) {x : Int} (hx : IsB x) : Byt (l.set i x) := by
  intro y hy
  rcases List.mem_or_eq_of_mem_set hy with h | h
  · exact hb y h
  · rw [h]; exact hx
theorem turned_ne {l : List Int} (hb : Byt l) (i : Nat) (hi : i < l.length) {t : Int} (ht : IsB t) (h0 : t ≠ 0) : l.set i (Go.bits .xor .u8 (rd l (i : Int)) t) ≠ l := by
  intro h
  have h1 : (l.set i (xo (rd l (i : Int)) t))[i]'(by simpa using hi) = l[i] := by
    have h2 : l.set i (xo (rd l (i : Int)) t) = l := h
    simp only [h2]
  rw [List.getElem_set_self, rd_get hi] at h1
  exact h0 (xo_same (hb _ (List.getElem_mem hi)) ht h1)
theorem mark_turned (n : Int) (hn : okPut 4 n) (i : Nat) (hi : i < 64) {t : Int} (ht : IsB t) (h0 : t ≠ 0) (v : Int)
    (h : markV ((padL (headL 2 ++ putAt n 4 4) 64).set i (Go.bits .xor .u8 (rd (padL (headL 2 ++ putAt n 4 4) 64) (i : Int)) t)) = (v, true)) : v ≠ n := by
  have hby : Byt (padL (headL 2 ++ putAt n 4 4) 64) := padL_byt (app_byt (head_byt 2 (by omega)) (putAt_byt n 4)) 64
  have hlen : (padL (headL 2 ++ putAt n 4 4) 64).length = 64 := padL_length _ _ (by rw [List.length_append, putAt_length]; decide)
  have hx : IsB (Go.bits .xor .u8 (rd (padL (headL 2 ++ putAt n 4 4) 64) (i : Int)) t) := xo_byt (rd_byt hby _) ht
  have hne := turned_ne hby i (by omega) ht h0
  obtain ⟨b', hb'⟩ : ∃ b', (padL (headL 2 ++ putAt n 4 4) 64).set i (Go.bits .xor .u8 (rd (padL (headL 2 ++ putAt n 4 4) 64) (i : Int)) t) = b' := ⟨_, rfl⟩
  have hbb : Byt b' := by rw [← hb']; exact set_byt hby i hx
  rw [hb'] at h hne
  rintro rfl
  unfold markV at h
  split at h
  · rename_i hr
    have hi2 := mark_inj hbb hr.1 hr.2
    have hv := (Prod.mk.inj h).1
    rw [hv] at hi2
    exact hne hi2
  · simp at h
theorem mem_turned (e s u : Int) (i : Nat) (hi : i < 64) {t : Int} (ht : IsB t) (h0 : t ≠ 0) (L : List Int) (hL : L = padL (headL 3 ++ (putAt e 4 4 ++ (putAt s 1 1 ++ putAt u 1 1))) 64) (v1 v2 v3 : Int)
    (h : memG (L.set i (Go.bits .xor .u8 (rd L (i : Int)) t)) = (v1, v2, v3, true)) : ¬ (v1 = e ∧ v2 = s ∧ v3 = u) := by
  have hby : Byt L := by rw [hL]; exact padL_byt (app_byt (head_byt 3 (by omega)) (app_byt (putAt_byt e 4) (app_byt (putAt_byt s 1) (putAt_byt u 1)))) 64
  have hlen : L.length = 64 := by rw [hL]; exact padL_length _ _ (by rw [List.length_append, List.length_append, List.length_append, putAt_length, putAt_length, putAt_length]; decide)
  have hx : IsB (Go.bits .xor .u8 (rd L (i : Int)) t) := xo_byt (rd_byt hby _) ht
  have hne := turned_ne hby i (by omega) ht h0
  obtain ⟨b', hb'⟩ : ∃ b', L.set i (Go.bits .xor .u8 (rd L (i : Int)) t) = b' := ⟨_, rfl⟩
  have hbb : Byt b' := by rw [← hb']; exact set_byt hby i hx
  rw [hb'] at h hne
  rintro ⟨rfl, rfl, rfl⟩
  unfold memG at h
  split at h
  · rename_i hr
    have hi2 := mem_inj hbb hr.1.1 hr.1.2
    simp only [Prod.mk.injEq, and_true] at h
    rw [h.1, h.2.1, h.2.2, ← hL] at hi2
    exact hne hi2
  · simp at h
theorem recV_mark (n : Int) : recV 2 [⟨4, n⟩] = if okPut 4 n then (padL (headL 2 ++ putAt n 4 4) 64, true) else ([], false) := by
  unfold recV
  by_cases h : okPut 4 n
  · rw [if_pos h, if_pos (by simpa [okS] using h)]; simp [catS]
  · rw [if_neg h, if_neg (by simpa [okS] using h)]
theorem recV_mem (e s u : Int) : recV 3 [⟨4, e⟩, ⟨1, s⟩, ⟨1, u⟩] = if okPut 4 e ∧ okPut 1 s ∧ okPut 1 u then (padL (headL 3 ++ (putAt e 4 4 ++ (putAt s 1 1 ++ putAt u 1 1))) 64, true) else ([], false) := by
  unfold recV
  by_cases h : okPut 4 e ∧ okPut 1 s ∧ okPut 1 u
  · rw [if_pos h, if_pos (by simpa [okS] using h)]; simp [catS]
  · rw [if_neg h, if_neg (by simpa [okS] using h)]
theorem turned_j1 (i : Nat) (hi : i < 64) (t e s u : Int) (ht : IsB t) (h0 : t ≠ 0) (he : e ≤ 9223372036854775807) (k : Nat) (hk : 30 ≤ k) : morainelaw05_SuperTurned.j1 k (i : Int) t e s u = some true := by
  obtain ⟨k, rfl⟩ : ∃ m, k = m + 1 := ⟨k - 1, by omega⟩
  simp only [morainelaw05_SuperTurned.j1]
  rw [putMember_eq e s u he k (by omega)]
  simp only [Option.bind_some]
  unfold memV
  by_cases hm : okMem e s u
  · rw [if_pos hm, recV_mem]
    by_cases hp : okPut 4 e ∧ okPut 1 s ∧ okPut 1 u
    · rw [if_pos hp]
      obtain ⟨L, hL⟩ : ∃ L, L = padL (headL 3 ++ (putAt e 4 4 ++ (putAt s 1 1 ++ putAt u 1 1))) 64 := ⟨_, rfl⟩
      rw [← hL]
      have hby : Byt L := by rw [hL]; exact padL_byt (app_byt (head_byt 3 (by omega)) (app_byt (putAt_byt e 4) (app_byt (putAt_byt s 1) (putAt_byt u 1)))) 64
      have hlen : L.length = 64 := by rw [hL]; exact padL_length _ _ (by rw [List.length_append, List.length_append, List.length_append, putAt_length, putAt_length, putAt_length]; decide)
      have hx : IsB (Go.bits .xor .u8 (rd L (i : Int)) t) := xo_byt (rd_byt hby _) ht
      simp only
      rw [if_pos trivial, if_pos (by omega), if_pos (by omega), Int.toNat_natCast, getMember_eq _ (set_byt hby i hx) k (by omega)]
      simp only [Option.bind_some]
      obtain ⟨v1, v2, v3, v4, hv⟩ : ∃ v1 v2 v3 v4, memG (L.set i (Go.bits .xor .u8 (rd L (i : Int)) t)) = (v1, v2, v3, v4) := ⟨_, _, _, _, rfl⟩
      rw [hv]
      cases v4 with
      | false => rfl
      | true =>
        have := mem_turned e s u i hi ht h0 L hL v1 v2 v3 hv
        simp only
        rw [if_pos trivial]
        refine congrArg some ?_
        by_cases q1 : v1 = e
        · by_cases q2 : v2 = s
          · have q3 : ¬ v3 = u := fun q3 => this ⟨q1, q2, q3⟩
            rw [beq_eq_false_iff_ne.2 q3]; simp
          · rw [beq_eq_false_iff_ne.2 q2]; simp
        · rw [beq_eq_false_iff_ne.2 q1]; simp
    · rw [if_neg hp]; rfl
  · rw [if_neg hm]; rfl
theorem SuperTurned (n e s u a t : Int) (w0 : (Lit.int .i64 n).wf = true) (w1 : (Lit.int .i64 e).wf = true) (w2 : (Lit.int .i64 s).wf = true) (w3 : (Lit.int .i64 u).wf = true) (w4 : (Lit.int .i64 a).wf = true) (w5 : (Lit.int .u8 t).wf = true) :
    ∃ k, morainelaw05_SuperTurned.f k n e s u a t = some true := by
  obtain ⟨K, hK⟩ : ∃ K, K = 100 + 1 := ⟨_, rfl⟩
  refine ⟨K, ?_⟩
  have ht : IsB t := u8_bd w5
  unfold morainelaw05_SuperTurned.f
  rw [alive_at K (by omega)]
  simp only [Option.bind_some]
  rw [if_pos trivial]
  by_cases h1 : a < 0
  · rw [if_pos h1, hK]; simp [morainelaw05_SuperTurned.j0]
  rw [if_neg h1]
  by_cases h2 : a ≥ 64
  · rw [if_pos h2, hK]; simp [morainelaw05_SuperTurned.j0]
  rw [if_neg h2]
  by_cases h3 : t = 0
  · rw [beq_iff_eq.2 h3, hK]; simp [morainelaw05_SuperTurned.j0]
  rw [beq_eq_false_iff_ne.2 h3, hK]
  obtain ⟨i, hi⟩ : ∃ i : Nat, a = (i : Int) := ⟨a.toNat, by omega⟩
  subst hi
  have hj1 := turned_j1 i (by omega) t e s u ht h3 (i64_bd w1).2 100 (by omega)
  simp only [morainelaw05_SuperTurned.j0]
  rw [if_neg (by simp), putMark_eq n (i64_bd w0).2 100 (by omega)]
  simp only [Option.bind_some]
  rw [recV_mark]
  by_cases hp : okPut 4 n
  · rw [if_pos hp]
    have hby : Byt (padL (headL 2 ++ putAt n 4 4) 64) := padL_byt (app_byt (head_byt 2 (by omega)) (putAt_byt n 4)) 64
    have hlen : (padL (headL 2 ++ putAt n 4 4) 64).length = 64 := padL_length _ _ (by rw [List.length_append, putAt_length]; decide)
    have hx : IsB (Go.bits .xor .u8 (rd (padL (headL 2 ++ putAt n 4 4) 64) (i : Int)) t) := xo_byt (rd_byt hby _) ht
    have hT := fun v hv => mark_turned n hp i (by omega) ht h3 v hv
    generalize padL (headL 2 ++ putAt n 4 4) 64 = L at *
    simp only
    rw [if_pos trivial, if_pos (by omega), if_pos (by omega), Int.toNat_natCast, getMark_eq _ (set_byt hby i hx) 100 (by omega)]
    simp only [Option.bind_some]
    obtain ⟨v, b, hv⟩ : ∃ v b, markV (L.set i (Go.bits .xor .u8 (rd L (i : Int)) t)) = (v, b) := ⟨_, _, rfl⟩
    rw [hv]
    cases b with
    | false => simp only; rw [if_neg (by simp), hj1]
    | true =>
      have := hT v hv
      simp only
      rw [if_pos trivial, beq_eq_false_iff_ne.2 this, if_neg (by simp), hj1]
  · rw [if_neg hp]
    simp only
    rw [if_neg (by simp), hj1]
end Go.Proofs.YtkpipmhcjjncdaaDoor.Pure
