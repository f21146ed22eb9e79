/- Plain laws over whole numbers and lists: PureSectorCodes. -/
import Derived.Test.YtljjlfjhkdbbfaaQSectorCodesx
import Derived.Test.YtljjlfjhkdbbfaaPureSec
import Derived.KernelRfl
import Derived.Laws.BitsLemmas
import Derived.Laws.BitsAllLaws
namespace Go.Proofs.Ytljjlfjhkdbbfaa.Pure
open Go.RowKit Go.Proofs.Ytljjlfjhkdbbfaa.PSectorCodes Go.Proofs.Ytljjlfjhkdbbfaa.Base Go.Proofs.Ytljjlfjhkdbbfaa.Given Go.Proofs.YtljjlfjhkdbbfaaW.PrintWords Go.Proofs.YtljjlfjhkdbbfaaW.PrintLast Go.Proofs.YtljjlfjhkdbbfaaW.PrintMore
set_option linter.unusedVariables false
set_option linter.unusedSimpArgs false
def putL : Nat → Int → List Int
  | 0, _ => []
  | w + 1, n => n % 256 :: putL w (n / 256)
theorem refput_loop (d : Nat) : ∀ (k : Nat) (w i : Nat) (n : Int) (acc : List Int), i + d = w → w ≤ 4 → acc.length = i → 0 ≤ n → n ≤ 9223372036854775807 → d < k →
    moraineref01_Put.l0 k (w : Int) n acc (i : Int) = some (if n / 256 ^ d > 0 then [] else acc ++ putL d n) := by
  induction d with
  | zero =>
    intro k w i n acc h1 h2 h3 h4 h5 hk
    obtain ⟨k, rfl⟩ : ∃ m, k = m + 1 := ⟨k - 1, by omega⟩
    simp only [moraineref01_Put.l0]
    rw [if_neg (by omega)]
    simp only [Int.pow_zero, Int.ediv_one, putL, List.append_nil]
    split <;> rfl
  | succ d ih =>
    intro k w i n acc h1 h2 h3 h4 h5 hk
    obtain ⟨k, rfl⟩ : ∃ m, k = m + 1 := ⟨k - 1, by omega⟩
    simp only [moraineref01_Put.l0]
    rw [if_pos (by omega), if_pos (by omega), Int.tdiv_eq_ediv_of_nonneg h4, Int.tmod_eq_emod_of_nonneg h4, w64 (n := n / 256) (by omega) (by omega), w64 (n := (i : Int) + 1) (by omega) (by omega),
      show ((i : Int) + 1) = ((i + 1 : Nat) : Int) by omega, ih k w (i + 1) (n / 256) _ (by omega) h2 (by simp [h3]) (by omega) (by omega) (by omega)]
    have e : n / 256 / 256 ^ d = n / 256 ^ (d + 1) := by rw [Int.ediv_ediv_of_nonneg (by omega), Int.pow_succ, Int.mul_comm]
    rw [e, List.append_assoc, show n % 256 % 256 = n % 256 by omega]
    rfl
theorem putL_at {w n : Int} (h : okPut w n) : putL w.toNat n = putAt n w.toNat w.toNat := by
  rcases h with ⟨rfl, h0, h1⟩ | ⟨rfl, h0, h1⟩ | ⟨rfl, h0, h1⟩ | ⟨rfl, h0, h1⟩
  · show putL 1 n = putAt n 1 1
    rw [putAt1]; rfl
  · show putL 2 n = putAt n 2 2
    rw [putAt2]; rfl
  · show putL 3 n = putAt n 3 3
    rw [putAt3]; show [n % 256, n / 256 % 256, n / 256 / 256 % 256] = _
    rw [show n / 256 / 256 = n / 65536 by omega]
  · show putL 4 n = putAt n 4 4
    rw [putAt4]; show [n % 256, n / 256 % 256, n / 256 / 256 % 256, n / 256 / 256 / 256 % 256] = _
    rw [show n / 256 / 256 = n / 65536 by omega, show n / 65536 / 256 = n / 16777216 by omega]
theorem refput_eq (k : Nat) {w n : Int} (hn : n ≤ 9223372036854775807) : moraineref01_Put.f (k + 6) w n = some (if okPut w n then putAt n w.toNat w.toNat else []) := by
  have hj : moraineref01_Put.j0 (k + 6) w n [] true = some [] := by simp [moraineref01_Put.j0]
  unfold moraineref01_Put.f
  simp only [Option.bind_some]
  by_cases h1 : w < 1; · rw [if_pos h1, hj, if_neg (by unfold okPut; omega)]
  rw [if_neg h1]
  by_cases h2 : w > 4; · rw [if_pos h2, hj, if_neg (by unfold okPut; omega)]
  rw [if_neg h2]
  by_cases h3 : n < 0; · rw [decide_eq_true h3, hj, if_neg (by unfold okPut; omega)]
  rw [decide_eq_false h3]
  simp only [moraineref01_Put.j0]
  rw [if_neg (by simp)]
  have hl := refput_loop w.toNat (k + 5) w.toNat 0 n [] (by omega) (by omega) rfl (by omega) hn (by omega)
  rw [show ((w.toNat : Nat) : Int) = w by omega] at hl
  rw [show ((0 : Nat) : Int) = 0 from rfl] at hl
  rw [hl, List.nil_append]
  by_cases h : okPut w n
  · rw [if_pos h, putL_at h, if_neg]
    rcases h with ⟨rfl, h0, h1⟩ | ⟨rfl, h0, h1⟩ | ⟨rfl, h0, h1⟩ | ⟨rfl, h0, h1⟩
    · show ¬ n / 256 > 0; omega
    · show ¬ n / 65536 > 0; omega
    · show ¬ n / 16777216 > 0; omega
    · show ¬ n / 4294967296 > 0; omega
  · rw [if_neg h, if_pos]
    unfold okPut at h
    rcases (by omega : w = 1 ∨ w = 2 ∨ w = 3 ∨ w = 4) with rfl | rfl | rfl | rfl
    · show n / 256 > 0; omega
    · show n / 65536 > 0; omega
    · show n / 16777216 > 0; omega
    · show n / 4294967296 > 0; omega
theorem rd_sub (b : List Int) (at_ w : Int) (i : Nat) (h0 : 0 ≤ at_) (h1 : (i : Int) < w) : rd (sub b at_ w) (i : Int) = rd b (at_ + i) := by
  unfold rd sub
  rw [List.getD_eq_getElem?_getD, List.getD_eq_getElem?_getD, List.getElem?_drop, List.getElem?_take, if_pos (by omega)]
  congr 2
  omega
/-- The reference goes from the last byte to the first. -/
theorem refget_loop (b : List Int) (hb : Byt b) (hn : b.length ≤ 140737488355328) (at_ w : Int) (h0 : 0 ≤ at_) (hw : w ≤ 4) (h1 : at_ + w ≤ b.length) (i : Nat) : ∀ (k : Nat) (x : Int), (i : Int) ≤ w → 0 ≤ x → x < 2 ^ (8 * (4 - i)) → i < k →
    moraineref01_Get.l0 k b at_ x ((i : Int) - 1) = some (x * 2 ^ (8 * i) + getL (sub b at_ w) i, true) := by
  induction i with
  | zero =>
    intro k x hi x0 x1 hk
    obtain ⟨k, rfl⟩ : ∃ m, k = m + 1 := ⟨k - 1, by omega⟩
    simp only [moraineref01_Get.l0]
    rw [if_neg (by omega)]
    simp [getL]
  | succ i ih =>
    intro k x hi x0 x1 hk
    obtain ⟨k, rfl⟩ : ∃ m, k = m + 1 := ⟨k - 1, by omega⟩
    simp only [moraineref01_Get.l0]
    have hr := rd_byt hb (at_ + i)
    have hx : x < 16777216 := by
      refine Int.lt_of_lt_of_le x1 ?_
      have : (2 ^ (8 * (4 - (i + 1))) : Nat) ≤ 16777216 := Nat.pow_le_pow_right (by omega) (show 8 * (4 - (i + 1)) ≤ 24 by omega)
      have e : ((2 : Int) ^ (8 * (4 - (i + 1)))) = ((2 ^ (8 * (4 - (i + 1))) : Nat) : Int) := by simp
      rw [e]; omega
    rw [show ((i + 1 : Nat) : Int) - 1 = (i : Int) by omega, if_pos (by omega), w64 (n := at_ + (i : Int)) (by omega) (by omega), if_pos (by omega), if_pos (by omega), w64 (n := x * 256) (by omega) (by omega), w64 (n := rd b (at_ + i)) (by omega) (by omega),
      w64 (n := x * 256 + rd b (at_ + i)) (by omega) (by omega), w64 (n := (i : Int) - 1) (by omega) (by omega)]
    have hp : (2 : Int) ^ (8 * (4 - i)) = 2 ^ (8 * (4 - (i + 1))) * 256 := by
      rw [show 8 * (4 - i) = 8 * (4 - (i + 1)) + 8 by omega, Int.pow_add]; rfl
    rw [ih k (x * 256 + rd b (at_ + i)) (by omega) (by omega) (by rw [hp]; omega) (by omega)]
    have e2 : (2 : Int) ^ (8 * (i + 1)) = 2 ^ (8 * i) * 256 := by rw [show 8 * (i + 1) = 8 * i + 8 by omega, Int.pow_add]; rfl
    simp only [getL]
    rw [rd_sub b at_ w i h0 (by omega), e2, Int.add_mul]
    have : x * 256 * 2 ^ (8 * i) = x * (2 ^ (8 * i) * 256) := by rw [Int.mul_assoc, Int.mul_comm 256]
    rw [this]
    congr 2
    omega
theorem refget_eq (k : Nat) {b : List Int} (hb : Byt b) (hn : b.length ≤ 140737488355328) (at_ w : Int) : moraineref01_Get.f (k + 6) b at_ w = some (if okGet b at_ w then (getL (sub b at_ w) w.toNat, true) else (0, false)) := by
  have hj : moraineref01_Get.j0 (k + 6) b at_ w true = some (0, false) := by simp [moraineref01_Get.j0]
  unfold moraineref01_Get.f
  by_cases h1 : w < 1; · rw [if_pos h1, hj, if_neg (by unfold okGet; omega)]
  rw [if_neg h1]
  by_cases h2 : w > 4; · rw [if_pos h2, hj, if_neg (by unfold okGet; omega)]
  rw [if_neg h2]
  by_cases h3 : at_ < 0; · rw [if_pos h3, hj, if_neg (by unfold okGet; omega)]
  rw [if_neg h3]
  by_cases h4 : at_ > b.length; · rw [if_pos h4, hj, if_neg (by unfold okGet; omega)]
  rw [if_neg h4, w64 (by omega) (by omega)]
  by_cases h5 : (b.length : Int) - at_ < w
  · rw [decide_eq_true h5, hj, if_neg (by unfold okGet; omega)]
  · rw [decide_eq_false h5, if_pos (show okGet b at_ w by unfold okGet; omega)]
    simp only [moraineref01_Get.j0]
    rw [if_neg (by simp), w64 (by omega) (by omega)]
    have hl := refget_loop b hb hn at_ w (by omega) (by omega) (by omega) w.toNat (k + 5) 0 (by omega) (by omega) (Int.pow_pos (by omega)) (by omega)
    rw [show ((w.toNat : Nat) : Int) = w by omega, Int.zero_mul, Int.zero_add] at hl
    exact hl
theorem padref (d : Nat) : ∀ (k : Nat) (x : List Int), x.length + d = 64 → d < k → moraineref04_Encode.l0 k x = some (x ++ List.replicate d 0, true) := by
  induction d with
  | zero =>
    intro k x hx hk
    obtain ⟨k, rfl⟩ : ∃ j, k = j + 1 := ⟨k - 1, by omega⟩
    simp only [moraineref04_Encode.l0]
    rw [if_neg (by omega)]
    simp
  | succ d ih =>
    intro k x hx hk
    obtain ⟨k, rfl⟩ : ∃ j, k = j + 1 := ⟨k - 1, by omega⟩
    simp only [moraineref04_Encode.l0]
    rw [if_pos (by omega), if_pos (by omega), ih k (x ++ [0]) (by simp; omega) (by omega), List.append_assoc, List.replicate_succ]
    rfl
theorem refenc_pos {a0 a1 a2 : Int} {l : List Int} (h : okEnc a0 a1 a2 l) (k : Nat) (hk : 100 ≤ k) : moraineref04_Encode.f k a0 a1 a2 l = some (encB a0 a1 a2 l, true) := by
  obtain ⟨k, rfl⟩ : ∃ j, k = j + 6 := ⟨k - 6, by omega⟩
  obtain ⟨hl, h0, h1, h2⟩ := h
  have b0 : a0 ≤ 9223372036854775807 := by unfold okPut at h0; omega
  have b1 : a1 ≤ 9223372036854775807 := by unfold okPut at h1; omega
  have b2 : a2 ≤ 9223372036854775807 := by unfold okPut at h2; omega
  have l0 : (putAt a0 4 4).length = 4 := putAt_length _ _ _
  have l1 : (putAt a1 2 2).length = 2 := putAt_length _ _ _
  have l2 : (putAt a2 2 2).length = 2 := putAt_length _ _ _
  unfold moraineref04_Encode.f
  rw [refput_eq k b0, refput_eq k b1, refput_eq k b2, if_pos h0, if_pos h1, if_pos h2]
  simp only [Option.bind_some, show (4 : Int).toNat = 4 from rfl, show (2 : Int).toNat = 2 from rfl]
  rw [if_neg (by omega), if_neg (by omega), if_neg (by omega), decide_eq_false (by omega)]
  simp only [moraineref04_Encode.j0, Option.bind_some]
  rw [if_neg (by simp), if_pos (by omega), if_pos (by simp only [List.length_append]; omega), if_pos (by simp only [List.length_append]; omega),
    padref (56 - l.length) _ _ (by simp only [List.length_append]; omega) (by omega)]
  simp only [encB, padL, List.append_assoc]
theorem refenc_neg {a0 a1 a2 : Int} {l : List Int} (b0 : a0 ≤ 9223372036854775807) (b1 : a1 ≤ 9223372036854775807) (b2 : a2 ≤ 9223372036854775807) (h : ¬ okEnc a0 a1 a2 l) (k : Nat) (hk : 100 ≤ k) : moraineref04_Encode.f k a0 a1 a2 l = some ([], false) := by
  obtain ⟨k, rfl⟩ : ∃ j, k = j + 6 := ⟨k - 6, by omega⟩
  have ej : ∀ x1 x6 x7 x8, moraineref04_Encode.j0 (k + 6) x1 x6 x7 x8 true = some ([], false) := fun _ _ _ _ => by simp [moraineref04_Encode.j0]
  unfold moraineref04_Encode.f
  rw [refput_eq k b0, refput_eq k b1, refput_eq k b2]
  simp only [Option.bind_some]
  by_cases h0 : okPut 4 a0
  · by_cases h1 : okPut 2 a1
    · by_cases h2 : okPut 2 a2
      · have hl : ¬ l.length ≤ 56 := fun hl => h ⟨hl, h0, h1, h2⟩
        rw [if_pos h0, if_pos h1, if_pos h2]
        rw [if_neg (by rw [putAt_length]; decide), if_neg (by rw [putAt_length]; decide), if_neg (by rw [putAt_length]; decide), decide_eq_true (by omega)]
        exact ej _ _ _ _
      · rw [if_pos h0, if_pos h1, if_neg h2]
        rw [if_neg (by rw [putAt_length]; decide), if_neg (by rw [putAt_length]; decide), if_pos (by simp)]
        exact ej _ _ _ _
    · rw [if_pos h0, if_neg h1]
      rw [if_neg (by rw [putAt_length]; decide), if_pos (by simp)]
      exact ej _ _ _ _
  · rw [if_neg h0, if_pos (by simp)]
    exact ej _ _ _ _
theorem copy_eq (l : List Int) (h : l.length < 140737488355328) : moraineref00_CopyBytes.f l = some l := by
  unfold moraineref00_CopyBytes.f
  simp only [Option.bind_some]
  rw [if_pos (by simpa using h)]
  rfl
def decV (l : List Int) : Int × Int × Int × List Int × Bool := if l.length = 64 then (getL (sub l 0 4) 4, getL (sub l 4 2) 2, getL (sub l 6 2) 2, l.drop 8, true) else (0, 0, 0, [], false)
theorem dec_eq {l : List Int} (hb : Byt l) : sector_Decode.f l = some (decV l) := by
  unfold sector_Decode.f decV
  by_cases h : l.length = 64
  · rw [if_pos (by omega), if_pos h, get_eq hb (by omega), get_eq hb (by omega), get_eq hb (by omega), if_pos (by unfold okGet; omega), if_pos (by unfold okGet; omega), if_pos (by unfold okGet; omega)]
    simp only [Option.bind_some]
    rw [if_pos (by omega)]
    unfold bytes_Clone.f
    rw [if_pos (by rw [List.length_drop]; omega)]
    rfl
  · rw [if_neg (by omega), if_neg h]
theorem refdec_eq {l : List Int} (hb : Byt l) (k : Nat) (hk : 100 ≤ k) : moraineref04_Decode.f k l = some (decV l) := by
  obtain ⟨k, rfl⟩ : ∃ j, k = j + 6 := ⟨k - 6, by omega⟩
  unfold moraineref04_Decode.f decV
  by_cases h : l.length = 64
  · rw [if_pos (by omega), if_pos h, refget_eq k hb (by omega), refget_eq k hb (by omega), refget_eq k hb (by omega), if_pos (by unfold okGet; omega), if_pos (by unfold okGet; omega), if_pos (by unfold okGet; omega)]
    simp only [Option.bind_some]
    rw [if_pos (by omega), copy_eq _ (by rw [List.length_drop]; omega)]
    rfl
  · rw [if_neg (by omega), if_neg h]
theorem decV_len (l : List Int) : (decV l).2.2.2.1.length ≤ 56 := by
  unfold decV; split
  · simp only [List.length_drop]; omega
  · simp
theorem SectorCodes (a0 a1 a2 : Int) (l1 l2 : List Int) (w0 : (Lit.int .i64 a0).wf = true) (w1 : (Lit.int .i64 a1).wf = true) (w2 : (Lit.int .i64 a2).wf = true) (hb1 : Byt l1) (hb2 : Byt l2) : ∃ k, morainelaw04_SectorCodes.f k a0 a1 a2 l1 l2 = some true := by
  refine ⟨3001, ?_⟩
  have b0 := i64_bd w0; have b1 := i64_bd w1; have b2 := i64_bd w2
  have ez : ∀ x1 x2 y0 y1 y2, morainelaw04_SectorCodes.j0 (3000 + 1) x1 x2 true y0 y1 y2 = some true := fun _ _ _ _ _ => by simp [morainelaw04_SectorCodes.j0]
  unfold morainelaw04_SectorCodes.f morainelaw04_alive.f
  simp only [Option.bind_some, if_true]
  by_cases c1 : (l1.length : Int) > 2000
  · rw [if_pos c1]; exact ez _ _ _ _ _
  rw [if_neg c1]
  by_cases c2 : (l2.length : Int) > 2000
  · rw [decide_eq_true c2]; exact ez _ _ _ _ _
  rw [decide_eq_false c2]
  obtain ⟨v, e1, e2, hv⟩ : ∃ v, sector_Encode.f a0 a1 a2 l1 = some v ∧ moraineref04_Encode.f 3000 a0 a1 a2 l1 = some v ∧ v.1.length ≤ 64 := by
    by_cases h : okEnc a0 a1 a2 l1
    · exact ⟨_, enc_pos h, refenc_pos h 3000 (by omega), by rw [encB_len h.1]; omega⟩
    · exact ⟨_, enc_neg b0.2 b1.2 b2.2 h, refenc_neg b0.2 b1.2 b2.2 h 3000 (by omega), by simp⟩
  have hd := decV_len l2
  simp only [morainelaw04_SectorCodes.j0]
  rw [if_neg (by simp), copy_eq l1 (by omega)]
  simp only [Option.bind_some]
  rw [e1, e2, dec_eq hb2, refdec_eq hb2 3000 (by omega)]
  simp only [Option.bind_some]
  rw [same_eq _ _ (by omega) 3000 (by omega), same_eq _ _ (by omega) 3000 (by omega), same_eq _ _ (by omega) 3000 (by omega)]
  simp
end Go.Proofs.Ytljjlfjhkdbbfaa.Pure
