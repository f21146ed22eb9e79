/- Plain laws over whole numbers and lists: PureSectorOther. -/
import Derived.Test.YtljjlfjhkdbbfaaQSectorOtherx
import Derived.Test.YtljjlfjhkdbbfaaPureSec
import Derived.KernelRfl
import Derived.Laws.BitsLemmas
import Derived.Laws.BitsAllLaws
namespace Go.Proofs.Ytljjlfjhkdbbfaa.Pure
open Go.RowKit Go.Proofs.Ytljjlfjhkdbbfaa.PSectorOther Go.Proofs.Ytljjlfjhkdbbfaa.Base Go.Proofs.Ytljjlfjhkdbbfaa.Given Go.Proofs.YtljjlfjhkdbbfaaW.PrintWords Go.Proofs.YtljjlfjhkdbbfaaW.PrintLast Go.Proofs.YtljjlfjhkdbbfaaW.PrintMore
set_option linter.unusedVariables false
set_option linter.unusedSimpArgs false
def lst (s : Int) (n : Nat) : List (List Int) := (List.range n).map fun (i : Nat) => encB s (i : Int) 0 [(i : Int) % 256]
theorem lst_succ (s : Int) (n : Nat) : lst s (n + 1) = lst s n ++ [encB s (n : Int) 0 [(n : Int) % 256]] := by simp [lst, List.range_succ]
theorem lst_len (s : Int) (n : Nat) : (lst s n).length = n := by simp [lst]
theorem one_byt (i : Nat) : Byt [(i : Int) % 256] := by
  intro x hx
  simp only [List.mem_singleton] at hx
  subst hx
  omega
theorem lst_byt (s : Int) (n : Nat) : ∀ b ∈ lst s n, Byt b := by
  intro b hb
  simp only [lst, List.mem_map] at hb
  obtain ⟨i, _, rfl⟩ := hb
  exact encB_byt (one_byt i)
theorem lst_get (s : Int) (n i : Nat) (h : i < n) : (lst s n).getD i [] = encB s (i : Int) 0 [(i : Int) % 256] := by simp [lst, h]
theorem lst_good (s : Int) (n : Nat) : ∀ b ∈ lst s n, good (putAt s 4 4) b := by
  intro b hb
  simp only [lst, List.mem_map] at hb
  obtain ⟨i, _, rfl⟩ := hb
  exact ⟨encB_len (by simp), encB_take⟩
theorem lst_ok (s : Int) (n : Nat) (h : 0 < n) : parOK (lst s n) := by
  refine ⟨fun e => ?_, fun b hb => ?_⟩
  · have := lst_len s n; rw [e] at this; simp at this; omega
  · rw [lst_get s n 0 h, encB_take]; exact lst_good s n b hb
theorem okSeq {s : Int} (h0 : 0 ≤ s) (h1 : s < 4294967296) (i : Nat) (hi : i < 65536) {l : List Int} (hl : l.length ≤ 56) : okEnc s (i : Int) 0 l := by
  unfold okEnc okPut; exact ⟨hl, by omega, by omega, by omega⟩
theorem seq_ne (s : Int) : putAt s 4 4 ≠ putAt (s + 1) 4 4 := by
  rw [putAt4, putAt4]
  intro h
  have := (List.cons.inj h).1
  omega
theorem set_bad (s : Int) (n i : Nat) (hn : 2 ≤ n) (hi : i < n) (b : List Int) (hb : b.take 4 = putAt (s + 1) 4 4) : ¬ parOK ((lst s n).set i b) := by
  rintro ⟨_, h⟩
  obtain ⟨j, hj, hij⟩ : ∃ j, j < n ∧ i ≠ j := by
    by_cases h0 : i = 0
    · exact ⟨1, by omega, by omega⟩
    · exact ⟨0, by omega, h0⟩
  have hl := lst_len s n
  have m1 : b ∈ (lst s n).set i b := List.mem_iff_getElem.2 ⟨i, by simp [hl, hi], by simp⟩
  have m2 : encB s (j : Int) 0 [(j : Int) % 256] ∈ (lst s n).set i b := List.mem_iff_getElem.2 ⟨j, by simp [hl, hj], by rw [List.getElem_set_ne hij]; simp [lst]⟩
  have e1 := (h _ m1).2
  have e2 := (h _ m2).2
  rw [encB_take] at e2
  rw [hb] at e1
  exact seq_ne s (e2.trans e1.symm)
theorem set_short (l : List (List Int)) (i : Nat) (hi : i < l.length) (b : List Int) (hb : b.length ≠ 64) : ¬ parOK (l.set i b) := by
  rintro ⟨_, h⟩
  exact hb (h b (List.mem_iff_getElem.2 ⟨i, by simp [hi], by simp⟩)).1
theorem set_byt {l : List (List Int)} (h : ∀ b ∈ l, Byt b) (i : Nat) {b : List Int} (hb : Byt b) : ∀ c ∈ l.set i b, Byt c := by
  intro c hc
  rcases List.mem_or_eq_of_mem_set hc with h1 | rfl
  · exact h c h1
  · exact hb
theorem other_j2 (s : Int) (n i : Nat) (hn : 2 ≤ n) (h16 : n ≤ 16) (hi : i < n) (b : List Int) (hb : Byt b) (hb4 : b.take 4 = putAt (s + 1) 4 4) (k : Nat) (hk : 30 ≤ k) :
    morainelaw04_SectorOther.j2 k (i : Int) (lst s n) b false = some true := by
  obtain ⟨k, rfl⟩ : ∃ j, k = j + 1 := ⟨k - 1, by omega⟩
  have hl := lst_len s n
  have er : PSectorOther.rd_L1 (lst s n) (i : Int) = encB s (i : Int) 0 [(i : Int) % 256] := by
    show (lst s n).getD (i : Int).toNat [] = _
    rw [Int.toNat_natCast, lst_get s n i hi]
  have e64 : (encB s (i : Int) 0 [(i : Int) % 256]).length = 64 := encB_len (by simp)
  simp only [morainelaw04_SectorOther.j2]
  rw [if_neg (by simp), if_pos (by omega), if_pos (by rw [hl]; omega)]
  simp only [Option.bind_some, Int.toNat_natCast]
  rw [er, par_eq _ (set_byt (lst_byt s n) i hb) (by simp; omega) k (by simp; omega), parV_bad (set_bad s n i hn hi b hb4)]
  simp only [Option.bind_some]
  rw [if_pos (by omega), par_eq _ (set_byt (set_byt (lst_byt s n) i hb) i (take_byt (encB_byt (one_byt i)) 63)) (by simp; omega) k (by simp; omega),
    parV_bad (set_short _ i (by simp; omega) _ (by rw [List.length_take]; omega))]
  rfl
theorem other_loop (s : Int) (h1 : 1 ≤ s) (h2 : s < 2147483648) (n : Nat) (hn : 2 ≤ n) (h16 : n ≤ 16) (i0 : Nat) (hi0 : i0 < n) (d : Nat) : ∀ (i k : Nat), i + d = n → d + 40 < k → morainelaw04_SectorOther.l0 k s (n : Int) (i0 : Int) (lst s i) (i : Int) = some true := by
  induction d with
  | zero =>
    intro i k hi hk
    obtain rfl : i = n := by omega
    obtain ⟨k, rfl⟩ : ∃ j, k = j + 1 := ⟨k - 1, by omega⟩
    have hl := lst_len s i
    simp only [morainelaw04_SectorOther.l0]
    rw [if_neg (by omega), par_eq _ (lst_byt s i) (by omega) k (by omega), parV_good (lst_ok s i (by omega))]
    simp only [Option.bind_some]
    rw [w64 (by omega) (by omega), enc_pos (okSeq (by omega) (by omega) i0 (by omega) (by simp))]
    simp only [Option.bind_some, Bool.not_true, if_true]
    exact other_j2 s i i0 hn h16 hi0 _ (encB_byt byt_nil) encB_take k (by omega)
  | succ d ih =>
    intro i k hi hk
    obtain ⟨k, rfl⟩ : ∃ j, k = j + 1 := ⟨k - 1, by omega⟩
    have hl := lst_len s i
    simp only [morainelaw04_SectorOther.l0]
    rw [if_pos (by omega), enc_pos (okSeq (by omega) (by omega) i (by omega) (by simp))]
    simp only [Option.bind_some, if_true]
    rw [if_pos (by rw [hl]; omega), ← lst_succ, w64 (by omega) (by omega), show ((i : Int) + 1) = ((i + 1 : Nat) : Int) by omega]
    exact ih (i + 1) k (by omega) (by omega)
theorem SectorOther : morainelaw04_SectorOther.Pure := by
  intro a0 a1 a2 w0 w1 w2
  refine ⟨100, ?_⟩
  have b0 := i64_bd w0; have b1 := i64_bd w1; have b2 := i64_bd w2
  have ez : ∀ k x0 x1 x2, morainelaw04_SectorOther.j0 (k + 1) x0 x1 x2 true = some true := fun k x0 x1 x2 => by simp [morainelaw04_SectorOther.j0]
  unfold morainelaw04_SectorOther.f morainelaw04_alive.f
  simp only [Option.bind_some, if_true]
  by_cases c1 : a0 < 1
  · rw [if_pos c1]; exact ez 99 _ _ _
  rw [if_neg c1]
  by_cases c2 : a0 ≥ 2147483648
  · rw [if_pos c2]; exact ez 99 _ _ _
  rw [if_neg c2]
  by_cases c3 : a1 < 2
  · rw [if_pos c3]; exact ez 99 _ _ _
  rw [if_neg c3]
  by_cases c4 : a1 > 16
  · rw [if_pos c4]; exact ez 99 _ _ _
  rw [if_neg c4]
  by_cases c5 : a2 < 0
  · rw [if_pos c5]; exact ez 99 _ _ _
  rw [if_neg c5]
  by_cases c6 : a2 ≥ a1
  · rw [decide_eq_true c6]; exact ez 99 _ _ _
  rw [decide_eq_false c6]
  obtain ⟨n, rfl⟩ := Int.eq_ofNat_of_zero_le (show 0 ≤ a1 by omega)
  obtain ⟨i0, rfl⟩ := Int.eq_ofNat_of_zero_le (show 0 ≤ a2 by omega)
  simp only [morainelaw04_SectorOther.j0]
  rw [if_neg (by simp)]
  exact other_loop a0 (by omega) (by omega) n (by omega) (by omega) i0 (by omega) n 0 99 (by omega) (by omega)
end Go.Proofs.Ytljjlfjhkdbbfaa.Pure
