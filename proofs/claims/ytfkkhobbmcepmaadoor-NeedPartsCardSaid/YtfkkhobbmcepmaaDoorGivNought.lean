/- The contract of bits.Nought (bytes.Trim at the byte 0), in the printed contracts' form: by hand. -/
import Derived.Test.YtfkkhobbmcepmaaDoorProg
import Derived.Test.YtfkkhobbmcepmaaDoorWWords
import Derived.Test.YtfkkhobbmcepmaaDoorWLast
import Derived.WalkKit
import Derived.OwnWalk
import Derived.LoopTactic
import Derived.Outline
import Derived.KernelRfl
import Derived.Deep.QuietTactic
import Derived.BigQuiet
namespace Go.Proofs.YtfkkhobbmcepmaaDoor.Given
open Go.RowKit Go.Proofs.YtfkkhobbmcepmaaDoorW.PrintWords Go.Proofs.YtfkkhobbmcepmaaDoorW.PrintLast
set_option linter.unusedVariables false
set_option linter.unusedSimpArgs false

def slLen : Value → Nat
  | .slice _ m _ => m
  | _ => 0
/-- How many bytes stay when the noughts at the end go. -/
def tl (xs : List Int) : Nat → Nat
  | 0 => 0
  | n + 1 => if xs.getD n 0 = 0 then tl xs n else n + 1
theorem tl_le (xs : List Int) (n : Nat) : tl xs n ≤ n := by
  induction n with
  | zero => exact Nat.le_refl _
  | succ n ih => simp only [tl]; split <;> omega
theorem tl_last (xs : List Int) (n : Nat) (h : 0 < tl xs n) : xs.getD (tl xs n - 1) 0 ≠ 0 := by
  induction n with
  | zero => simp [tl] at h
  | succ n ih =>
    simp only [tl] at h ⊢
    split
    · rename_i h0; rw [if_pos h0] at h; exact ih h
    · rename_i h0; simpa using h0
theorem tl_zero (xs : List Int) (n : Nat) : tl xs n = 0 ↔ ∀ j, j < n → xs.getD j 0 = 0 := by
  induction n with
  | zero => simp [tl]
  | succ n ih =>
    simp only [tl]
    split
    · rename_i h0
      rw [ih]
      constructor
      · intro h j hj
        rcases Nat.lt_succ_iff_lt_or_eq.1 hj with h1 | h1
        · exact h j h1
        · rw [h1]; exact h0
      · intro h j hj; exact h j (by omega)
    · rename_i h0
      constructor
      · intro h; omega
      · intro h; exact absurd (h n (by omega)) h0

set_option maxHeartbeats 1000000 in
theorem trim_right (A : Option Addr) (n c : Nat) (xs : List Int) (w : World) (h : Kd.C (Kd.int .u8) w A n xs) (hc : n ≤ c) :
    Calls Tryd.prog 35 #[.slice A n c, .int .u8 0] w fun e w' => e = .returned (.slice A (tl xs n) c) ∧ w = w' := by
  have hr := Kd.reads_of_C (d := (0 : Int)) h
  have hn := hr.2.1
  have HC : Hid (0 < n → ∃ ad, A = some ad ∧ ∀ j, j < n → w.cell? (ad.add j) = some (.int .u8 (xs.getD j 0))) := hr.2.2
  clear h hr
  go_enter Tryd.func35, Tryd.ntmps35
  go_wp2
  go_loop [0] (fun s => ∃ m : Nat, m ≤ n ∧ s = .slice A m c ∧ Hid (tl xs m = tl xs n)) slLen
  case atStart => exact ⟨n, Nat.le_refl _, rfl, rfl⟩
  case round =>
    obtain ⟨m, hm, rfl, ht⟩ := hrel
    cases m with
    | zero =>
      go_wp2
      go_ret
      exact ⟨by rw [← ht.out]; rfl, rfl⟩
    | succ k =>
      obtain ⟨ad, rfl, hcell⟩ := HC.out (by omega)
      have hk := hcell k (by omega)
      obtain ⟨y, hy⟩ : ∃ y, xs.getD k 0 = y := ⟨_, rfl⟩
      rw [hy] at hk
      have HY : Hid (xs.getD k 0 = y) := hy
      clear hy hcell
      by_cases h0 : y = 0
      · subst h0
        go_wp2
        go_round
        case rel => exact ⟨k, by omega, rfl, by have e := ht.out; simp only [tl] at e; rw [if_pos HY.out] at e; exact e⟩
        case measure => simp [slLen]
      · have h1 : (y == 0) = false := beq_eq_false_iff_ne.2 h0
        have H0 : Hid (y ≠ 0) := h0
        clear h0
        go_wp2
        go_ret
        refine ⟨?_, rfl⟩
        rw [← ht.out]; simp only [tl]; rw [if_neg (by rw [HY.out]; exact H0.out)]; rfl

/-- The slice behind the leading noughts. -/
def leadV (xs : List Int) (m : Nat) : Nat → Addr → Nat → Value
  | 0, _, _ => .slice none 0 0
  | q + 1, a, c => if xs.getD (m - (q + 1)) 0 = 0 then leadV xs m q (a.add 1) (c - 1) else .slice (some a) (q + 1) c
theorem leadV_len (xs : List Int) (m : Nat) (hl : xs.getD (m - 1) 0 ≠ 0) : ∀ (q : Nat) (a : Addr) (c : Nat), 1 ≤ q → q ≤ m → ∃ a' q' c', leadV xs m q a c = .slice (some a') q' c' ∧ 1 ≤ q' := by
  intro q
  induction q with
  | zero => intro a c h1 h2; omega
  | succ q ih =>
    intro a c h1 h2
    simp only [leadV]
    split
    · rename_i h0
      by_cases hq : q = 0
      · subst hq; exact absurd h0 hl
      · exact ih _ _ (by omega) (by omega)
    · exact ⟨_, _, _, rfl, by omega⟩
theorem add_one_add (a : Addr) (j : Nat) : (a.add 1).add j = a.add (j + 1) := by
  unfold Addr.add
  split <;> simp_all <;> omega
theorem trim_left_none (A : Option Addr) (c : Nat) (w : World) :
    Calls Tryd.prog 34 #[.slice A 0 c, .int .u8 0] w fun e w' => e = .returned (.slice none 0 0) ∧ w = w' := by
  go_enter Tryd.func34, Tryd.ntmps34
  go_wp2
  go_loop [0] (fun s => s = .slice A 0 c) (fun s => 0)
  case atStart => rfl
  case round =>
    subst hrel
    go_wp2
    go_ret
    exact ⟨rfl, rfl⟩

set_option maxHeartbeats 1000000 in
theorem trim_left (ad : Addr) (m c : Nat) (xs : List Int) (w : World) (hcells : ∀ j, j < m → w.cell? (ad.add j) = some (.int .u8 (xs.getD j 0))) (hm : m ≤ 9223372036854775807) (hc : m ≤ c) (h0 : 1 ≤ m) (hl : xs.getD (m - 1) 0 ≠ 0) :
    Calls Tryd.prog 34 #[.slice (some ad) m c, .int .u8 0] w fun e w' => e = .returned (leadV xs m m ad c) ∧ w = w' := by
  have HC : Hid (∀ j, j < m → w.cell? (ad.add j) = some (.int .u8 (xs.getD j 0))) := hcells
  have HL : Hid (xs.getD (m - 1) 0 ≠ 0) := hl
  clear hcells hl
  obtain ⟨V, hV⟩ : ∃ V, leadV xs m m ad c = V := ⟨_, rfl⟩
  rw [hV]
  have HV : Hid (leadV xs m m ad c = V) := hV
  clear hV
  go_enter Tryd.func34, Tryd.ntmps34
  go_wp2
  go_loop [0] (fun s => ∃ (q c' : Nat) (a' : Addr), s = .slice (some a') (q + 1) c' ∧ q + 1 ≤ m ∧ q + 1 ≤ c' ∧ Hid (leadV xs m (q + 1) a' c' = V) ∧ Hid (∀ j, j < q + 1 → w.cell? (a'.add j) = some (.int .u8 (xs.getD (m - (q + 1) + j) 0)))) slLen
  case atStart =>
    obtain ⟨m', rfl⟩ : ∃ k, m = k + 1 := ⟨m - 1, by omega⟩
    refine ⟨m', c, ad, rfl, by omega, by omega, HV, ?_⟩
    intro j hj
    rw [show m' + 1 - (m' + 1) + j = j by omega]
    exact HC.out j hj
  case round =>
    obtain ⟨q, c', a', rfl, hq, hqc, hv, hcell⟩ := hrel
    have hk := hcell.out 0 (by omega)
    rw [show m - (q + 1) + 0 = m - (q + 1) by omega] at hk
    have a0 : a'.add 0 = a' := by cases a'; simp [Addr.add]
    rw [a0] at hk
    obtain ⟨y, hy⟩ : ∃ y, xs.getD (m - (q + 1)) 0 = y := ⟨_, rfl⟩
    rw [hy] at hk
    have HY : Hid (xs.getD (m - (q + 1)) 0 = y) := hy
    clear hy a0
    by_cases h0 : y = 0
    · have hq1 : 1 ≤ q := by
        rcases Nat.eq_zero_or_pos q with e | e
        · subst e; exact absurd (HY.out.trans h0) HL.out
        · exact e
      subst h0
      obtain ⟨q', rfl⟩ : ∃ j, q = j + 1 := ⟨q - 1, by omega⟩
      go_wp2
      go_round
      case rel =>
        refine ⟨q', c' - 1, a'.add 1, rfl, by omega, by omega, ?_, ?_⟩
        · have e := hv.out
          rw [leadV, if_pos HY.out] at e
          exact e
        · intro j hj
          have := hcell.out (j + 1) (by omega)
          rw [add_one_add, this, show m - (q' + 1 + 1) + (j + 1) = m - (q' + 1) + j by omega]
      case measure => simp [slLen]
    · have h1 : (y == 0) = false := beq_eq_false_iff_ne.2 h0
      have H0 : Hid (y ≠ 0) := h0
      clear h0
      go_wp2
      go_ret
      refine ⟨?_, rfl⟩
      rw [← hv.out]; simp only [leadV]; rw [if_neg (by rw [HY.out]; exact H0.out)]; rfl

def NoughtPost (xs : List Int) (n : Nat) (w : World) (e : Ending) (w' : World) : Prop := ∃ A' q c', e = .returned (.slice A' q c') ∧ (q = 0 ↔ tl xs n = 0) ∧ ∃ k, w' = w.drewN k

set_option maxHeartbeats 1000000 in
set_option maxRecDepth 100000 in
theorem trim_any (A : Option Addr) (n c : Nat) (xs : List Int) (w : World) (h : Kd.C (Kd.int .u8) w A n xs) (hc : n ≤ c) :
    Calls Tryd.prog 27 #[.slice A n c, .string ⟨#[0]⟩] w (NoughtPost xs n w) := by
  have hn : n ≤ 9223372036854775807 := (Kd.reads_of_C (d := (0 : Int)) h).2.1
  rcases Nat.eq_zero_or_pos n with hz | hpos
  · subst hz
    clear h
    go_enter Tryd.func27, Tryd.ntmps27
    go_wp2
    go_ret
    exact ⟨_, _, _, rfl, by simp [tl], 0, rfl⟩
  · obtain ⟨ad, rfl, hcells⟩ := (Kd.reads_of_C (d := (0 : Int)) h).2.2 hpos
    have HR : Hid (∀ w, Kd.C (Kd.int .u8) w (some ad) n xs → True) := fun _ _ => trivial
    have hle := tl_le xs n
    obtain ⟨m, hm⟩ : ∃ m, tl xs n = m := ⟨_, rfl⟩
    have K1 : Hid (∀ k, Calls Tryd.prog 35 #[.slice (some ad) n c, .int .u8 0] (w.drewN k) fun e w' => e = .returned (.slice (some ad) m c) ∧ w' = w.drewN k) := by
      intro k
      refine (trim_right (some ad) n c xs (w.drewN k) (Kd.C_below h ((Drawn0.step (Drawn0.refl w) k).below)) hc).mono ?_
      rintro e w' ⟨rfl, rfl⟩
      rw [hm]; exact ⟨rfl, rfl⟩
    have hn0 : ((n : Int) == 0) = false := beq_eq_false_iff_ne.2 (by omega)
    have HM : Hid (tl xs n = m) := hm
    rcases Nat.eq_zero_or_pos m with hm0 | hm1
    · subst hm0
      clear h hcells hm
      have K2 : Hid (∀ k, Calls Tryd.prog 34 #[.slice (some ad) 0 c, .int .u8 0] (w.drewN k) fun e w' => e = .returned (.slice none 0 0) ∧ w' = w.drewN k) := by
        intro k
        refine (trim_left_none (some ad) c (w.drewN k)).mono ?_
        rintro e w' ⟨rfl, rfl⟩
        exact ⟨rfl, rfl⟩
      go_enter Tryd.func27, Tryd.ntmps27
      go_wp2
      go_quiet ((first | (go_at_call 35; exact Calls.quiet_of_same (K1.out _)) | (go_at_call 34; exact Calls.quiet_of_same (K2.out _))))
      go_wp2
      go_ret
      exact ⟨_, _, _, rfl, by rw [HM.out], _, rfl⟩
    · have hlast : xs.getD (m - 1) 0 ≠ 0 := by rw [← hm]; exact tl_last xs n (by omega)
      obtain ⟨a', q', c', hV, hq⟩ := leadV_len xs m hlast m ad c (by omega) (Nat.le_refl _)
      have K2 : Hid (∀ k, Calls Tryd.prog 34 #[.slice (some ad) m c, .int .u8 0] (w.drewN k) fun e w' => e = .returned (.slice (some a') q' c') ∧ w' = w.drewN k) := by
        intro k
        refine (trim_left ad m c xs (w.drewN k) (fun j hj => ?_) (by omega) (by omega) (by omega) hlast).mono ?_
        · exact (((Drawn0.step (Drawn0.refl w) k).below).cell (World.block_lt_of_cell? w _ (hcells j (by omega)))).trans (hcells j (by omega))
        · rintro e w' ⟨rfl, rfl⟩
          rw [hV]; exact ⟨rfl, rfl⟩
      have HQ : Hid (1 ≤ q') := hq
      clear h hcells hm hV hq hlast
      have HN : Hid (1 ≤ m) := by show 1 ≤ m; omega
      go_enter Tryd.func27, Tryd.ntmps27
      go_wp2
      go_quiet ((first | (go_at_call 35; exact Calls.quiet_of_same (K1.out _)) | (go_at_call 34; exact Calls.quiet_of_same (K2.out _))))
      go_wp2
      go_ret
      exact ⟨_, _, _, rfl, by have h1 := HQ.out; have h2 := HN.out; rw [HM.out]; omega, _, rfl⟩

def bits_Nought.f (l : List Int) : Option Bool := some (decide (tl l l.length = 0))
theorem bits_Nought.calls (A0 : Option Addr) (c0 : Nat) (l0 : List Int) (r : Bool) (w : World) (hr0 : Kd.C (Kd.int .u8) w A0 l0.length l0) (hc0 : l0.length ≤ c0) (h : bits_Nought.f l0 = some r) :
    Calls Tryd.prog 17 #[.slice A0 l0.length c0] w fun e w' => e = .returned (.bool r) ∧ Drawn0 w w' := by
  unfold bits_Nought.f at h
  have hr := Option.some.inj h
  have HR : Hid (decide (tl l0 l0.length = 0) = r) := hr
  clear hr h
  obtain ⟨n, hn⟩ : ∃ n, l0.length = n := ⟨_, rfl⟩
  rw [hn] at hr0 hc0 HR ⊢
  clear hn
  go_enter Tryd.func17, Tryd.ntmps17
  go_wp2_with (go_at_call 27; refine (trim_any A0 n c0 l0 _ hr0 hc0).mono ?_; rintro e w' ⟨A', q, c', rfl, hq, k, rfl⟩; have HQ : Hid (q = 0 ↔ tl l0 n = 0) := hq; clear hq)
  go_ret
  refine ⟨?_, ⟨⟨k, rfl⟩⟩⟩
  have e : ((q : Int) == 0) = decide (tl l0 n = 0) := by
    rw [Bool.eq_iff_iff]; simp only [beq_iff_eq, decide_eq_true_eq]; rw [← HQ.out]; omega
  rw [← HR.out]
  exact congrArg (fun b => Ending.returned (.bool b)) e

end Go.Proofs.YtfkkhobbmcepmaaDoor.Given
