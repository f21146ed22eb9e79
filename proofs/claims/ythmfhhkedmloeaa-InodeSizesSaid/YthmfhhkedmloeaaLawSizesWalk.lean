/- The walk of InodeSizes: by hand. -/
import Derived.Test.YthmfhhkedmloeaaGivAlive14
import Derived.Deep.QuietTactic
import Derived.BigQuiet
namespace Go.Proofs.Ythmfhhkedmloeaa.SizesWalk
open Go.RowKit Go.Proofs.YthmfhhkedmloeaaW.PrintWords Go.Proofs.YthmfhhkedmloeaaW.PrintLast Go.Proofs.YthmfhhkedmloeaaW.PrintMore Go.Proofs.Ythmfhhkedmloeaa.Given
set_option linter.unusedVariables false
set_option linter.unusedSimpArgs false
theorem blocks_out (n : Int) (w : World) (h : n < 0 ∨ 46368 < n) : Calls Try.prog 8 #[.int .i64 n] w fun e w' => e = .returned (.int .i64 0) ∧ w' = w := by
  rcases h with h | h
  · go_enter Try.func8, Try.ntmps8
    go_wp2
    go_ret
    exact ⟨rfl, rfl⟩
  · have h' : ¬ n < 0 := by omega
    go_enter Try.func8, Try.ntmps8
    go_wp2
    go_ret
    exact ⟨rfl, rfl⟩
theorem blocks_in (n : Int) (w : World) (h0 : 0 ≤ n) (h1 : n ≤ 46368) : Calls Try.prog 8 #[.int .i64 n] w fun e w' => e = .returned (.int .i64 (blk n)) ∧ w' = w :=
  (blocks_calls n w h0 h1).mono fun _ _ ⟨a, b⟩ => ⟨a, b.symm⟩

set_option maxHeartbeats 1000000 in
theorem low (n : Int) (w : World) (h : n < 0) : Calls Try.prog 4 #[.int .i64 n] w fun e w' => e = .returned (.bool true) ∧ Below w.heap.size w w' := by
  go_enter Try.func4, Try.ntmps4
  go_wp2_with fail
  refine (morainelaw14_alive.calls true _ rfl).mono ?_
  rintro e w1 ⟨rfl, hB⟩
  have HB := Lib.hid hB
  clear hB
  go_wp2_with (go_at_call 8; refine (blocks_out _ _ (.inl h)).mono ?_; rintro e w2 ⟨rfl, rfl⟩)
  go_ret
  exact ⟨rfl, HB.out⟩
set_option maxHeartbeats 1000000 in
theorem high (n : Int) (w : World) (h : 46368 < n) : Calls Try.prog 4 #[.int .i64 n] w fun e w' => e = .returned (.bool true) ∧ Below w.heap.size w w' := by
  have h0 : decide (n < 0) = false := by simp; omega
  have h1 : (n == 46368) = false := by rw [beq_eq_false_iff_ne]; omega
  have h2 : 46368 ≤ n := by omega
  go_enter Try.func4, Try.ntmps4
  go_wp2_with fail
  refine (morainelaw14_alive.calls true _ rfl).mono ?_
  rintro e w1 ⟨rfl, hB⟩
  have HB := Lib.hid hB
  clear hB
  go_wp2_with (go_at_call 8; refine (blocks_out _ _ (.inr h)).mono ?_; rintro e w2 ⟨rfl, rfl⟩)
  go_ret
  exact ⟨rfl, HB.out⟩
set_option maxHeartbeats 1000000 in
theorem edge (w : World) : Calls Try.prog 4 #[.int .i64 46368] w fun e w' => e = .returned (.bool true) ∧ Below w.heap.size w w' := by
  have hb : blk 46368 = 828 := by decide
  have HB2 := Lib.hid hb
  clear hb
  go_enter Try.func4, Try.ntmps4
  go_wp2_with fail
  refine (morainelaw14_alive.calls true _ rfl).mono ?_
  rintro e w1 ⟨rfl, hB⟩
  have HB := Lib.hid hB
  clear hB
  go_wp2_with (go_at_call 8; refine (blocks_in _ _ (by decide) (by decide)).mono ?_; rintro e w2 ⟨rfl, rfl⟩; rw [HB2.out])
  go_ret
  exact ⟨rfl, HB.out⟩
set_option maxHeartbeats 1000000 in
theorem mid (n : Int) (w : World) (h0 : 0 ≤ n) (h1 : n < 46368) : Calls Try.prog 4 #[.int .i64 n] w fun e w' => e = .returned (.bool true) ∧ Below w.heap.size w w' := by
  obtain ⟨p, hp⟩ : ∃ p, blk n = p := ⟨_, rfl⟩
  obtain ⟨q, hq⟩ : ∃ q, blk (n + 1) = q := ⟨_, rfl⟩
  have HP := Lib.hid hp
  have HQ := Lib.hid hq
  have hd : (q - p = 1 ∧ n % 56 = 0) ∨ (q - p = 0 ∧ ¬ n % 56 = 0) := by rw [← hp, ← hq]; unfold blk; omega
  have hpb : 0 ≤ p ∧ p ≤ 828 := by rw [← hp]; unfold blk; omega
  have hqb : 0 ≤ q ∧ q ≤ 828 := by rw [← hq]; unfold blk; omega
  obtain ⟨hp0, hp1⟩ := hpb
  obtain ⟨hq0, hq1⟩ := hqb
  clear hp hq
  rcases hd with ⟨hd, hm⟩ | ⟨hd, hm⟩
  · have HD : Hid (q = p + 1) := by show q = _; omega
    have e := HD.out
    subst e
    clear hd
    have hM := hm
    go_enter Try.func4, Try.ntmps4
    go_wp2_with fail
    refine (morainelaw14_alive.calls true _ rfl).mono ?_
    rintro e w1 ⟨rfl, hB⟩
    have HB := Lib.hid hB
    clear hB
    go_wp2_with fail
    refine (blocks_in _ _ (by omega) (by omega)).mono ?_
    rintro e w2 ⟨rfl, rfl⟩
    rw [HQ.out]
    go_wp2_with fail
    refine (blocks_in _ _ (by omega) (by omega)).mono ?_
    rintro e w3 ⟨rfl, rfl⟩
    rw [HP.out]
    go_wp2_with fail
    go_ret
    exact ⟨rfl, HB.out⟩
  · have HD : Hid (q = p) := by show q = _; omega
    have e := HD.out
    subst e
    have hb : (n % 56 != 0) = true := by rw [bne_iff_ne]; exact hm
    clear hd
    clear hm
    go_enter Try.func4, Try.ntmps4
    go_wp2_with fail
    refine (morainelaw14_alive.calls true _ rfl).mono ?_
    rintro e w1 ⟨rfl, hB⟩
    have HB := Lib.hid hB
    clear hB
    go_wp2_with fail
    refine (blocks_in _ _ (by omega) (by omega)).mono ?_
    rintro e w2 ⟨rfl, rfl⟩
    rw [HQ.out]
    go_wp2_with fail
    refine (blocks_in _ _ (by omega) (by omega)).mono ?_
    rintro e w3 ⟨rfl, rfl⟩
    rw [HP.out]
    go_wp2_with fail
    go_ret
    exact ⟨rfl, HB.out⟩

theorem sizes (n : Int) (w : World) : Calls Try.prog 4 #[.int .i64 n] w fun e w' => e = .returned (.bool true) ∧ Below w.heap.size w w' := by
  by_cases h0 : n < 0
  · exact low n w h0
  by_cases h1 : 46368 < n
  · exact high n w h1
  by_cases h2 : n = 46368
  · subst h2; exact edge w
  exact mid n w (by omega) (by omega)
end Go.Proofs.Ythmfhhkedmloeaa.SizesWalk
namespace Go.Proofs.Ythmfhhkedmloeaa.PInodeSizes
open Go.RowKit
set_option linter.unusedVariables false
def morainelaw14_InodeSizes.f (n : Int) : Option Bool := some true
theorem morainelaw14_InodeSizes.calls (n : Int) (b : Bool) (w : World) (h : morainelaw14_InodeSizes.f n = some b) :
    Calls Try.prog 4 #[.int .i64 n] w fun e w' => e = .returned (.bool b) ∧ Below w.heap.size w w' := by
  cases h; exact SizesWalk.sizes n w
end Go.Proofs.Ythmfhhkedmloeaa.PInodeSizes
namespace Go.Proofs.Ythmfhhkedmloeaa.Pure
set_option linter.unusedVariables false
theorem InodeSizes (n : Int) (_ : (Lit.int .i64 n).wf = true) : PInodeSizes.morainelaw14_InodeSizes.f n = some true := rfl
end Go.Proofs.Ythmfhhkedmloeaa.Pure
