/- Plain laws over whole numbers and lists: PureInodePaths. -/
import Derived.Test.YthmfhhkedmloeaaQInodePathsx1
import Derived.KernelRfl
import Derived.Laws.BitsLemmas
import Derived.Laws.BitsAllLaws
namespace Go.Proofs.Ythmfhhkedmloeaa.Pure
open Go.RowKit Go.Proofs.Ythmfhhkedmloeaa.PInodePaths Go.Proofs.Ythmfhhkedmloeaa.Given Go.Proofs.YthmfhhkedmloeaaW.PrintWords Go.Proofs.YthmfhhkedmloeaaW.PrintLast Go.Proofs.YthmfhhkedmloeaaW.PrintMore
set_option linter.unusedVariables false
set_option linter.unusedSimpArgs false
theorem w64 {n : Int} (h0 : -9223372036854775808 ≤ n) (h1 : n ≤ 9223372036854775807) : wrap64 n = n := by unfold wrap64; omega
theorem i64_bd {n : Int} (h : (Lit.int .i64 n).wf = true) : -9223372036854775808 ≤ n ∧ n ≤ 9223372036854775807 := by simpa [Lit.wf, IntKind.min, IntKind.max, IntKind.signed, IntKind.bits] using h
def pathV (x : Int) : Int × Int × Int × Bool := if x < 0 ∨ 828 ≤ x then (0, 0, 0, false) else if x < 16 then (0, x, 0, true) else if x < 44 then (1, x - 16, 0, true) else (2, (x - 44) / 28, (x - 44) % 28, true)
theorem path_eq (k : Nat) (x : Int) : inode_Path.f (k + 1) x = some (pathV x) := by
  unfold inode_Path.f pathV
  by_cases h0 : x < 0
  · rw [if_pos h0, if_pos (.inl h0)]; simp [inode_Path.j0]
  rw [if_neg h0]
  by_cases h1 : 828 ≤ x
  · rw [if_pos (.inr h1), decide_eq_true h1]; simp [inode_Path.j0]
  rw [if_neg (by omega), decide_eq_false (by omega)]
  simp only [inode_Path.j0]
  rw [if_neg (by simp)]
  by_cases h2 : x < 16
  · rw [if_pos h2, if_pos h2]
  rw [if_neg h2, if_neg h2]
  by_cases h3 : x < 44
  · rw [if_pos h3, if_pos h3, w64 (by omega) (by omega)]
  rw [if_neg h3, if_neg h3, w64 (n := x - 44) (by omega) (by omega), Int.tdiv_eq_ediv_of_nonneg (by omega), Int.tmod_eq_emod_of_nonneg (by omega), w64 (by omega) (by omega)]
theorem tail_eq (a b l x y m p q : Int) (c : Bool) (h : c = true → (a = b ↔ (l = m ∧ x = p ∧ y = q))) :
    (if c = true then (if l = m then (if x = p then (some ((a == b) == (y == q))) else (some ((a == b) == false))) else (some ((a == b) == false))) else (some true)) = some true := by
  cases c with
  | false => rfl
  | true =>
    have h := h rfl
    rw [if_pos rfl]
    by_cases h1 : l = m
    · rw [if_pos h1]
      by_cases h2 : x = p
      · rw [if_pos h2]
        have : (a == b) = (y == q) := by
          rw [Bool.eq_iff_iff, beq_iff_eq, beq_iff_eq, h]
          exact ⟨fun e => e.2.2, fun e => ⟨h1, h2, e⟩⟩
        rw [this]; simp
      · rw [if_neg h2]
        have : (a == b) = false := by rw [beq_eq_false_iff_ne]; intro e; exact h2 (h.1 e).2.1
        rw [this]; rfl
    · rw [if_neg h1]
      have : (a == b) = false := by rw [beq_eq_false_iff_ne]; intro e; exact h1 (h.1 e).1
      rw [this]; rfl
theorem pathV_cases (x : Int) : ((x < 0 ∨ 828 ≤ x) ∧ pathV x = (0, 0, 0, false)) ∨ ((0 ≤ x ∧ x < 16) ∧ pathV x = (0, x, 0, true)) ∨ ((16 ≤ x ∧ x < 44) ∧ pathV x = (1, x - 16, 0, true)) ∨ ((44 ≤ x ∧ x < 828) ∧ pathV x = (2, (x - 44) / 28, (x - 44) % 28, true)) := by
  unfold pathV
  by_cases h0 : x < 0 ∨ 828 ≤ x
  · rw [if_pos h0]; exact .inl ⟨h0, rfl⟩
  rw [if_neg h0]
  by_cases h2 : x < 16
  · rw [if_pos h2]; exact .inr (.inl ⟨by omega, rfl⟩)
  rw [if_neg h2]
  by_cases h3 : x < 44
  · rw [if_pos h3]; exact .inr (.inr (.inl ⟨by omega, rfl⟩))
  rw [if_neg h3]; exact .inr (.inr (.inr ⟨by omega, rfl⟩))
theorem InodePaths : morainelaw14_InodePaths.Pure := by
  intro a b _ _
  refine ⟨1, ?_⟩
  unfold morainelaw14_InodePaths.f
  rw [show morainelaw14_alive.f = some true from rfl]
  simp only [Option.bind_some]
  rw [if_pos trivial, path_eq 0, path_eq 0]
  simp only [Option.bind_some]
  obtain ⟨m, p, q, c, hb⟩ : ∃ m p q c, pathV b = (m, p, q, c) := ⟨_, _, _, _, rfl⟩
  have hc : c = true → (((0 ≤ b ∧ b < 16) ∧ m = 0 ∧ p = b ∧ q = 0) ∨ ((16 ≤ b ∧ b < 44) ∧ m = 1 ∧ p = b - 16 ∧ q = 0) ∨ ((44 ≤ b ∧ b < 828) ∧ m = 2 ∧ p = (b - 44) / 28 ∧ q = (b - 44) % 28)) := by
    intro hc
    rcases pathV_cases b with ⟨h, e⟩ | ⟨h, e⟩ | ⟨h, e⟩ | ⟨h, e⟩ <;> rw [hb] at e <;> simp only [Prod.mk.injEq] at e
    · rw [hc] at e; simp at e
    · exact .inl ⟨h, e.1, e.2.1, e.2.2.1⟩
    · exact .inr (.inl ⟨h, e.1, e.2.1, e.2.2.1⟩)
    · exact .inr (.inr ⟨h, e.1, e.2.1, e.2.2.1⟩)
  rw [hb]
  simp only
  rcases pathV_cases a with ⟨h, e⟩ | ⟨h, e⟩ | ⟨h, e⟩ | ⟨h, e⟩ <;> rw [e] <;> simp only
  · rw [if_neg (by simp)]
    by_cases h0 : a < 0
    · rw [if_pos h0]
    · rw [if_neg h0, decide_eq_true (by omega)]
  · rw [if_pos trivial, if_neg (by omega), if_neg (by omega), if_pos trivial, if_neg (by omega), if_neg (by omega), if_neg (by omega)]
    exact tail_eq _ _ _ _ _ _ _ _ _ (fun hh => by have := hc hh; omega)
  · rw [if_pos trivial, if_neg (by omega), if_neg (by omega), if_neg (by omega), if_pos (by omega), if_neg (by omega), if_neg (by omega), if_neg (by omega), if_neg (by omega)]
    exact tail_eq _ _ _ _ _ _ _ _ _ (fun hh => by have := hc hh; omega)
  · rw [if_pos trivial, if_neg (by omega), if_neg (by omega), if_neg (by omega), if_pos (by omega), if_neg (by omega), if_neg (by omega), if_neg (by omega), if_neg (by omega)]
    exact tail_eq _ _ _ _ _ _ _ _ _ (fun hh => by have := hc hh; omega)
end Go.Proofs.Ythmfhhkedmloeaa.Pure
