/- Plain laws over whole numbers and lists: PureUsageFree. -/
import Derived.Test.YtogdnolkheifcaaQUsageFreex
import Derived.Test.YtogdnolkheifcaaGivAlive09
import Derived.KernelRfl
import Derived.Laws.BitsLemmas
import Derived.Laws.BitsAllLaws
namespace Go.Proofs.Ytogdnolkheifcaa.Pure
open Go.RowKit Go.Proofs.Ytogdnolkheifcaa.PUsageFree Go.Proofs.Ytogdnolkheifcaa.Base Go.Proofs.Ytogdnolkheifcaa.Given Go.Proofs.YtogdnolkheifcaaW.PrintWords Go.Proofs.YtogdnolkheifcaaW.PrintLast Go.Proofs.YtogdnolkheifcaaW.PrintMore
set_option linter.unusedVariables false
set_option linter.unusedSimpArgs false
theorem rd_get {xs : List Int} {i : Nat} (h : i < xs.length) : rd xs (i : Int) = xs[i] := by simp [rd, h]
theorem rd_nat (xs : List Int) (i : Nat) : rd xs (i : Int) = xs.getD i 0 := by simp [rd]
theorem i64_bd {n : Int} (h : (Lit.int .i64 n).wf = true) : -9223372036854775808 ≤ n ∧ n ≤ 9223372036854775807 := by simpa [Lit.wf, IntKind.min, IntKind.max, IntKind.signed, IntKind.bits] using h
theorem countV_no {d r s : Int} {l : List Int} (h : ¬ (GR d r s ∧ okA (s * pl d r) l)) : countV d r s l = ([], false) := by unfold countV; rw [if_neg h]
theorem countV_yes {d r s : Int} {l : List Int} (h : GR d r s ∧ okA (s * pl d r) l) : countV d r s l = (cl (pl d r) s.toNat (dd l), true) := by unfold countV; rw [if_pos h]
theorem countV_len (d r s : Int) (l : List Int) : (countV d r s l).1.length ≤ 64 := by
  by_cases h : GR d r s ∧ okA (s * pl d r) l
  · rw [countV_yes h, cl_len]; have := h.1.1.s1; omega
  · rw [countV_no h]; simp
theorem count_eq {d r s : Int} {l : List Int} (h : ¬ 20000 < l.length) : usage_Count.f d r s l = some (countV d r s l) := by unfold usage_Count.f; rw [if_neg h]
theorem segP_pre (cs tk : List Int) (k j : Nat) : ∃ m, segP cs tk (k + j) = segP cs tk k ++ m := by
  induction j with
  | zero => exact ⟨[], by simp⟩
  | succ j ih =>
    obtain ⟨m, hm⟩ := ih
    refine ⟨m ++ if ((k + j : Nat) : Int) ∈ tk then [] else [(k + j, cs.getD (k + j) 0)], ?_⟩
    rw [← Nat.add_assoc, segP_succ, hm, List.append_assoc]
theorem fr_app (p q : List (Nat × Int)) : fr (p ++ q) = fr p ++ fr q := by simp [fr]
/-- What a segment brings to the free ones. -/
theorem fr_step (cs tk : List Int) (s : Nat) : fr (segP cs tk (s + 1)) = fr (segP cs tk s) ++ if (cs.getD s 0 = 0) ∧ ¬ (s : Int) ∈ tk then [(s : Int)] else [] := by
  rw [segP_succ, fr_app]
  congr 1
  by_cases h : (s : Int) ∈ tk
  · rw [if_pos h, if_neg (fun k => k.2 h)]; rfl
  · rw [if_neg h]
    by_cases h2 : cs.getD s 0 = 0
    · rw [if_pos ⟨h2, h⟩]; simp only [fr, List.filter_cons]; rw [if_pos (by simpa using h2)]; rfl
    · rw [if_neg (fun k => h2 k.1)]; simp only [fr, List.filter_cons]; rw [if_neg (by simpa using h2)]; rfl
theorem fr_seg_len (cs tk : List Int) (s : Nat) : (fr (segP cs tk s)).length ≤ s := Nat.le_trans (fr_len _) (segP_len cs tk s)
theorem free_inner (tk cs f : List Int) (hn : tk.length ≤ 100) (a0 a1 a2 : Int) (k0 s : Nat) (hs : s ≤ 64) (hk0 : k0 ≤ 64) (K : Nat)
    (hit_ : cs.getD s 0 = 0 ∧ ¬ (s : Int) ∈ tk → k0 < f.length ∧ f.getD k0 0 = (s : Int) ∧ ∀ k, K ≤ k → morainelaw09_UsageFree.l0 k tk cs f ((k0 + 1 : Nat) : Int) ((s + 1 : Nat) : Int) a0 a1 a2 = some true)
    (miss : ¬ (cs.getD s 0 = 0 ∧ ¬ (s : Int) ∈ tk) → ∀ k, K ≤ k → morainelaw09_UsageFree.l0 k tk cs f (k0 : Int) ((s + 1 : Nat) : Int) a0 a1 a2 = some true) :
    ∀ (d : Nat) (k i : Nat) (b : Bool), i + d = tk.length → K + d < k → (b = true ↔ cs.getD s 0 = 0 ∧ ¬ (s : Int) ∈ tk.take i) → morainelaw09_UsageFree.l1 k tk cs f (k0 : Int) (s : Int) b (i : Int) a0 a1 a2 = some true := by
  intro d
  induction d with
  | zero =>
    intro k i b hi hk hb
    obtain ⟨k, rfl⟩ : ∃ m, k = m + 1 := ⟨k - 1, by omega⟩
    simp only [morainelaw09_UsageFree.l1]
    rw [if_neg (by omega)]
    rw [List.take_of_length_le (by omega)] at hb
    cases b with
    | true =>
      obtain ⟨h1, h2, h3⟩ := hit_ (hb.1 rfl)
      rw [if_pos rfl, if_neg (by omega), if_pos (by omega), if_pos (by omega), rd_nat, h2, if_pos rfl, w64 (by omega) (by omega), w64 (by omega) (by omega)]
      exact h3 k (by omega)
    | false =>
      rw [if_neg (by simp), w64 (by omega) (by omega)]
      exact miss (fun h => by have := hb.2 h; cases this) k (by omega)
  | succ d ih =>
    intro k i b hi hk hb
    obtain ⟨k, rfl⟩ : ∃ m, k = m + 1 := ⟨k - 1, by omega⟩
    simp only [morainelaw09_UsageFree.l1]
    have et : tk.take (i + 1) = tk.take i ++ [tk[i]'(by omega)] := List.take_succ_eq_append_getElem (by omega)
    rw [if_pos (by omega), w64 (by omega) (by omega)]
    cases b with
    | true =>
      rw [if_pos rfl, if_pos (by omega), rd_get (show i < tk.length by omega)]
      refine ih k (i + 1) _ (by omega) (by omega) ?_
      have h1 := hb.1 rfl
      rw [et]
      simp only [bne_iff_ne, ne_eq, List.mem_append, List.mem_singleton, not_or]
      constructor
      · intro h; exact ⟨h1.1, h1.2, fun e => h e.symm⟩
      · intro h e; exact h.2.2 e.symm
    | false =>
      rw [if_neg (by simp)]
      refine ih k (i + 1) _ (by omega) (by omega) ?_
      constructor
      · intro h; cases h
      · intro h
        rw [et] at h
        exact hb.2 ⟨h.1, fun m => h.2 (List.mem_append_left _ m)⟩
theorem free_outer (tk cs : List Int) (S : Nat) (hS : S ≤ 64) (hc : cs.length = S) (hn : tk.length ≤ 100) (a0 a1 : Int) :
    ∀ (d : Nat) (k s : Nat), s + d = S → 200 + 200 * d ≤ k → morainelaw09_UsageFree.l0 k tk cs (fr (segP cs tk S)) ((fr (segP cs tk s)).length : Int) (s : Int) a0 a1 (S : Int) = some true := by
  intro d
  induction d with
  | zero =>
    intro k s hs hk
    obtain ⟨k, rfl⟩ : ∃ m, k = m + 1 := ⟨k - 1, by omega⟩
    obtain rfl : s = S := by omega
    simp only [morainelaw09_UsageFree.l0]
    rw [if_neg (by omega)]
    simp
  | succ d ih =>
    intro k s hs hk
    obtain ⟨k, rfl⟩ : ∃ m, k = m + 1 := ⟨k - 1, by omega⟩
    simp only [morainelaw09_UsageFree.l0]
    rw [if_pos (by omega), if_pos (by omega), if_pos (by omega)]
    have hl := fr_seg_len cs tk s
    have e := fr_step cs tk s
    obtain ⟨m, hm⟩ := segP_pre cs tk (s + 1) d
    have hS2 : fr (segP cs tk S) = fr (segP cs tk (s + 1)) ++ fr m := by rw [show S = s + 1 + d by omega, hm, fr_app]
    refine free_inner tk cs _ hn a0 a1 _ _ s (by omega) (by omega) (200 + 200 * d) (fun h => ?_) (fun h k hk => ?_) tk.length k 0 _ (by omega) (by omega) ?_
    · rw [if_pos h] at e
      refine ⟨?_, ?_, fun k hk => ?_⟩
      · rw [hS2, e]; simp
      · rw [hS2, e, List.getD_eq_getElem?_getD, List.append_assoc, List.getElem?_append_right (Nat.le_refl _)]
        simp
      · have := ih k (s + 1) (by omega) hk
        rw [e, List.length_append] at this
        exact this
    · rw [if_neg h, List.append_nil] at e
      have := ih k (s + 1) (by omega) hk
      rw [e] at this
      exact this
    · rw [rd_nat]; simp
theorem UsageFree (a0 a1 a2 : Int) (l1 l2 : List Int) (w0 : (Lit.int .i64 a0).wf = true) (w1 : (Lit.int .i64 a1).wf = true) (w2 : (Lit.int .i64 a2).wf = true) (hb1 : ∀ x ∈ l1, (Lit.int .i64 x).wf = true) (hs1 : l1.length * 8 ≤ 140737488351232) (hb2 : ∀ x ∈ l2, (Lit.int .i64 x).wf = true) (hs2 : l2.length * 8 ≤ 140737488351232) :
    ∃ k, morainelaw09_UsageFree.f k a0 a1 a2 l1 l2 = some true := by
  refine ⟨20001, ?_⟩
  unfold morainelaw09_UsageFree.f morainelaw09_alive.f
  rw [Option.bind_some, if_pos rfl]
  by_cases c : (l1.length : Int) > 5000
  · rw [if_pos c]; simp [morainelaw09_UsageFree.j0]
  rw [if_neg c]
  by_cases c2 : (l2.length : Int) > 100
  · rw [decide_eq_true c2]; simp [morainelaw09_UsageFree.j0]
  rw [decide_eq_false c2]
  simp only [morainelaw09_UsageFree.j0]
  rw [if_neg (by simp), count_eq (by omega), Option.bind_some]
  by_cases h : GR a0 a1 a2 ∧ okA (a2 * pl a0 a1) l1
  · rw [countV_yes h, if_pos rfl]
    unfold usage_Free.f freeV
    rw [if_pos h.1, Option.bind_some]
    have h0 := h.1.1.s0
    have h1 := h.1.1.s1
    obtain ⟨S, rfl⟩ : ∃ S : Nat, a2 = (S : Int) := ⟨a2.toNat, by omega⟩
    rw [Int.toNat_natCast]
    exact free_outer l2 _ S (by omega) (cl_len _ _ _) (by omega) a0 a1 S 20000 0 (by omega) (by omega)
  · rw [countV_no h, if_neg (by simp)]
end Go.Proofs.Ytogdnolkheifcaa.Pure
