/- Plain laws over whole numbers and lists: PureUsageLess. -/
import Derived.Test.YtogdnolkheifcaaQUsageLessx
import Derived.Test.YtogdnolkheifcaaGivAlive09
import Derived.KernelRfl
import Derived.Laws.BitsLemmas
import Derived.Laws.BitsAllLaws
namespace Go.Proofs.Ytogdnolkheifcaa.Pure
open Go.RowKit Go.Proofs.Ytogdnolkheifcaa.PUsageLess Go.Proofs.Ytogdnolkheifcaa.Base Go.Proofs.Ytogdnolkheifcaa.Given Go.Proofs.YtogdnolkheifcaaW.PrintWords Go.Proofs.YtogdnolkheifcaaW.PrintLast Go.Proofs.YtogdnolkheifcaaW.PrintMore
set_option linter.unusedVariables false
set_option linter.unusedSimpArgs false
theorem rd_get {xs : List Int} {i : Nat} (h : i < xs.length) : rd xs (i : Int) = xs[i] := by simp [rd, h]
theorem rd_nat (xs : List Int) (i : Nat) : rd xs (i : Int) = xs.getD i 0 := by simp [rd]
theorem i64_bd {n : Int} (h : (Lit.int .i64 n).wf = true) : -9223372036854775808 ≤ n ∧ n ≤ 9223372036854775807 := by simpa [Lit.wf, IntKind.min, IntKind.max, IntKind.signed, IntKind.bits] using h
theorem countV_no {d r s : Int} {l : List Int} (h : ¬ (GR d r s ∧ okA (s * pl d r) l)) : countV d r s l = ([], false) := by unfold countV; rw [if_neg h]
theorem countV_yes {d r s : Int} {l : List Int} (h : GR d r s ∧ okA (s * pl d r) l) : countV d r s l = (cl (pl d r) s.toNat (dd l), true) := by unfold countV; rw [if_pos h]
theorem countV_len (d r s : Int) (l : List Int) : (countV d r s l).1.length ≤ 64 := by
  by_cases h : GR d r s ∧ okA (s * pl d r) l
  · rw [countV_yes h, cl_len]; have := h.1.1.s1; omega
  · rw [countV_no h]; simp
theorem count_eq {d r s : Int} {l : List Int} (h : ¬ 20000 < l.length) : usage_Count.f d r s l = some (countV d r s l) := by unfold usage_Count.f; rw [if_neg h]
theorem filter_mono {α : Type} (p q : α → Bool) : ∀ (l : List α), (∀ x ∈ l, p x = true → q x = true) → (l.filter p).length ≤ (l.filter q).length
  | [], _ => by simp
  | x :: l, h => by
    have ih := filter_mono p q l (fun y hy => h y (List.mem_cons_of_mem _ hy))
    by_cases hp : p x = true
    · rw [List.filter_cons_of_pos hp, List.filter_cons_of_pos (h x (by simp) hp)]; simpa using ih
    · rw [List.filter_cons_of_neg hp]
      by_cases hq : q x = true
      · rw [List.filter_cons_of_pos hq]; simp; omega
      · rw [List.filter_cons_of_neg hq]; exact ih
theorem used_cl (D : Int) (S : Nat) (P : List Int) : used (cl D S P) = ((List.range S).filter fun k => decide (∃ x ∈ P, hit D k x = true)).length := by
  unfold used cl
  rw [List.filter_map, List.length_map]
  congr 1
  refine List.filter_congr fun k _ => ?_
  show decide (0 < ((P.filter (hit D k)).length : Int)) = _
  refine decide_eq_decide.2 ?_
  constructor
  · intro h
    have h0 : 0 < (P.filter (hit D k)).length := by omega
    obtain ⟨x, hx⟩ := List.exists_mem_of_length_pos h0
    exact ⟨x, (List.mem_filter.1 hx).1, (List.mem_filter.1 hx).2⟩
  · rintro ⟨x, hx, hh⟩
    have : 0 < (P.filter (hit D k)).length := List.length_pos_of_mem (List.mem_filter.2 ⟨hx, hh⟩)
    omega
theorem used_mono (D : Int) (S : Nat) {P Q : List Int} (h : ∀ x ∈ P, x ∈ Q) : used (cl D S P) ≤ used (cl D S Q) := by
  rw [used_cl, used_cl]
  refine filter_mono _ _ _ fun k _ hk => ?_
  obtain ⟨x, hx, hh⟩ := of_decide_eq_true hk
  exact decide_eq_true ⟨x, h x hx, hh⟩
theorem cl_nonneg (D : Int) (S : Nat) (P : List Int) : ∀ c ∈ cl D S P, 0 ≤ c := by
  intro c hc
  simp only [cl, List.mem_map] at hc
  obtain ⟨k, _, rfl⟩ := hc
  omega
theorem need_mono {D a b : Int} (hD : 1 ≤ D) (h : a ≤ b) : need D a ≤ need D b := by
  unfold need
  exact Int.ediv_le_ediv (by omega) (by omega)
theorem fitsV_mono {D S : Int} {cs ds : List Int} {old data more old' data' more' : Int} (hD : 1 ≤ D) (h : fitsV D S cs old data more = true) (hu : used ds ≤ used cs) (hd : ∀ c ∈ ds, 0 ≤ c) (h0 : 0 ≤ old' ∧ 0 ≤ data' ∧ 0 ≤ more') (h1 : old' ≤ old) (h2 : data' ≤ data) (h3 : more' ≤ more) : fitsV D S ds old' data' more' = true := by
  unfold fitsV at h ⊢
  simp only [Bool.and_eq_true, decide_eq_true_eq] at h ⊢
  obtain ⟨⟨⟨a1, a2, a3, a4, a5, a6⟩, _⟩, h4⟩ := h
  have m1 := need_mono hD h2
  have m2 := need_mono hD h3
  refine ⟨⟨⟨h0.1, h0.2.1, h0.2.2, by omega, by omega, by omega⟩, hd⟩, by omega⟩
theorem fits_eq {d r s : Int} {l : List Int} {old data more : Int} (h : l.length ≤ 64) : usage_Fits.f d r s l old data more = some (open Classical in if GR d r s then fitsV (pl d r) s l old data more else false) := by
  unfold usage_Fits.f
  rw [if_neg (by omega)]
theorem tdiv2 {a : Int} (h : 0 ≤ a) : Int.tdiv a 2 = a / 2 := Int.tdiv_eq_ediv_of_nonneg h
theorem UsageLess (a0 a1 a2 : Int) (l1 : List Int) (x y z : Int) (w0 : (Lit.int .i64 a0).wf = true) (w1 : (Lit.int .i64 a1).wf = true) (w2 : (Lit.int .i64 a2).wf = true) (hb1 : ∀ x ∈ l1, (Lit.int .i64 x).wf = true) (hs1 : l1.length * 8 ≤ 140737488351232) (wx : (Lit.int .i64 x).wf = true) (wy : (Lit.int .i64 y).wf = true) (wz : (Lit.int .i64 z).wf = true) :
    ∃ k, morainelaw09_UsageLess.f k a0 a1 a2 l1 x y z = some true := by
  refine ⟨2, ?_⟩
  unfold morainelaw09_UsageLess.f morainelaw09_alive.f
  rw [Option.bind_some, if_pos rfl]
  by_cases c : (l1.length : Int) > 5000
  · rw [if_pos c]
  rw [if_neg c, count_eq (by omega), Option.bind_some]
  have hl := countV_len a0 a1 a2 l1
  by_cases h : GR a0 a1 a2 ∧ okA (a2 * pl a0 a1) l1
  · rw [countV_yes h] at hl ⊢
    rw [if_pos rfl, fits_eq hl, if_pos h.1, Option.bind_some]
    by_cases hf : fitsV (pl a0 a1) a2 (cl (pl a0 a1) a2.toNat (dd l1)) x y z = true
    · rw [hf]
      simp only [morainelaw09_UsageLess.j0]
      have e2 : wrap64 ((l1.length : Int) / 2) = ((l1.length / 2 : Nat) : Int) := by rw [w64 (by omega) (by omega)]; omega
      rw [if_neg (by simp), e2, if_pos (by omega), if_pos (by omega), Int.toNat_natCast, count_eq (by rw [List.length_take]; omega), Option.bind_some]
      have h2 : GR a0 a1 a2 ∧ okA (a2 * pl a0 a1) (l1.take (l1.length / 2)) := ⟨h.1, fun v hv => h.2 v (List.mem_of_mem_take hv)⟩
      have hp := pl_bd h.1.1
      have hq := hf
      unfold fitsV at hq
      simp only [Bool.and_eq_true, decide_eq_true_eq] at hq
      obtain ⟨⟨⟨q1, q2, q3, q4, q5, q6⟩, _⟩, _⟩ := hq
      rw [tdiv2 q1, tdiv2 q2, tdiv2 q3, w64 (n := x / 2) (by omega) (by omega), w64 (n := y / 2) (by omega) (by omega), w64 (n := z / 2) (by omega) (by omega)]
      have g1 : fitsV (pl a0 a1) a2 (cl (pl a0 a1) a2.toNat (dd (l1.take (l1.length / 2)))) (x / 2) y z = true := fitsV_mono hp.1 hf (used_mono _ _ fun v hv => (mem_dd _ _).2 (List.mem_of_mem_take ((mem_dd _ _).1 hv))) (cl_nonneg _ _ _) ⟨by omega, by omega, by omega⟩ (by omega) (Int.le_refl _) (Int.le_refl _)
      have g2 : fitsV (pl a0 a1) a2 (cl (pl a0 a1) a2.toNat (dd l1)) x (y / 2) z = true := fitsV_mono hp.1 hf (Nat.le_refl _) (cl_nonneg _ _ _) ⟨by omega, by omega, by omega⟩ (Int.le_refl _) (by omega) (Int.le_refl _)
      have g3 : fitsV (pl a0 a1) a2 (cl (pl a0 a1) a2.toNat (dd l1)) x y (z / 2) = true := fitsV_mono hp.1 hf (Nat.le_refl _) (cl_nonneg _ _ _) ⟨by omega, by omega, by omega⟩ (Int.le_refl _) (Int.le_refl _) (by omega)
      have hl2 := countV_len a0 a1 a2 (l1.take (l1.length / 2))
      rw [countV_yes h2] at hl2 ⊢
      rw [fits_eq hl2, if_pos h.1, Option.bind_some, g1, if_pos rfl, fits_eq hl, if_pos h.1, Option.bind_some, g2, if_pos rfl, fits_eq hl, if_pos h.1, Option.bind_some, g3]
    · rw [Bool.not_eq_true] at hf
      rw [hf]
      simp [morainelaw09_UsageLess.j0]
  · rw [countV_no h, if_neg (by simp)]
    simp [morainelaw09_UsageLess.j0]
end Go.Proofs.Ytogdnolkheifcaa.Pure
