/- slices.MaxFunc at marks, with the order of super.NewestMark: by hand. -/
import Derived.Test.YtkpipmhcjjncdaaDoorGivTold
import Derived.Deep.RegionHeld3
import Derived.Deep.QuietTactic
import Derived.BigQuiet
namespace Go.Proofs.YtkpipmhcjjncdaaDoor.Given
open Go.RowKit Go.Proofs.YtkpipmhcjjncdaaDoorW.PrintWords Go.Proofs.YtkpipmhcjjncdaaDoorW.PrintLast Go.Proofs.YtkpipmhcjjncdaaDoorW.PrintMore Go.Proofs.YtkpipmhcjjncdaaDoor.Base
set_option linter.unusedVariables false
set_option linter.unusedSimpArgs false
set_option maxHeartbeats 1000000 in
theorem cmp_mark (a b : Int) (w : World) (h0 : 0 ≤ a) (h1 : a ≤ 4294967296) (h2 : 0 ≤ b) (h3 : b ≤ 4294967296) :
    Calls Tryd.prog 41 #[.agg #[.int .i64 a], .agg #[.int .i64 b]] w fun e w' => e = .returned (.int .i64 (a - b)) ∧ Below w.heap.size w w' := by
  have hu23 := Tryd.underlying23
  go_enter Tryd.func41, Tryd.ntmps41
  go_wp2
  go_ret
  exact ⟨rfl, ((Below.refl _ _).alloc (Nat.le_refl _) _).alloc (by simp) _⟩
theorem keepC {w w1 : World} {p : Addr} {v : Value} (h : w.cell? p = some v) (hb : Below w.heap.size w w1) : w1.cell? p = some v := pw_cell_below hb h
/-- The greatest of a list, the first of them. -/
def topM (m : Int) (l : List S23) : Int := l.foldl (fun m y => if m < y.f0 then y.f0 else m) m
theorem topM_snoc (m : Int) (l : List S23) (y : S23) : topM m (l ++ [y]) = if topM m l < y.f0 then y.f0 else topM m l := by unfold topM; rw [List.foldl_append]; rfl
theorem topM_bd (m : Int) (h : 0 ≤ m ∧ m ≤ 4294967296) : ∀ l : List S23, (∀ x ∈ l, 0 ≤ x.f0 ∧ x.f0 ≤ 4294967296) → 0 ≤ topM m l ∧ topM m l ≤ 4294967296 := by
  intro l
  induction l generalizing m with
  | nil => intro _; exact h
  | cons y l ih =>
    intro hl
    refine ih (if m < y.f0 then y.f0 else m) ?_ (fun x hx => hl x (List.mem_cons_of_mem _ hx))
    have := hl y List.mem_cons_self
    split <;> omega
set_option maxHeartbeats 4000000 in
set_option maxRecDepth 100000 in
theorem max_mark (A : Option Addr) (c : Nat) (xs : List S23) (x0 : Int) (w : World) (hC : Kd.C k23 w A xs.length xs) (hn : 0 < xs.length) (hx0 : (rd_T23 xs 0).f0 = x0) (hbd : ∀ x ∈ xs, 0 ≤ x.f0 ∧ x.f0 ≤ 4294967296) (hlen : xs.length ≤ 1000000) :
    Calls Tryd.prog 40 #[.slice A xs.length c, .func (.func 41) #[] #[]] w fun e w' => e = .returned (.agg #[.int .i64 (topM x0 xs)]) ∧ Below w.heap.size w w' := by
  have hu23 := Tryd.underlying23
  have HBD := Lib.hid hbd
  obtain ⟨ad, rfl, hcell⟩ := at_T23 hC 0 (by omega) (by omega)
  rw [hx0] at hcell
  have hcell : w.cell? ad = some (.int .i64 x0) := by simpa [Addr.add] using hcell
  have HC := Lib.hid hC
  have HX0 := Lib.hid hx0
  have hl1 : decide ((xs.length : Int) < 1) = false := decide_eq_false (by omega)
  have hl2 : ¬ (xs.length : Int) < 1 := by omega
  have hx0b : Hid (0 ≤ x0 ∧ x0 ≤ 4294967296) := by
    show _ ∧ _
    have := hbd (xs[0]'hn) (List.getElem_mem _)
    rw [← hx0]
    simpa [rd_T23, hn] using this
  clear hC hbd hx0
  have hz1 : (0 : Int) < (xs.length : Int) := by omega
  go_enter Tryd.func40, Tryd.ntmps40
  go_wp2_with (first | ((with_reducible refine gate_dst (N := 4) rfl ?_); refine box_event ?hg (N := 4) ?hd (cs := #[.int .i64 0]) (t := 23) ?hr ?_; (case hd => rfl); (case hg => rfl); (case hr => first | (go_simp; done) | (go_simp; rfl)); intro g4 hg4 w1 hbox hb; have HB1 := Lib.hid hb; have BK4 := Lib.hid hbox; have HG4 := Lib.hid hg4; have hcell1 := keepC hcell hb; clear hb hbox hg4) | ((with_reducible refine gate_dst (N := 5) rfl ?_); refine box_event ?hg (N := 5) ?hd (cs := #[.int .i64 0]) (t := 23) ?hr ?_; (case hd => rfl); (case hg => rfl); (case hr => first | (go_simp; done) | (go_simp; rfl)); intro g5 hg5 w2 hbox hb; have HB2 := Lib.hid hb; have BK5 := Lib.hid hbox; have HG5 := Lib.hid hg5; have hcell2 := keepC hcell1 hb; have hc5 := blk_cell BK5.out 0; have hf5 := blk_frozen BK5.out 0; simp only [List.getElem?_toArray, List.getElem?_cons_zero] at hc5; clear hb hbox hg5))
  have HN45 : Hid (g4 ≠ g5) := by show _ ≠ _; have := blk_lt BK4.out; rw [HG5.out]; omega
  have HBK4 : Hid (w2.heap[g4]? = some (.cells #[.int .i64 0] 23 (0, 0))) := blk_below BK4.out HB2.out
  have HB : Hid (Below w.heap.size w w2) := below_step HB1.out HB2.out
  have HGE4 : Hid (w.heap.size ≤ g4) := by rw [HG4.out]; exact Nat.le_refl _
  have HGE5 : Hid (w.heap.size ≤ g5) := by rw [HG5.out]; exact HB1.out.size
  clear hcell hcell1 hcell2 hc5 hf5
  go_loopw [6] (fun i wr => ∃ (j : Nat) (m : Int), 1 ≤ j ∧ j ≤ xs.length ∧ i = .int .i64 j ∧ Hid (m = topM x0 (xs.take j)) ∧ Hid (wr.heap[g4]? = some (.cells #[.int .i64 0] 23 (0, 0))) ∧ Hid (wr.heap[g5]? = some (.cells #[.int .i64 m] 23 (0, 0))) ∧ Hid (Below w.heap.size w wr)) (fun i _ => xs.length - (intOf i).toNat)
  case atStart =>
    refine ⟨1, x0, Nat.le_refl _, hn, rfl, ?_, ?_, ?_, ?_⟩
    · show _ = _
      have e : xs.take 1 = [xs[0]'hn] := by rw [List.take_succ_eq_append_getElem hn]; simp
      have e2 : (xs[0]'hn).f0 = x0 := by rw [← HX0.out]; simp [rd_T23, hn]
      rw [e]
      simp [topM, e2]
    · exact Lib.hid (blk_far HBK4.out HN45.out _)
    · exact Lib.hid (blk_put BK5.out 0 _ rfl)
    · exact Lib.hid (below_set HB.out HGE5.out)
  case round =>
    obtain ⟨j, m, hj1, hj, rfl, HM, BK4, BK5, HB⟩ := hrel
    by_cases hlt : j < xs.length
    · have hlt' : (j : Int) < (xs.length : Int) := by omega
      obtain ⟨ad', e', hcell0⟩ := at_T23 HC.out (j : Int) (by omega) hlt'
      cases e'
      obtain ⟨y, hy⟩ : ∃ y, (rd_T23 xs (j : Int)).f0 = y := ⟨_, rfl⟩
      rw [hy, Int.toNat_natCast] at hcell0
      have hyx : (xs[j]'hlt).f0 = y := by rw [← hy]; simp [rd_T23, hlt]
      have hyb := HBD.out _ (List.getElem_mem hlt)
      rw [hyx] at hyb
      have hmb := topM_bd x0 hx0b.out (xs.take j) (fun x hx => HBD.out x (List.mem_of_mem_take hx))
      rw [← HM.out] at hmb
      have HTK : Hid (topM x0 (xs.take (j + 1)) = if m < y then y else m) := by
        show _ = _
        rw [List.take_succ_eq_append_getElem hlt, topM_snoc, hyx, ← HM.out]
      have HCELL : Hid (∀ w', Below w.heap.size w w' → w'.cell? (ad.add j) = some (.int .i64 y)) := fun w' hb => pw_cell_below hb hcell0
      have hcell := HCELL.out _ HB.out
      have hc5 : wr.cell? ⟨g5, 0, none⟩ = some (.int .i64 m) := (blk_cell BK5.out 0).trans rfl
      obtain ⟨hyb0, hyb1⟩ := hyb
      obtain ⟨hmb0, hmb1⟩ := hmb
      have hlx : (xs.length : Int) ≤ 1000000 := by omega
      clear hy hyx hcell0
      by_cases hgt : m < y
      · have hgb : decide (0 < y - m) = true := decide_eq_true (by omega)
        have hgb2 : decide (m < y) = true := decide_eq_true hgt
        have HGT := Lib.hid hgt
        clear hgt
        go_wp2_with fail
        go_region_held3 (fun w' => Below w.heap.size w w' ∧ w'.heap[g4]? = some (.cells #[.int .i64 0] 23 (0, 0)) ∧ w'.heap[g5]? = some (.cells #[.int .i64 m] 23 (0, 0)) ∧ w'.cell? (ad.add j) = some (.int .i64 y) ∧ w'.cell? ⟨g5, 0, none⟩ = some (.int .i64 m)) ((repeat' apply And.intro) <;> first | assumption | exact below_drew HB.out | exact BK4.out | exact BK5.out | (simp only [World.cell?_drew]; assumption))
          (first | (go_at_call 41; obtain ⟨Z0, Z1, Z2, Z3, Z4⟩ := ‹Below w.heap.size w _ ∧ _›; refine (cmp_mark y m _ hyb0 hyb1 hmb0 hmb1).mono ?_; rintro e w' ⟨rfl, hb⟩; have Y0 := below_step Z0 hb; have Y1 := blk_below Z1 hb; have Y2 := blk_below Z2 hb; have Y3 := keepC Z3 hb; have Y4 := keepC Z4 hb))
        obtain ⟨Z0, Z1, Z2, Z3, Z4⟩ := ‹Below w.heap.size w _ ∧ _›
        have HZ0 := Lib.hid Z0
        have HZ1 := Lib.hid Z1
        have HZ2 := Lib.hid Z2
        have hf5 := blk_frozen Z2 0
        clear Z0 Z1 Z2 hc5 hcell
        go_wp2
        go_roundw
        case rel => exact ⟨j + 1, y, by omega, by omega, by go_num, by rw [HTK.out, if_pos HGT.out]; exact Lib.hid rfl, Lib.hid (blk_far HZ1.out HN45.out _), Lib.hid (blk_put HZ2.out 0 _ rfl), Lib.hid (below_set HZ0.out HGE5.out)⟩
        case measure => simp [intOf]; omega
      · have hgb : decide (0 < y - m) = false := decide_eq_false (by omega)
        have hgb2 : decide (m < y) = false := decide_eq_false hgt
        have HGT := Lib.hid hgt
        clear hgt
        go_wp2_with fail
        go_region_held3 (fun w' => Below w.heap.size w w' ∧ w'.heap[g4]? = some (.cells #[.int .i64 0] 23 (0, 0)) ∧ w'.heap[g5]? = some (.cells #[.int .i64 m] 23 (0, 0)) ∧ w'.cell? (ad.add j) = some (.int .i64 y) ∧ w'.cell? ⟨g5, 0, none⟩ = some (.int .i64 m)) ((repeat' apply And.intro) <;> first | assumption | exact below_drew HB.out | exact BK4.out | exact BK5.out | (simp only [World.cell?_drew]; assumption))
          (first | (go_at_call 41; obtain ⟨Z0, Z1, Z2, Z3, Z4⟩ := ‹Below w.heap.size w _ ∧ _›; refine (cmp_mark y m _ hyb0 hyb1 hmb0 hmb1).mono ?_; rintro e w' ⟨rfl, hb⟩; have Y0 := below_step Z0 hb; have Y1 := blk_below Z1 hb; have Y2 := blk_below Z2 hb; have Y3 := keepC Z3 hb; have Y4 := keepC Z4 hb))
        obtain ⟨Z0, Z1, Z2, Z3, Z4⟩ := ‹Below w.heap.size w _ ∧ _›
        have HZ0 := Lib.hid Z0
        have HZ1 := Lib.hid Z1
        have HZ2 := Lib.hid Z2
        clear Z0 Z1 Z2 hc5 hcell
        go_wp2
        go_roundw
        case rel => exact ⟨j + 1, m, by omega, by omega, by go_num, by rw [HTK.out, if_neg (Int.not_lt.2 HGT.out)]; exact Lib.hid rfl, HZ1, HZ2, HZ0⟩
        case measure => simp [intOf]; omega
    · obtain rfl : j = xs.length := by omega
      rw [List.take_length] at HM
      have hc5 : wr.cell? ⟨g5, 0, none⟩ = some (.int .i64 m) := (blk_cell BK5.out 0).trans rfl
      have hc4 : wr.cell? ⟨g4, 0, none⟩ = some (.int .i64 0) := (blk_cell BK4.out 0).trans rfl
      have hf4 := blk_frozen BK4.out 0
      go_wp2
      refine bodyPost_ret (results_cell_row rfl _ _ g4 23 #[.int .i64 m] (0, 0) _ rfl (blk_put BK4.out 0 _ rfl) Tryd.underlying23 rfl (by kernel_rfl)) rfl ?_
      exact ⟨by rw [← HM.out], below_set HB.out HGE4.out⟩
end Go.Proofs.YtkpipmhcjjncdaaDoor.Given
