/- super.NewestMember: by hand. -/
import Derived.Test.YtkpipmhcjjncdaaDoorGivMaxE
namespace Go.Proofs.YtkpipmhcjjncdaaDoor.Given
open Go.RowKit Go.Proofs.YtkpipmhcjjncdaaDoorW.PrintWords Go.Proofs.YtkpipmhcjjncdaaDoorW.PrintLast Go.Proofs.YtkpipmhcjjncdaaDoorW.PrintMore Go.Proofs.YtkpipmhcjjncdaaDoor.Base
set_option linter.unusedVariables false
set_option linter.unusedSimpArgs false
/-- The newest mark of some rows. -/
def newE (g : List Int → S25 × Bool) (l : List (List Int)) : S25 := topE (rd_T25 (toldE g l) 0) (toldE g l)
set_option maxHeartbeats 4000000 in
set_option maxRecDepth 100000 in
theorem newest_mem (g : List Int → S25 × Bool) (A : Option Addr) (c : Nat) (l : List (List Int)) (w : World) (hC : Kd.C (Kd.slice 5 (Kd.int .u8)) w A l.length l) (hl : l.length ≤ 1000000)
    (hg : ∀ b ∈ l, ∀ A0 c0 w0, Kd.C (Kd.int .u8) w0 A0 b.length b → b.length ≤ c0 → Calls Tryd.prog 13 #[.slice A0 b.length c0] w0 fun e w' => e = .returned (.tuple #[.agg #[.int .i64 (g b).1.f0, .int .i64 (g b).1.f1, .int .i64 (g b).1.f2], .bool (g b).2]) ∧ Below w0.heap.size w0 w')
    (hb : ∀ b ∈ l, (g b).2 = true → 0 ≤ (g b).1.f0 ∧ (g b).1.f0 ≤ 4294967296) :
    Calls Tryd.prog 28 #[.slice A l.length c] w fun e w' => e = .returned (.agg #[.int .i64 (newE g l).f0, .int .i64 (newE g l).f1, .int .i64 (newE g l).f2]) ∧ Below w.heap.size w w' := by
  have hu25 := Tryd.underlying25
  have HC := Lib.hid hC
  have HG := Lib.hid hg
  have hbx : ∀ x ∈ toldE g l, 0 ≤ x.f0 ∧ x.f0 ≤ 4294967296 := by
    intro x hx
    unfold toldE at hx
    obtain ⟨b, hbl, e⟩ := List.mem_filterMap.1 hx
    by_cases h : (g b).2 = true
    · rw [if_pos h] at e; cases e; exact hb b hbl h
    · rw [if_neg h] at e; cases e
  have HBX := Lib.hid hbx
  have htl : (toldE g l).length ≤ 1000000 := Nat.le_trans (toldE_len g l) hl
  obtain ⟨T, hT⟩ : ∃ T, toldE g l = T := ⟨_, rfl⟩
  have HN : Hid (newE g l = topE (rd_T25 T 0) T) := by show _ = _; rw [← hT]; rfl
  rw [hT] at htl HBX
  have HT := Lib.hid hT
  obtain ⟨⟨x0, p0, q0⟩, hx0⟩ : ∃ x0, rd_T25 T 0 = x0 := ⟨_, rfl⟩
  have HX0 := Lib.hid hx0
  clear hC hg hbx hb hT hx0
  go_enter Tryd.func28, Tryd.ntmps28
  go_wp2_with (first | ((with_reducible refine gate_dst (N := 2) rfl ?_); refine box_event ?hg (N := 2) ?hd (cs := #[.int .i64 0, .int .i64 0, .int .i64 0]) (t := 25) ?hr ?_; (case hd => rfl); (case hg => rfl); (case hr => first | (go_simp; done) | (go_simp; rfl)); intro g4 hg4 w1 hbox hb; have HB1 := Lib.hid hb; have BK4 := Lib.hid hbox; have HG4 := Lib.hid hg4; clear hb hbox hg4))
  refine (told_mem g A c l _ (Kd.C_below HC.out HB1.out) hl HG.out).mono ?_
  rintro e w2 ⟨v0, rfl, hR, hB⟩
  rw [HT.out] at hR
  obtain ⟨A3, c3, rfl⟩ := Kd.R_slice hR
  have HC3 := Lib.hid (Kd.R_reads' hR).2.2
  have HBK4 := Lib.hid (blk_below BK4.out hB)
  have HB2 := Lib.hid (below_step HB1.out hB)
  have HGE4 : Hid (w.heap.size ≤ g4) := by rw [HG4.out]; exact Nat.le_refl _
  clear hR hB
  have hc4 : w2.cell? ⟨g4, 0, none⟩ = some (.int .i64 0) := (blk_cell HBK4.out 0).trans rfl
  have hc41 : w2.cell? ⟨g4, 1, none⟩ = some (.int .i64 0) := (blk_cell HBK4.out 1).trans rfl
  have hc42 : w2.cell? ⟨g4, 2, none⟩ = some (.int .i64 0) := (blk_cell HBK4.out 2).trans rfl
  have hf4 := blk_frozen HBK4.out 0
  have hf41 := blk_frozen HBK4.out 1
  have hf42 := blk_frozen HBK4.out 2
  by_cases h0 : T.length = 0
  · have hT0 : T = [] := List.eq_nil_of_length_eq_zero h0
    subst hT0
    go_wp2
    refine bodyPost_ret (results_cell_row rfl _ _ g4 25 #[.int .i64 0, .int .i64 0, .int .i64 0] (0, 0) _ rfl (blk_put (blk_put (blk_put HBK4.out 0 _ rfl) 1 _ rfl) 2 _ rfl) Tryd.underlying25 rfl (by kernel_rfl)) rfl ?_
    exact ⟨by rw [HN.out]; rfl, below_set (below_set (below_set HB2.out HGE4.out) HGE4.out) HGE4.out⟩
  · have h1 : ((T.length : Int) == 0) = false := beq_eq_false_iff_ne.2 (by omega)
    have h2 : ¬ T = [] := fun e => h0 (by rw [e]; rfl)
    clear hc4 hc41 hc42 hf4 hf41 hf42
    go_wp2_with (go_at_call 43; refine (max_mem A3 c3 T x0 p0 q0 _ HC3.out (by omega) HX0.out HBX.out htl).mono ?_; rintro e w3 ⟨rfl, hB⟩; have HBK := Lib.hid (blk_below HBK4.out hB); have HB3 := Lib.hid (below_step HB2.out hB); have hc4 : w3.cell? ⟨g4, 0, none⟩ = some (.int .i64 0) := (blk_cell HBK.out 0).trans rfl; have hc41 : w3.cell? ⟨g4, 1, none⟩ = some (.int .i64 0) := (blk_cell HBK.out 1).trans rfl; have hc42 : w3.cell? ⟨g4, 2, none⟩ = some (.int .i64 0) := (blk_cell HBK.out 2).trans rfl; have hf4 := blk_frozen HBK.out 0; have hf41 := blk_frozen HBK.out 1; have hf42 := blk_frozen HBK.out 2; clear hB)
    refine bodyPost_ret (results_cell_row rfl _ _ g4 25 #[.int .i64 (topE ⟨x0, p0, q0⟩ T).f0, .int .i64 (topE ⟨x0, p0, q0⟩ T).f1, .int .i64 (topE ⟨x0, p0, q0⟩ T).f2] (0, 0) _ rfl (blk_put (blk_put (blk_put HBK.out 0 _ rfl) 1 _ rfl) 2 _ rfl) Tryd.underlying25 rfl (by kernel_rfl)) rfl ?_
    exact ⟨by rw [HN.out, HX0.out], below_set (below_set (below_set HB3.out HGE4.out) HGE4.out) HGE4.out⟩
end Go.Proofs.YtkpipmhcjjncdaaDoor.Given
