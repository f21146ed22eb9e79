/- super.NewestMark: by hand. -/
import Derived.Test.YtkpipmhcjjncdaaDoorGivMax
namespace Go.Proofs.YtkpipmhcjjncdaaDoor.Given
open Go.RowKit Go.Proofs.YtkpipmhcjjncdaaDoorW.PrintWords Go.Proofs.YtkpipmhcjjncdaaDoorW.PrintLast Go.Proofs.YtkpipmhcjjncdaaDoorW.PrintMore Go.Proofs.YtkpipmhcjjncdaaDoor.Base
set_option linter.unusedVariables false
set_option linter.unusedSimpArgs false
/-- The newest mark of some rows. -/
def newM (g : List Int → Int × Bool) (l : List (List Int)) : Int := topM (rd_T23 (toldM g l) 0).f0 (toldM g l)
set_option maxHeartbeats 4000000 in
set_option maxRecDepth 100000 in
theorem newest_mark (g : List Int → Int × Bool) (A : Option Addr) (c : Nat) (l : List (List Int)) (w : World) (hC : Kd.C (Kd.slice 5 (Kd.int .u8)) w A l.length l) (hl : l.length ≤ 1000000)
    (hg : ∀ b ∈ l, ∀ A0 c0 w0, Kd.C (Kd.int .u8) w0 A0 b.length b → b.length ≤ c0 → Calls Tryd.prog 11 #[.slice A0 b.length c0] w0 fun e w' => e = .returned (.tuple #[.agg #[.int .i64 (g b).1], .bool (g b).2]) ∧ Below w0.heap.size w0 w')
    (hb : ∀ b ∈ l, (g b).2 = true → 0 ≤ (g b).1 ∧ (g b).1 ≤ 4294967296) :
    Calls Tryd.prog 26 #[.slice A l.length c] w fun e w' => e = .returned (.agg #[.int .i64 (newM g l)]) ∧ Below w.heap.size w w' := by
  have hu23 := Tryd.underlying23
  have HC := Lib.hid hC
  have HG := Lib.hid hg
  have hbx : ∀ x ∈ toldM g l, 0 ≤ x.f0 ∧ x.f0 ≤ 4294967296 := by
    intro x hx
    unfold toldM at hx
    obtain ⟨b, hbl, e⟩ := List.mem_filterMap.1 hx
    by_cases h : (g b).2 = true
    · rw [if_pos h] at e; cases e; exact hb b hbl h
    · rw [if_neg h] at e; cases e
  have HBX := Lib.hid hbx
  have htl : (toldM g l).length ≤ 1000000 := Nat.le_trans (toldM_len g l) hl
  obtain ⟨T, hT⟩ : ∃ T, toldM g l = T := ⟨_, rfl⟩
  have HN : Hid (newM g l = topM (rd_T23 T 0).f0 T) := by show _ = _; rw [← hT]; rfl
  rw [hT] at htl HBX
  have HT := Lib.hid hT
  obtain ⟨x0, hx0⟩ : ∃ x0, (rd_T23 T 0).f0 = x0 := ⟨_, rfl⟩
  have HX0 := Lib.hid hx0
  clear hC hg hbx hb hT hx0
  go_enter Tryd.func26, Tryd.ntmps26
  go_wp2_with (first | ((with_reducible refine gate_dst (N := 2) rfl ?_); refine box_event ?hg (N := 2) ?hd (cs := #[.int .i64 0]) (t := 23) ?hr ?_; (case hd => rfl); (case hg => rfl); (case hr => first | (go_simp; done) | (go_simp; rfl)); intro g4 hg4 w1 hbox hb; have HB1 := Lib.hid hb; have BK4 := Lib.hid hbox; have HG4 := Lib.hid hg4; clear hb hbox hg4))
  refine (told_mark g A c l _ (Kd.C_below HC.out HB1.out) hl HG.out).mono ?_
  rintro e w2 ⟨v0, rfl, hR, hB⟩
  rw [HT.out] at hR
  obtain ⟨A3, c3, rfl⟩ := Kd.R_slice hR
  have HC3 := Lib.hid (Kd.R_reads' hR).2.2
  have HBK4 := Lib.hid (blk_below BK4.out hB)
  have HB2 := Lib.hid (below_step HB1.out hB)
  have HGE4 : Hid (w.heap.size ≤ g4) := by rw [HG4.out]; exact Nat.le_refl _
  clear hR hB
  have hc4 : w2.cell? ⟨g4, 0, none⟩ = some (.int .i64 0) := (blk_cell HBK4.out 0).trans rfl
  have hf4 := blk_frozen HBK4.out 0
  by_cases h0 : T.length = 0
  · have hT0 : T = [] := List.eq_nil_of_length_eq_zero h0
    subst hT0
    go_wp2
    refine bodyPost_ret (results_cell_row rfl _ _ g4 23 #[.int .i64 0] (0, 0) _ rfl (blk_put HBK4.out 0 _ rfl) Tryd.underlying23 rfl (by kernel_rfl)) rfl ?_
    exact ⟨by rw [HN.out]; rfl, below_set HB2.out HGE4.out⟩
  · have h1 : ((T.length : Int) == 0) = false := beq_eq_false_iff_ne.2 (by omega)
    have h2 : ¬ T = [] := fun e => h0 (by rw [e]; rfl)
    clear hc4 hf4
    go_wp2_with (go_at_call 40; refine (max_mark A3 c3 T x0 _ HC3.out (by omega) HX0.out HBX.out htl).mono ?_; rintro e w3 ⟨rfl, hB⟩; have HBK := Lib.hid (blk_below HBK4.out hB); have HB3 := Lib.hid (below_step HB2.out hB); have hc4 : w3.cell? ⟨g4, 0, none⟩ = some (.int .i64 0) := (blk_cell HBK.out 0).trans rfl; have hf4 := blk_frozen HBK.out 0; clear hB)
    refine bodyPost_ret (results_cell_row rfl _ _ g4 23 #[.int .i64 (topM x0 T)] (0, 0) _ rfl (blk_put HBK.out 0 _ rfl) Tryd.underlying23 rfl (by kernel_rfl)) rfl ?_
    exact ⟨by rw [HN.out, HX0.out], below_set HB3.out HGE4.out⟩
end Go.Proofs.YtkpipmhcjjncdaaDoor.Given
