/- slices.MaxFunc at members, with the order of super.NewestMember: by hand. -/
import Derived.Test.YtkpipmhcjjncdaaDoorGivToldE
import Derived.Deep.RegionHeld3
import Derived.Deep.QuietTactic
import Derived.BigQuiet
namespace Go.Proofs.YtkpipmhcjjncdaaDoor.Given
open Go.RowKit Go.Proofs.YtkpipmhcjjncdaaDoorW.PrintWords Go.Proofs.YtkpipmhcjjncdaaDoorW.PrintLast Go.Proofs.YtkpipmhcjjncdaaDoorW.PrintMore Go.Proofs.YtkpipmhcjjncdaaDoor.Base
set_option linter.unusedVariables false
set_option linter.unusedSimpArgs false
set_option maxHeartbeats 1000000 in
theorem cmp_mem (a b a1 a2 b1 b2 : Int) (w : World) (h0 : 0 ≤ a) (h1 : a ≤ 4294967296) (h2 : 0 ≤ b) (h3 : b ≤ 4294967296) :
    Calls Tryd.prog 44 #[.agg #[.int .i64 a, .int .i64 a1, .int .i64 a2], .agg #[.int .i64 b, .int .i64 b1, .int .i64 b2]] w fun e w' => e = .returned (.int .i64 (a - b)) ∧ Below w.heap.size w w' := by
  have hu25 := Tryd.underlying25
  go_enter Tryd.func44, Tryd.ntmps44
  go_wp2
  go_ret
  exact ⟨rfl, ((Below.refl _ _).alloc (Nat.le_refl _) _).alloc (by simp) _⟩
/-- The greatest of a list, the first of them. -/
def topE (m : S25) (l : List S25) : S25 := l.foldl (fun m y => if m.f0 < y.f0 then y else m) m
theorem topE_snoc (m : S25) (l : List S25) (y : S25) : topE m (l ++ [y]) = if (topE m l).f0 < y.f0 then y else topE m l := by unfold topE; rw [List.foldl_append]; rfl
theorem topE_bd (m : S25) (h : 0 ≤ m.f0 ∧ m.f0 ≤ 4294967296) : ∀ l : List S25, (∀ x ∈ l, 0 ≤ x.f0 ∧ x.f0 ≤ 4294967296) → 0 ≤ (topE m l).f0 ∧ (topE m l).f0 ≤ 4294967296 := by
  intro l
  induction l generalizing m with
  | nil => intro _; exact h
  | cons y l ih =>
    intro hl
    refine ih (if m.f0 < y.f0 then y else m) ?_ (fun x hx => hl x (List.mem_cons_of_mem _ hx))
    have := hl y List.mem_cons_self
    split <;> omega
theorem row3_of_C {w : World} {A : Option Addr} {n : Nat} {xs : List S25} (h : Kd.C k25 w A n xs) (h0 : 0 < n) : ∃ b off, A = some ⟨b, off, none⟩ ∧ ∀ j, j < n → w.cell? ⟨b, off + j * 3, none⟩ = some (.int .i64 (rd_T25 xs (j : Int)).f0) ∧ w.cell? ⟨b, off + j * 3 + 1, none⟩ = some (.int .i64 (rd_T25 xs (j : Int)).f1) ∧ w.cell? ⟨b, off + j * 3 + 2, none⟩ = some (.int .i64 (rd_T25 xs (j : Int)).f2) := by
  obtain ⟨ad, rfl, h1, _⟩ := at_T25 h 0 (by omega) (by omega)
  have a0 : ad.add ((0 : Int).toNat * 3) = ad := by simp [Addr.add]
  rw [a0] at h1
  have hs : ad.spot = none := by
    cases hsp : ad.spot with
    | none => rfl
    | some s =>
      exfalso
      unfold World.cell? at h1
      split at h1
      · rw [hsp] at h1; simp at h1
      · cases h1
  obtain ⟨b, off, sp⟩ := ad
  simp only at hs
  subst hs
  refine ⟨b, off, rfl, fun j hj => ?_⟩
  obtain ⟨ad', e, k1, k2, k3⟩ := at_T25 h (j : Int) (by omega) (by omega)
  cases e
  have e1 : (⟨b, off, none⟩ : Addr).add ((j : Int).toNat * 3) = ⟨b, off + j * 3, none⟩ := by rw [Int.toNat_natCast]; unfold Addr.add; split <;> simp_all
  rw [e1] at k1 k2 k3
  exact ⟨k1, k2, k3⟩
set_option maxHeartbeats 4000000 in
set_option maxRecDepth 100000 in
theorem max_mem (A : Option Addr) (c : Nat) (xs : List S25) (x0 p0 q0 : Int) (w : World) (hC : Kd.C k25 w A xs.length xs) (hn : 0 < xs.length) (hx0 : rd_T25 xs 0 = ⟨x0, p0, q0⟩) (hbd : ∀ x ∈ xs, 0 ≤ x.f0 ∧ x.f0 ≤ 4294967296) (hlen : xs.length ≤ 1000000) :
    Calls Tryd.prog 43 #[.slice A xs.length c, .func (.func 44) #[] #[]] w fun e w' => e = .returned (.agg #[.int .i64 (topE ⟨x0, p0, q0⟩ xs).f0, .int .i64 (topE ⟨x0, p0, q0⟩ xs).f1, .int .i64 (topE ⟨x0, p0, q0⟩ xs).f2]) ∧ Below w.heap.size w w' := by
  have hu25 := Tryd.underlying25
  have HBD := Lib.hid hbd
  obtain ⟨b, off, rfl, hat⟩ := row3_of_C hC hn
  obtain ⟨hcell, hcelp, hcelq⟩ := hat 0 hn
  rw [show rd_T25 xs ((0 : Nat) : Int) = ⟨x0, p0, q0⟩ from hx0] at hcell hcelp hcelq
  simp only [Nat.zero_mul, Nat.add_zero] at hcell hcelp hcelq
  have HC := Lib.hid hC
  have HX0 := Lib.hid hx0
  have hl1 : decide ((xs.length : Int) < 1) = false := decide_eq_false (by omega)
  have hl2 : ¬ (xs.length : Int) < 1 := by omega
  have hx00 : xs[0]'hn = ⟨x0, p0, q0⟩ := by rw [← hx0]; simp [rd_T25, hn]
  have hx0b : Hid (0 ≤ (⟨x0, p0, q0⟩ : S25).f0 ∧ (⟨x0, p0, q0⟩ : S25).f0 ≤ 4294967296) := by
    show _ ∧ _
    have := hbd (xs[0]'hn) (List.getElem_mem _)
    rwa [hx00] at this
  have HX00 := Lib.hid hx00
  have HAT := Lib.hid hat
  clear hat hx00
  clear hC hbd hx0
  have hz1 : (0 : Int) < (xs.length : Int) := by omega
  go_enter Tryd.func43, Tryd.ntmps43
  go_wp2_with (first | ((with_reducible refine gate_dst (N := 4) rfl ?_); refine box_event ?hg (N := 4) ?hd (cs := #[.int .i64 0, .int .i64 0, .int .i64 0]) (t := 25) ?hr ?_; (case hd => rfl); (case hg => rfl); (case hr => first | (go_simp; done) | (go_simp; rfl)); intro g4 hg4 w1 hbox hb; have HB1 := Lib.hid hb; have BK4 := Lib.hid hbox; have HG4 := Lib.hid hg4; have hcell1 := keepC hcell hb; have hcelp1 := keepC hcelp hb; have hcelq1 := keepC hcelq hb; clear hb hbox hg4) | ((with_reducible refine gate_dst (N := 5) rfl ?_); refine box_event ?hg (N := 5) ?hd (cs := #[.int .i64 0, .int .i64 0, .int .i64 0]) (t := 25) ?hr ?_; (case hd => rfl); (case hg => rfl); (case hr => first | (go_simp; done) | (go_simp; rfl)); intro g5 hg5 w2 hbox hb; have HB2 := Lib.hid hb; have BK5 := Lib.hid hbox; have HG5 := Lib.hid hg5; have hcell2 := keepC hcell1 hb; have hcelp2 := keepC hcelp1 hb; have hcelq2 := keepC hcelq1 hb; have hc5 : w2.cell? ⟨g5, 0, none⟩ = some (.int .i64 0) := (blk_cell BK5.out 0).trans rfl; have hc51 : w2.cell? ⟨g5, 1, none⟩ = some (.int .i64 0) := (blk_cell BK5.out 1).trans rfl; have hc52 : w2.cell? ⟨g5, 2, none⟩ = some (.int .i64 0) := (blk_cell BK5.out 2).trans rfl; have hf5 := blk_frozen BK5.out 0; have hf51 := blk_frozen BK5.out 1; have hf52 := blk_frozen BK5.out 2; clear hb hbox hg5))
  have HN45 : Hid (g4 ≠ g5) := by show _ ≠ _; have := blk_lt BK4.out; rw [HG5.out]; omega
  have HBK4 : Hid (w2.heap[g4]? = some (.cells #[.int .i64 0, .int .i64 0, .int .i64 0] 25 (0, 0))) := blk_below BK4.out HB2.out
  have HB : Hid (Below w.heap.size w w2) := below_step HB1.out HB2.out
  have HGE4 : Hid (w.heap.size ≤ g4) := by rw [HG4.out]; exact Nat.le_refl _
  have HGE5 : Hid (w.heap.size ≤ g5) := by rw [HG5.out]; exact HB1.out.size
  clear hcell hcell1 hcell2 hcelp hcelp1 hcelp2 hcelq hcelq1 hcelq2 hc5 hc51 hc52 hf5 hf51 hf52
  go_loopw [6] (fun i wr => ∃ (j : Nat) (m1 m2 m3 : Int), 1 ≤ j ∧ j ≤ xs.length ∧ i = .int .i64 j ∧ Hid (⟨m1, m2, m3⟩ = topE ⟨x0, p0, q0⟩ (xs.take j)) ∧ Hid (wr.heap[g4]? = some (.cells #[.int .i64 0, .int .i64 0, .int .i64 0] 25 (0, 0))) ∧ Hid (wr.heap[g5]? = some (.cells #[.int .i64 m1, .int .i64 m2, .int .i64 m3] 25 (0, 0))) ∧ Hid (Below w.heap.size w wr)) (fun i _ => xs.length - (intOf i).toNat)
  case atStart =>
    refine ⟨1, x0, p0, q0, Nat.le_refl _, hn, rfl, ?_, ?_, ?_, ?_⟩
    · show _ = _
      have e : xs.take 1 = [xs[0]'hn] := by rw [List.take_succ_eq_append_getElem hn]; simp
      rw [e, HX00.out]
      simp [topE]
    · exact Lib.hid (blk_far (blk_far (blk_far HBK4.out HN45.out _) HN45.out _) HN45.out _)
    · exact Lib.hid (blk_put (blk_put (blk_put BK5.out 0 _ rfl) 1 _ rfl) 2 _ rfl)
    · exact Lib.hid (below_set (below_set (below_set HB.out HGE5.out) HGE5.out) HGE5.out)
  case round =>
    obtain ⟨j, m1, m2, m3, hj1, hj, rfl, HM, BK4, BK5, HB⟩ := hrel
    by_cases hlt : j < xs.length
    · have hlt' : (j : Int) < (xs.length : Int) := by omega
      obtain ⟨⟨y1, y2, y3⟩, hy⟩ : ∃ y, rd_T25 xs (j : Int) = y := ⟨_, rfl⟩
      have hat := HAT.out j hlt
      rw [hy] at hat
      obtain ⟨k1, k2, k3⟩ := hat
      have hyx : xs[j]'hlt = ⟨y1, y2, y3⟩ := by rw [← hy]; simp [rd_T25, hlt]
      have hyb := HBD.out _ (List.getElem_mem hlt)
      rw [hyx] at hyb
      have hmb := topE_bd ⟨x0, p0, q0⟩ hx0b.out (xs.take j) (fun x hx => HBD.out x (List.mem_of_mem_take hx))
      rw [← HM.out] at hmb
      have HTK : Hid (topE ⟨x0, p0, q0⟩ (xs.take (j + 1)) = if m1 < y1 then ⟨y1, y2, y3⟩ else ⟨m1, m2, m3⟩) := by
        show _ = _
        rw [List.take_succ_eq_append_getElem hlt, topE_snoc, hyx, ← HM.out]
      have HCELL : Hid (∀ w', Below w.heap.size w w' → w'.cell? ⟨b, off + j * 3, none⟩ = some (.int .i64 y1) ∧ w'.cell? ⟨b, off + j * 3 + 1, none⟩ = some (.int .i64 y2) ∧ w'.cell? ⟨b, off + j * 3 + 2, none⟩ = some (.int .i64 y3)) := fun w' hb => ⟨pw_cell_below hb k1, pw_cell_below hb k2, pw_cell_below hb k3⟩
      obtain ⟨hcell, hcelp, hcelq⟩ := HCELL.out _ HB.out
      have hc5 : wr.cell? ⟨g5, 0, none⟩ = some (.int .i64 m1) := (blk_cell BK5.out 0).trans rfl
      have hc51 : wr.cell? ⟨g5, 1, none⟩ = some (.int .i64 m2) := (blk_cell BK5.out 1).trans rfl
      have hc52 : wr.cell? ⟨g5, 2, none⟩ = some (.int .i64 m3) := (blk_cell BK5.out 2).trans rfl
      obtain ⟨hyb0, hyb1⟩ := hyb
      obtain ⟨hmb0, hmb1⟩ := hmb
      dsimp only at hyb0 hyb1 hmb0 hmb1
      have hlx : (xs.length : Int) ≤ 1000000 := by omega
      clear hy hyx k1 k2 k3
      by_cases hgt : m1 < y1
      · have hgb : decide (0 < y1 - m1) = true := decide_eq_true (by omega)
        have hgb2 : decide (m1 < y1) = true := decide_eq_true hgt
        have HGT := Lib.hid hgt
        clear hgt
        go_wp2_with fail
        go_region_held3 (fun w' => Below w.heap.size w w' ∧ w'.heap[g4]? = some (.cells #[.int .i64 0, .int .i64 0, .int .i64 0] 25 (0, 0)) ∧ w'.heap[g5]? = some (.cells #[.int .i64 m1, .int .i64 m2, .int .i64 m3] 25 (0, 0)) ∧ (w'.cell? ⟨b, off + j * 3, none⟩ = some (.int .i64 y1) ∧ w'.cell? ⟨b, off + j * 3 + 1, none⟩ = some (.int .i64 y2) ∧ w'.cell? ⟨b, off + j * 3 + 2, none⟩ = some (.int .i64 y3)) ∧ w'.cell? ⟨g5, 0, none⟩ = some (.int .i64 m1) ∧ w'.cell? ⟨g5, 1, none⟩ = some (.int .i64 m2) ∧ w'.cell? ⟨g5, 2, none⟩ = some (.int .i64 m3)) ((repeat' apply And.intro) <;> first | assumption | exact below_drew HB.out | exact BK4.out | exact BK5.out | (simp only [World.cell?_drew]; assumption))
          (first | (go_at_call 44; obtain ⟨Z0, Z1, Z2, ⟨Z3, Z3a, Z3b⟩, Z4, Z5, Z6⟩ := ‹Below w.heap.size w _ ∧ _›; refine (cmp_mem y1 m1 y2 y3 m2 m3 _ hyb0 hyb1 hmb0 hmb1).mono ?_; rintro e w' ⟨rfl, hb⟩; have Y0 := below_step Z0 hb; have Y1 := blk_below Z1 hb; have Y2 := blk_below Z2 hb; have Y3 := keepC Z3 hb; have Y3a := keepC Z3a hb; have Y3b := keepC Z3b hb; have Y4 := keepC Z4 hb; have Y5 := keepC Z5 hb; have Y6 := keepC Z6 hb))
        obtain ⟨Z0, Z1, Z2, ⟨Z3, Z3a, Z3b⟩, Z4, Z5, Z6⟩ := ‹Below w.heap.size w _ ∧ _›
        have HZ0 := Lib.hid Z0
        have HZ1 := Lib.hid Z1
        have HZ2 := Lib.hid Z2
        have hf5 := blk_frozen Z2 0
        have hf51 := blk_frozen Z2 1
        have hf52 := blk_frozen Z2 2
        clear Z0 Z1 Z2 hc5 hc51 hc52 hcell hcelp hcelq
        go_wp2
        go_roundw
        case rel => exact ⟨j + 1, y1, y2, y3, by omega, by omega, by go_num, by rw [HTK.out, if_pos HGT.out]; exact Lib.hid rfl, Lib.hid (blk_far (blk_far (blk_far HZ1.out HN45.out _) HN45.out _) HN45.out _), Lib.hid (blk_put (blk_put (blk_put HZ2.out 0 _ rfl) 1 _ rfl) 2 _ rfl), Lib.hid (below_set (below_set (below_set HZ0.out HGE5.out) HGE5.out) HGE5.out)⟩
        case measure => simp [intOf]; omega
      · have hgb : decide (0 < y1 - m1) = false := decide_eq_false (by omega)
        have hgb2 : decide (m1 < y1) = false := decide_eq_false hgt
        have HGT := Lib.hid hgt
        clear hgt
        go_wp2_with fail
        go_region_held3 (fun w' => Below w.heap.size w w' ∧ w'.heap[g4]? = some (.cells #[.int .i64 0, .int .i64 0, .int .i64 0] 25 (0, 0)) ∧ w'.heap[g5]? = some (.cells #[.int .i64 m1, .int .i64 m2, .int .i64 m3] 25 (0, 0)) ∧ (w'.cell? ⟨b, off + j * 3, none⟩ = some (.int .i64 y1) ∧ w'.cell? ⟨b, off + j * 3 + 1, none⟩ = some (.int .i64 y2) ∧ w'.cell? ⟨b, off + j * 3 + 2, none⟩ = some (.int .i64 y3)) ∧ w'.cell? ⟨g5, 0, none⟩ = some (.int .i64 m1) ∧ w'.cell? ⟨g5, 1, none⟩ = some (.int .i64 m2) ∧ w'.cell? ⟨g5, 2, none⟩ = some (.int .i64 m3)) ((repeat' apply And.intro) <;> first | assumption | exact below_drew HB.out | exact BK4.out | exact BK5.out | (simp only [World.cell?_drew]; assumption))
          (first | (go_at_call 44; obtain ⟨Z0, Z1, Z2, ⟨Z3, Z3a, Z3b⟩, Z4, Z5, Z6⟩ := ‹Below w.heap.size w _ ∧ _›; refine (cmp_mem y1 m1 y2 y3 m2 m3 _ hyb0 hyb1 hmb0 hmb1).mono ?_; rintro e w' ⟨rfl, hb⟩; have Y0 := below_step Z0 hb; have Y1 := blk_below Z1 hb; have Y2 := blk_below Z2 hb; have Y3 := keepC Z3 hb; have Y3a := keepC Z3a hb; have Y3b := keepC Z3b hb; have Y4 := keepC Z4 hb; have Y5 := keepC Z5 hb; have Y6 := keepC Z6 hb))
        obtain ⟨Z0, Z1, Z2, ⟨Z3, Z3a, Z3b⟩, Z4, Z5, Z6⟩ := ‹Below w.heap.size w _ ∧ _›
        have HZ0 := Lib.hid Z0
        have HZ1 := Lib.hid Z1
        have HZ2 := Lib.hid Z2
        clear Z0 Z1 Z2 hc5 hc51 hc52 hcell hcelp hcelq
        go_wp2
        go_roundw
        case rel => exact ⟨j + 1, m1, m2, m3, by omega, by omega, by go_num, by rw [HTK.out, if_neg (Int.not_lt.2 HGT.out)]; exact Lib.hid rfl, HZ1, HZ2, HZ0⟩
        case measure => simp [intOf]; omega
    · obtain rfl : j = xs.length := by omega
      rw [List.take_length] at HM
      have hc5 : wr.cell? ⟨g5, 0, none⟩ = some (.int .i64 m1) := (blk_cell BK5.out 0).trans rfl
      have hc51 : wr.cell? ⟨g5, 1, none⟩ = some (.int .i64 m2) := (blk_cell BK5.out 1).trans rfl
      have hc52 : wr.cell? ⟨g5, 2, none⟩ = some (.int .i64 m3) := (blk_cell BK5.out 2).trans rfl
      have hc4 : wr.cell? ⟨g4, 0, none⟩ = some (.int .i64 0) := (blk_cell BK4.out 0).trans rfl
      have hc41 : wr.cell? ⟨g4, 1, none⟩ = some (.int .i64 0) := (blk_cell BK4.out 1).trans rfl
      have hc42 : wr.cell? ⟨g4, 2, none⟩ = some (.int .i64 0) := (blk_cell BK4.out 2).trans rfl
      have hf4 := blk_frozen BK4.out 0
      have hf41 := blk_frozen BK4.out 1
      have hf42 := blk_frozen BK4.out 2
      go_wp2
      refine bodyPost_ret (results_cell_row rfl _ _ g4 25 #[.int .i64 m1, .int .i64 m2, .int .i64 m3] (0, 0) _ rfl (blk_put (blk_put (blk_put BK4.out 0 _ rfl) 1 _ rfl) 2 _ rfl) Tryd.underlying25 rfl (by kernel_rfl)) rfl ?_
      exact ⟨by rw [← HM.out], below_set (below_set (below_set HB.out HGE4.out) HGE4.out) HGE4.out⟩
end Go.Proofs.YtkpipmhcjjncdaaDoor.Given
