/- The walk of BlockMoves: by hand. -/
import Derived.Test.YtlkhlmckgpjopaaDoorMoves
namespace Go.Proofs.YtlkhlmckgpjopaaDoor.MovesWalk
open Go.RowKit Go.Maps Go.Sort Go.Shelf Go.Proofs.YtlkhlmckgpjopaaDoorW.PrintWords Go.Proofs.YtlkhlmckgpjopaaDoorW.PrintLast Go.Proofs.YtlkhlmckgpjopaaDoorW.PrintMore Go.Proofs.YtlkhlmckgpjopaaDoor.Base Go.Proofs.YtlkhlmckgpjopaaDoor.Given
set_option linter.unusedVariables false
set_option linter.unusedSimpArgs false
theorem adr_get (l : List Int) (j : Nat) : (adr l (j : Int)).getD 0 = l.getD j 0 := by
  unfold adr
  rw [Int.toNat_natCast]
  by_cases h : l.getD j 0 = 0
  · rw [if_neg (fun k => k.2 h), h]; rfl
  · rw [if_pos ⟨by omega, h⟩]; rfl
/-- The places of x among the first j. -/
def idx (l : List Int) (x : Int) (j : Nat) : List Int := ((List.range j).filter fun i => l.getD i 0 == x).map fun (i : Nat) => (i : Int)
theorem idx_yes {l : List Int} {x : Int} {j : Nat} (h : (l.getD j 0 == x) = true) : (idx l x (j + 1)).length = (idx l x j).length + 1 := by
  unfold idx
  rw [List.range_succ, List.filter_append, List.map_append, List.length_append]
  simp only [List.filter_cons, List.filter_nil, h, if_true]
  rfl
theorem idx_no {l : List Int} {x : Int} {j : Nat} (h : (l.getD j 0 == x) = false) : (idx l x (j + 1)).length = (idx l x j).length := by
  unfold idx
  rw [List.range_succ, List.filter_append, List.map_append, List.length_append]
  simp only [List.filter_cons, List.filter_nil, h]
  rfl
theorem idx_le (l : List Int) (x : Int) (j : Nat) : (idx l x j).length ≤ j := by
  unfold idx
  rw [List.length_map]
  exact Nat.le_trans (List.length_filter_le _ _) (by simp)
theorem idx_nd (l : List Int) (x : Int) (j : Nat) : (idx l x j).Nodup := by
  unfold idx
  refine List.pairwise_map.2 ((List.nodup_range.filter _).imp ?_)
  intro a b h e
  exact h (by omega)
theorem adr_some {l : List Int} {x k : Int} (hx : 1 ≤ x) : adr l k = some x ↔ 0 ≤ k ∧ l.getD k.toNat 0 = x := by
  unfold adr
  by_cases h : 0 ≤ k ∧ l.getD k.toNat 0 ≠ 0
  · rw [if_pos h]
    exact ⟨fun e => ⟨h.1, Option.some.inj e⟩, fun e => by rw [e.2]⟩
  · rw [if_neg h]
    exact ⟨fun e => (by cases e), fun e => absurd ⟨e.1, by rw [e.2]; omega⟩ h⟩
theorem idx_mem {l : List Int} {x : Int} (hx : 1 ≤ x) (k : Int) : k ∈ idx l x l.length ↔ adr l k = some x := by
  rw [adr_some hx]
  unfold idx
  rw [List.mem_map]
  constructor
  · rintro ⟨i, hi, rfl⟩
    rw [List.mem_filter] at hi
    exact ⟨by omega, by rw [Int.toNat_natCast]; exact beq_iff_eq.1 hi.2⟩
  · rintro ⟨h0, h1⟩
    refine ⟨k.toNat, List.mem_filter.2 ⟨List.mem_range.2 ?_, beq_iff_eq.2 h1⟩, by omega⟩
    by_cases hl : k.toNat < l.length
    · exact hl
    · rw [List.getD_eq_getElem?_getD, List.getElem?_eq_none (by omega)] at h1
      simp at h1
      omega
theorem nd_len {s t : List Int} (hs : s.Nodup) (ht : t.Nodup) (h : ∀ x, x ∈ s ↔ x ∈ t) : s.length = t.length := ((List.perm_ext_iff_of_nodup hs ht).2 h).length_eq
theorem mov_mem {a : Int → Option Int} {fr to_ : Int} (h : ∀ k, a k ≠ some to_) (k : Int) : movF fr to_ a k = some to_ ↔ a k = some fr := by
  unfold movF
  by_cases e : a k = some fr
  · rw [if_pos e]; exact ⟨fun _ => e, fun _ => rfl⟩
  · rw [if_neg e]; exact ⟨fun q => absurd q (h k), fun q => absurd q e⟩
theorem mov_mov {a : Int → Option Int} {fr to_ : Int} (h : ∀ k, a k ≠ some to_) : movF to_ fr (movF fr to_ a) = a := by
  funext k
  show (if movF fr to_ a k = some to_ then some fr else movF fr to_ a k) = a k
  by_cases e : a k = some fr
  · rw [if_pos ((mov_mem h k).2 e), e]
  · rw [if_neg (fun q => e ((mov_mem h k).1 q))]
    unfold movF; rw [if_neg e]
set_option maxHeartbeats 4000000 in
set_option maxRecDepth 100000 in
theorem good (A0 : Option Addr) (c0 : Nat) (l : List Int) (fr to_ : Int) (w : World) (hC : Kd.C (Kd.int .i64) w A0 l.length l) (hl : l.length ≤ 828) (hok : ∀ x ∈ l, okA x) (hf1 : 1 ≤ fr) (hf2 : fr ≤ 65535) (ht1 : 1 ≤ to_) (ht2 : to_ ≤ 65535) :
    Calls Tryd.prog 4 #[.slice A0 l.length c0, .int .i64 fr, .int .i64 to_] w fun e w' => e = .returned (.bool true) ∧ Below w.heap.size w w' := by
  have d2 : decide ((828 : Int) < (l.length : Int)) = false := decide_eq_false (by omega)
  have hl2 : (l.length : Int) ≤ 828 := by omega
  have d3 : decide (fr < 1) = false := decide_eq_false (by omega)
  have d4 : decide (65535 < fr) = false := decide_eq_false (by omega)
  have d5 : decide (to_ < 1) = false := decide_eq_false (by omega)
  have d6 : decide (65535 < to_) = false := decide_eq_false (by omega)
  have HC := Lib.hid hC
  have HOK := Lib.hid hok
  have HF1 := Lib.hid hf1
  have HF2 := Lib.hid hf2
  have HT1 := Lib.hid ht1
  have HT2 := Lib.hid ht2
  clear hC hok hf1 hf2 ht1 ht2
  go_enter Tryd.func4, Tryd.ntmps4
  go_wp2_with fail
  refine (alive_calls _).mono ?_
  rintro e w1 ⟨rfl, hB⟩
  have HB1 := Lib.hid hB
  clear hB
  go_wp2_with fail
  refine (new_p A0 c0 l _ (Kd.C_below HC.out HB1.out) hl HOK.out).mono ?_
  rintro e w2 ⟨p, rfl, hM, hB⟩
  have HM2 := Lib.hid hM
  have HB2 : Hid (Below w.heap.size w w2) := HB1.out.trans (hB.mono HB1.out.size)
  have H12 : Hid (w.heap.size ≤ w1.heap.size) := HB1.out.size
  clear hM hB HB1
  go_wp2
  go_loopw [9, 10] (fun n i wr => ∃ (j : Nat), j ≤ l.length ∧ n = .int .i64 ((idx l fr j).length : Int) ∧ i = .int .i64 j ∧ Hid (∀ q, q < j → l.getD q 0 ≠ to_) ∧ w2 = wr) (fun _ i _ => (828 - intOf i).toNat)
  case atStart => exact ⟨0, by omega, rfl, rfl, (fun q h => absurd h (by omega)), rfl⟩
  case round =>
    obtain ⟨j, hj, rfl, rfl, HN, rfl⟩ := hrel
    rcases Nat.lt_or_ge j l.length with hlt | hge
    · have hlt2 : (j : Int) < (l.length : Int) := by omega
      obtain ⟨g0, o0, rfl, hcell0⟩ := addr_of_C (Kd.C_below HC.out HB2.out) (by omega)
      have hcj := hcell0 j hlt
      obtain ⟨y, hy⟩ : ∃ y, l.getD j 0 = y := ⟨_, rfl⟩
      rw [hy] at hcj
      clear hcell0
      by_cases hyt : y = to_
      · have e1 : (y == to_) = true := beq_iff_eq.2 hyt
        clear hyt hy
        go_wp2
        go_ret
        exact ⟨rfl, HB2.out⟩
      · have e1 : (y == to_) = false := beq_eq_false_iff_ne.2 hyt
        have HN2 : Hid (∀ q, q < j + 1 → l.getD q 0 ≠ to_) := fun q h => by
          by_cases e : q = j
          · subst e; rw [hy]; exact hyt
          · exact HN.out q (by omega)
        have hij := idx_le l fr j
        by_cases hyf : y = fr
        · have e2 : (y == fr) = true := beq_iff_eq.2 hyf
          have hi := idx_yes (l := l) (x := fr) (j := j) (by rw [hy]; exact e2)
          obtain ⟨m, hm⟩ : ∃ m, (idx l fr j).length = m := ⟨_, rfl⟩
          rw [hm] at hi hij ⊢
          have HI := Lib.hid hi
          have hm2 : (m : Int) ≤ 828 := by omega
          clear hi hyf hyt hy
          go_wp2
          go_roundw
          case rel => exact ⟨j + 1, by omega, by rw [HI.out]; simp, by simp, HN2, trivial⟩
          case measure => simp [intOf]; omega
        · have e2 : (y == fr) = false := beq_eq_false_iff_ne.2 hyf
          have hi := idx_no (l := l) (x := fr) (j := j) (by rw [hy]; exact e2)
          obtain ⟨m, hm⟩ : ∃ m, (idx l fr j).length = m := ⟨_, rfl⟩
          rw [hm] at hi hij ⊢
          have HI := Lib.hid hi
          clear hi hyf hyt hy
          go_wp2
          go_roundw
          case rel => exact ⟨j + 1, by omega, by rw [HI.out], by simp, HN2, trivial⟩
          case measure => simp [intOf]; omega
    · obtain rfl : j = l.length := by omega
      have hnt : ∀ k, adr l k ≠ some to_ := fun k h => by
        obtain ⟨h0, h1⟩ := (adr_some HT1.out).1 h
        by_cases hl : k.toNat < l.length
        · exact HN.out _ hl h1
        · rw [List.getD_eq_getElem?_getD, List.getElem?_eq_none (by omega)] at h1
          have := HT1.out
          simp at h1
          omega
      have HNT := Lib.hid hnt
      have HID : Hid ((idx l fr l.length).Nodup ∧ ∀ k, k ∈ idx l fr l.length ↔ adr l k = some fr) := ⟨idx_nd l fr _, idx_mem HF1.out⟩
      obtain ⟨m, hm⟩ : ∃ m, (idx l fr l.length).length = m := ⟨_, rfl⟩
      rw [hm]
      have HMM := Lib.hid hm
      clear hj hge hnt hm HN
      go_wp2_with fail
      refine (move_yes HM2.out (by omega) fr to_ HT1.out HT2.out).mono ?_
      rintro e w3 ⟨ss, rfl, hnd, hsl, hmem, hM, hB, hX⟩
      have hsm : ss.length = m := by rw [← HMM.out]; exact nd_len hnd HID.out.1 (fun x => (hmem x).trans (HID.out.2 x).symm)
      rw [hsm]
      have HM3 := Lib.hid hM
      have HB3 : Hid (Below w.heap.size w w3) := HB2.out.trans (hB.mono H12.out)
      have hmm : ((m : Int) != (m : Int)) = false := by simp
      clear hnd hsl hmem hM hB hX hsm HB2 HM2
      go_wp2_with fail
      refine (move_yes HM3.out (by omega) to_ fr HF1.out HF2.out).mono ?_
      rintro e w4 ⟨ss, rfl, hnd, hsl, hmem, hM, hB, hX⟩
      have hsm : ss.length = m := by rw [← HMM.out]; exact nd_len hnd HID.out.1 (fun x => (hmem x).trans ((mov_mem HNT.out x).trans (HID.out.2 x).symm))
      rw [hsm]
      rw [mov_mov HNT.out] at hM
      have HM4 := Lib.hid hM
      have HB4 : Hid (Below w.heap.size w w4) := HB3.out.trans (hB.mono H12.out)
      clear hnd hsl hmem hM hB hX hsm HB3 HM3
      go_wp2
      go_loopw [11] (fun i wq => ∃ j : Nat, j ≤ l.length ∧ i = .int .i64 j ∧ Hid (Below w4.heap.size w4 wq)) (fun i _ => (828 - intOf i).toNat)
      case atStart => exact ⟨0, by omega, rfl, Below.refl _ _⟩
      case round =>
        obtain ⟨j, hj, rfl, HB⟩ := hrel
        have HB6 : Hid (Below w.heap.size w wr) := HB4.out.trans (HB.out.mono HB4.out.size)
        rcases Nat.lt_or_ge j l.length with hlt | hge
        · have hlt2 : (j : Int) < (l.length : Int) := by omega
          obtain ⟨g0, o0, rfl, hcell0⟩ := addr_of_C HC.out (by omega)
          have hcj : wr.cell? ⟨g0, o0 + j, none⟩ = some (.int .i64 (l.getD j 0)) := pw_cell_below HB6.out (hcell0 j hlt)
          have HJ : Hid ((Lit.int .i64 (j : Int)).wf = true) := wf_i (by omega) (by omega)
          have hv := adr_get l j
          obtain ⟨y, hy⟩ : ∃ y, l.getD j 0 = y := ⟨_, rfl⟩
          rw [hy] at hcj hv
          have hyy : (y != y) = false := by simp
          have HV := Lib.hid hv
          clear hcell0 hv hy
          go_wp2_with fail
          go_region_held3 (fun w' => Below w4.heap.size w4 w' ∧ w'.cell? ⟨g0, o0 + j, none⟩ = some (.int .i64 y)) ((repeat' apply And.intro) <;> first | assumption | exact below_drew HB.out | exact HB.out | (simp only [World.cell?_drew]; assumption))
            (first | (go_at_call 14; obtain ⟨Z0, Z1⟩ := ‹Below w4.heap.size w4 _ ∧ _›; refine (at_calls (HM4.out.below Z0) j HJ.out).mono ?_; rintro e w7 ⟨rfl, rfl⟩; rw [HV.out]; have Y0 := Z0; have Y1 := Z1))
          have HBF := Lib.hid (‹Below w4.heap.size w4 _ ∧ _›).1
          go_wp2
          go_roundw
          case rel => first | exact ⟨j + 1, by omega, by simp, HBF⟩ | ((repeat apply Exists.intro); exact ⟨⟨j + 1, by omega, by simp, HBF⟩, rfl⟩)
          case measure => simp [intOf]; omega
        · obtain rfl : j = l.length := by omega
          go_wp2
          go_ret
          exact ⟨rfl, HB6.out⟩
set_option maxHeartbeats 1000000 in
theorem bad (A0 : Option Addr) (c0 : Nat) (l : List Int) (fr to_ : Int) (w : World) (hC : Kd.C (Kd.int .i64) w A0 l.length l) (hl : l.length ≤ 828) (j0 : Nat) (hj0 : j0 < l.length) (hbad : ¬ okA (l.getD j0 0)) (hok : ∀ x ∈ l.take j0, okA x) (hf1 : 1 ≤ fr) (hf2 : fr ≤ 65535) (ht1 : 1 ≤ to_) (ht2 : to_ ≤ 65535) :
    Calls Tryd.prog 4 #[.slice A0 l.length c0, .int .i64 fr, .int .i64 to_] w fun e w' => e = .returned (.bool true) ∧ Below w.heap.size w w' := by
  have d2 : decide ((828 : Int) < (l.length : Int)) = false := decide_eq_false (by omega)
  have hl2 : (l.length : Int) ≤ 828 := by omega
  have d3 : decide (fr < 1) = false := decide_eq_false (by omega)
  have d4 : decide (65535 < fr) = false := decide_eq_false (by omega)
  have d5 : decide (to_ < 1) = false := decide_eq_false (by omega)
  have d6 : decide (65535 < to_) = false := decide_eq_false (by omega)
  have HC := Lib.hid hC
  have HBD := Lib.hid hbad
  have HOK := Lib.hid hok
  have HJ := Lib.hid hj0
  clear hC hbad hok hj0
  go_enter Tryd.func4, Tryd.ntmps4
  go_wp2_with fail
  refine (alive_calls _).mono ?_
  rintro e w1 ⟨rfl, hB⟩
  have HB1 := Lib.hid hB
  clear hB
  go_wp2_with fail
  refine (new_bad A0 c0 l _ j0 HJ.out HBD.out (Kd.C_below HC.out HB1.out) hl HOK.out).mono ?_
  rintro e w2 ⟨rfl, hB⟩
  have HB2 : Hid (Below w.heap.size w w2) := HB1.out.trans (hB.mono HB1.out.size)
  clear hB HB1
  go_wp2
  go_ret
  exact ⟨rfl, HB2.out⟩
set_option maxHeartbeats 1000000 in
theorem out1 (A0 : Option Addr) (c0 n : Nat) (fr to_ : Int) (w : World) (hn : n ≤ 9223372036854775807) (h : 828 < n) :
    Calls Tryd.prog 4 #[.slice A0 n c0, .int .i64 fr, .int .i64 to_] w fun e w' => e = .returned (.bool true) ∧ Below w.heap.size w w' := by
  have d2 : decide ((828 : Int) < (n : Int)) = true := decide_eq_true (by omega)
  have hn2 : (n : Int) ≤ 9223372036854775807 := by omega
  go_enter Tryd.func4, Tryd.ntmps4
  go_wp2_with fail
  refine (alive_calls _).mono ?_
  rintro e w1 ⟨rfl, hB⟩
  have HB1 := Lib.hid hB
  clear hB
  go_wp2
  go_ret
  exact ⟨rfl, HB1.out⟩
set_option maxHeartbeats 1000000 in
theorem out2 (A0 : Option Addr) (c0 n : Nat) (fr to_ : Int) (w : World) (h : n ≤ 828) (h2 : fr < 1) :
    Calls Tryd.prog 4 #[.slice A0 n c0, .int .i64 fr, .int .i64 to_] w fun e w' => e = .returned (.bool true) ∧ Below w.heap.size w w' := by
  have d2 : decide ((828 : Int) < (n : Int)) = false := decide_eq_false (by omega)
  have hn2 : (n : Int) ≤ 828 := by omega
  have d3 : decide (fr < 1) = true := decide_eq_true (by omega)
  go_enter Tryd.func4, Tryd.ntmps4
  go_wp2_with fail
  refine (alive_calls _).mono ?_
  rintro e w1 ⟨rfl, hB⟩
  have HB1 := Lib.hid hB
  clear hB
  go_wp2
  go_ret
  exact ⟨rfl, HB1.out⟩
set_option maxHeartbeats 1000000 in
theorem out3 (A0 : Option Addr) (c0 n : Nat) (fr to_ : Int) (w : World) (h : n ≤ 828) (h2 : 65535 < fr) :
    Calls Tryd.prog 4 #[.slice A0 n c0, .int .i64 fr, .int .i64 to_] w fun e w' => e = .returned (.bool true) ∧ Below w.heap.size w w' := by
  have d2 : decide ((828 : Int) < (n : Int)) = false := decide_eq_false (by omega)
  have hn2 : (n : Int) ≤ 828 := by omega
  have d3 : decide (fr < 1) = false := decide_eq_false (by omega)
  have d4 : decide (65535 < fr) = true := decide_eq_true (by omega)
  go_enter Tryd.func4, Tryd.ntmps4
  go_wp2_with fail
  refine (alive_calls _).mono ?_
  rintro e w1 ⟨rfl, hB⟩
  have HB1 := Lib.hid hB
  clear hB
  go_wp2
  go_ret
  exact ⟨rfl, HB1.out⟩
set_option maxHeartbeats 1000000 in
theorem out4 (A0 : Option Addr) (c0 n : Nat) (fr to_ : Int) (w : World) (h : n ≤ 828) (h2 : 1 ≤ fr) (h3 : fr ≤ 65535) (h4 : to_ < 1) :
    Calls Tryd.prog 4 #[.slice A0 n c0, .int .i64 fr, .int .i64 to_] w fun e w' => e = .returned (.bool true) ∧ Below w.heap.size w w' := by
  have d2 : decide ((828 : Int) < (n : Int)) = false := decide_eq_false (by omega)
  have hn2 : (n : Int) ≤ 828 := by omega
  have d3 : decide (fr < 1) = false := decide_eq_false (by omega)
  have d4 : decide (65535 < fr) = false := decide_eq_false (by omega)
  have d5 : decide (to_ < 1) = true := decide_eq_true (by omega)
  go_enter Tryd.func4, Tryd.ntmps4
  go_wp2_with fail
  refine (alive_calls _).mono ?_
  rintro e w1 ⟨rfl, hB⟩
  have HB1 := Lib.hid hB
  clear hB
  go_wp2
  go_ret
  exact ⟨rfl, HB1.out⟩
set_option maxHeartbeats 1000000 in
theorem out5 (A0 : Option Addr) (c0 n : Nat) (fr to_ : Int) (w : World) (h : n ≤ 828) (h2 : 1 ≤ fr) (h3 : fr ≤ 65535) (h4 : 65535 < to_) :
    Calls Tryd.prog 4 #[.slice A0 n c0, .int .i64 fr, .int .i64 to_] w fun e w' => e = .returned (.bool true) ∧ Below w.heap.size w w' := by
  have d2 : decide ((828 : Int) < (n : Int)) = false := decide_eq_false (by omega)
  have hn2 : (n : Int) ≤ 828 := by omega
  have d3 : decide (fr < 1) = false := decide_eq_false (by omega)
  have d4 : decide (65535 < fr) = false := decide_eq_false (by omega)
  have d5 : decide (to_ < 1) = false := decide_eq_false (by omega)
  have d6 : decide (65535 < to_) = true := decide_eq_true (by omega)
  go_enter Tryd.func4, Tryd.ntmps4
  go_wp2_with fail
  refine (alive_calls _).mono ?_
  rintro e w1 ⟨rfl, hB⟩
  have HB1 := Lib.hid hB
  clear hB
  go_wp2
  go_ret
  exact ⟨rfl, HB1.out⟩
end Go.Proofs.YtlkhlmckgpjopaaDoor.MovesWalk
namespace Go.Proofs.YtlkhlmckgpjopaaDoor.PBlockMoves
open Go.RowKit Go.Proofs.YtlkhlmckgpjopaaDoorW.PrintWords Go.Proofs.YtlkhlmckgpjopaaDoorW.PrintLast Go.Proofs.YtlkhlmckgpjopaaDoorW.PrintMore Go.Proofs.YtlkhlmckgpjopaaDoor.Base Go.Proofs.YtlkhlmckgpjopaaDoor.Given Go.Proofs.YtlkhlmckgpjopaaDoor.MovesWalk
set_option linter.unusedVariables false
def morainelaw15_BlockMoves.f (l : List Int) (fr to_ : Int) : Option Bool := some true
theorem first_bad : ∀ l : List Int, (∀ x ∈ l, okA x) ∨ ∃ j, j < l.length ∧ ¬ okA (l.getD j 0) ∧ ∀ x ∈ l.take j, okA x
  | [] => .inl (fun x h => absurd h (by simp))
  | x :: l => by
    by_cases hx : okA x
    · rcases first_bad l with h | ⟨j, h1, h2, h3⟩
      · exact .inl (fun y hy => (List.mem_cons.1 hy).elim (fun e => e ▸ hx) (h y))
      · exact .inr ⟨j + 1, by simpa using h1, by simpa using h2, fun y hy => by rw [List.take_succ_cons] at hy; exact (List.mem_cons.1 hy).elim (fun e => e ▸ hx) (h3 y)⟩
    · exact .inr ⟨0, by simp, by simpa using hx, fun y hy => absurd hy (by simp)⟩
theorem morainelaw15_BlockMoves.calls (A0 : Option Addr) (c0 : Nat) (l : List Int) (fr to_ : Int) (r : Bool) (w : World) (hC : Kd.C (Kd.int .i64) w A0 l.length l) (hc : l.length ≤ c0) (h : morainelaw15_BlockMoves.f l fr to_ = some r) :
    Calls Tryd.prog 4 #[.slice A0 l.length c0, .int .i64 fr, .int .i64 to_] w fun e w' => e = .returned (.bool r) ∧ Below w.heap.size w w' := by
  cases h
  by_cases h1 : 828 < l.length
  · exact out1 A0 c0 l.length fr to_ w hC.2.1 h1
  · by_cases h2 : fr < 1
    · exact out2 A0 c0 l.length fr to_ w (by omega) h2
    · by_cases h3 : 65535 < fr
      · exact out3 A0 c0 l.length fr to_ w (by omega) h3
      · by_cases h4 : to_ < 1
        · exact out4 A0 c0 l.length fr to_ w (by omega) (by omega) (by omega) h4
        · by_cases h5 : 65535 < to_
          · exact out5 A0 c0 l.length fr to_ w (by omega) (by omega) (by omega) h5
          · rcases first_bad l with hok | ⟨j, k1, k2, k3⟩
            · exact good A0 c0 l fr to_ w hC (by omega) hok (by omega) (by omega) (by omega) (by omega)
            · exact bad A0 c0 l fr to_ w hC (by omega) j k1 k2 k3 (by omega) (by omega) (by omega) (by omega)
end Go.Proofs.YtlkhlmckgpjopaaDoor.PBlockMoves
namespace Go.Proofs.YtlkhlmckgpjopaaDoor.Pure
open Go.Proofs.YtlkhlmckgpjopaaDoor.PBlockMoves
theorem BlockMoves {P1 P2 P3 P4 : Prop} (l : List Int) (fr to_ : Int) (_ : P1) (_ : P2) (_ : P3) (_ : P4) : morainelaw15_BlockMoves.f l fr to_ = some true := rfl
end Go.Proofs.YtlkhlmckgpjopaaDoor.Pure
