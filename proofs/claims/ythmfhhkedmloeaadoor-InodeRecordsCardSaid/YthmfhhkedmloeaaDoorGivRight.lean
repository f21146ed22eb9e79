/- The contract of inode.right: by hand. -/
import Derived.Test.YthmfhhkedmloeaaDoorProg
import Derived.Test.YthmfhhkedmloeaaDoorWWords
import Derived.Test.YthmfhhkedmloeaaDoorWLast
import Derived.Test.YthmfhhkedmloeaaDoorWMore
import Derived.WalkKit
import Derived.OwnWalk
import Derived.LoopTactic
import Derived.Outline
import Derived.KernelRfl
import Derived.Lib.Hide
import Derived.WalkLawsBesides
namespace Go.Proofs.YthmfhhkedmloeaaDoor.Given
open Go.RowKit Go.Proofs.YthmfhhkedmloeaaDoorW.PrintWords Go.Proofs.YthmfhhkedmloeaaDoorW.PrintLast Go.Proofs.YthmfhhkedmloeaaDoorW.PrintMore
set_option linter.unusedVariables false
set_option linter.unusedSimpArgs false

/-- A record as the model has it: its numbers, one behind the other. -/
def recV (l : List Int) : Value := .agg (l.map (Value.int .i64)).toArray
def blk (n : Int) : Int := (n + 55) / 56
def ptrOk (n : Int) (k : Nat) (p : Int) : Bool := decide (0 ≤ p) && decide (p ≤ 65535) && (decide ((k : Int) < n) || decide (p = 0))
def okHead (l : List Int) : Bool := (decide (l.getD 0 0 = 1) || decide (l.getD 0 0 = 2)) && decide (1 ≤ l.getD 1 0) && decide (l.getD 1 0 ≤ 65535) && decide (0 ≤ l.getD 2 0) && decide (l.getD 2 0 ≤ 46368)
def okDirect (l : List Int) : Bool := (List.range 16).all fun k => ptrOk (blk (l.getD 2 0)) k (l.getD (3 + k) 0)
def okTail (l : List Int) : Bool := decide (0 ≤ l.getD 19 0) && decide (0 ≤ l.getD 20 0) && decide (l.getD 19 0 ≤ 65535) && decide (l.getD 20 0 ≤ 65535) && (decide (16 < blk (l.getD 2 0)) || decide (l.getD 19 0 = 0)) && (decide (44 < blk (l.getD 2 0)) || decide (l.getD 20 0 = 0))
def okRec (l : List Int) : Bool := okHead l && okDirect l && okTail l

theorem blocks_calls (n : Int) (w : World) (h0 : 0 ≤ n) (h1 : n ≤ 46368) : Calls Tryd.prog 17 #[.int .i64 n] w fun e w' => e = .returned (.int .i64 (blk n)) ∧ w = w' := by
  have H : Hid ((n + 56 - 1) / 56 = blk n) := by show (n + 56 - 1) / 56 = (n + 55) / 56; omega
  go_enter Tryd.func17, Tryd.ntmps17
  go_wp2
  go_ret
  refine ⟨?_, rfl⟩
  show Ending.returned (.int .i64 ((n + 56 - 1) / 56)) = _
  rw [H.out]
theorem index_dir (x0 x1 x2 x3 x4 x5 x6 x7 x8 x9 x10 x11 x12 x13 x14 x15 : Int) (i : Nat) (h : i < 16) (w : World) : (Instr.index 22 (.agg #[.int .i64 x0, .int .i64 x1, .int .i64 x2, .int .i64 x3, .int .i64 x4, .int .i64 x5, .int .i64 x6, .int .i64 x7, .int .i64 x8, .int .i64 x9, .int .i64 x10, .int .i64 x11, .int .i64 x12, .int .i64 x13, .int .i64 x14, .int .i64 x15]) (.int .i64 (i : Int))).run Tryd.prog w = .ok (.int .i64 ([x0, x1, x2, x3, x4, x5, x6, x7, x8, x9, x10, x11, x12, x13, x14, x15].getD i 0)) w := by
  rcases (by omega : i = 0 ∨ i = 1 ∨ i = 2 ∨ i = 3 ∨ i = 4 ∨ i = 5 ∨ i = 6 ∨ i = 7 ∨ i = 8 ∨ i = 9 ∨ i = 10 ∨ i = 11 ∨ i = 12 ∨ i = 13 ∨ i = 14 ∨ i = 15) with rfl | rfl | rfl | rfl | rfl | rfl | rfl | rfl | rfl | rfl | rfl | rfl | rfl | rfl | rfl | rfl <;> kernel_rfl
theorem dir_get (k ln sz x0 x1 x2 x3 x4 x5 x6 x7 x8 x9 x10 x11 x12 x13 x14 x15 s d : Int) (j : Nat) (h : j < 16) : [k, ln, sz, x0, x1, x2, x3, x4, x5, x6, x7, x8, x9, x10, x11, x12, x13, x14, x15, s, d].getD (3 + j) 0 = [x0, x1, x2, x3, x4, x5, x6, x7, x8, x9, x10, x11, x12, x13, x14, x15].getD j 0 := by
  rcases (by omega : j = 0 ∨ j = 1 ∨ j = 2 ∨ j = 3 ∨ j = 4 ∨ j = 5 ∨ j = 6 ∨ j = 7 ∨ j = 8 ∨ j = 9 ∨ j = 10 ∨ j = 11 ∨ j = 12 ∨ j = 13 ∨ j = 14 ∨ j = 15) with rfl | rfl | rfl | rfl | rfl | rfl | rfl | rfl | rfl | rfl | rfl | rfl | rfl | rfl | rfl | rfl <;> rfl
theorem ptrOk_false {n p : Int} {k : Nat} (h : p < 0 ∨ 65535 < p ∨ (n ≤ (k : Int) ∧ ¬ p = 0)) : ptrOk n k p = false := by
  cases hb : ptrOk n k p with
  | false => rfl
  | true =>
    simp only [ptrOk, Bool.and_eq_true, Bool.or_eq_true, decide_eq_true_eq] at hb
    omega
theorem ptrOk_true {n p : Int} {k : Nat} (h : 0 ≤ p ∧ p ≤ 65535 ∧ ((k : Int) < n ∨ p = 0)) : ptrOk n k p = true := by
  simp only [ptrOk, Bool.and_eq_true, Bool.or_eq_true, decide_eq_true_eq]
  omega
theorem okTail_false {k ln sz x0 x1 x2 x3 x4 x5 x6 x7 x8 x9 x10 x11 x12 x13 x14 x15 s d n : Int} (hn : blk sz = n) (h : d < 0 ∨ s < 0 ∨ 65535 < s ∨ 65535 < d ∨ (¬ 16 < n ∧ ¬ s = 0) ∨ (¬ 44 < n ∧ ¬ d = 0)) : okRec [k, ln, sz, x0, x1, x2, x3, x4, x5, x6, x7, x8, x9, x10, x11, x12, x13, x14, x15, s, d] = false := by
  cases hb : okRec [k, ln, sz, x0, x1, x2, x3, x4, x5, x6, x7, x8, x9, x10, x11, x12, x13, x14, x15, s, d] with
  | false => rfl
  | true =>
    simp only [okRec, okTail, Bool.and_eq_true, Bool.or_eq_true, decide_eq_true_eq, List.getD_cons_zero, List.getD_cons_succ, hn] at hb
    omega
theorem okRec_true {k ln sz x0 x1 x2 x3 x4 x5 x6 x7 x8 x9 x10 x11 x12 x13 x14 x15 s d n : Int} (hn : blk sz = n) (h0 : k = 1 ∨ k = 2) (h1 : 1 ≤ ln) (h2 : ln ≤ 65535) (h3 : 0 ≤ sz) (h4 : sz ≤ 46368) (hD : okDirect [k, ln, sz, x0, x1, x2, x3, x4, x5, x6, x7, x8, x9, x10, x11, x12, x13, x14, x15, s, d] = true)
    (h : 0 ≤ d ∧ 0 ≤ s ∧ s ≤ 65535 ∧ d ≤ 65535 ∧ (16 < n ∨ s = 0) ∧ (44 < n ∨ d = 0)) : okRec [k, ln, sz, x0, x1, x2, x3, x4, x5, x6, x7, x8, x9, x10, x11, x12, x13, x14, x15, s, d] = true := by
  have e1 : okHead [k, ln, sz, x0, x1, x2, x3, x4, x5, x6, x7, x8, x9, x10, x11, x12, x13, x14, x15, s, d] = true := by
    simp only [okHead, Bool.and_eq_true, Bool.or_eq_true, decide_eq_true_eq, List.getD_cons_zero, List.getD_cons_succ]
    omega
  have e2 : okTail [k, ln, sz, x0, x1, x2, x3, x4, x5, x6, x7, x8, x9, x10, x11, x12, x13, x14, x15, s, d] = true := by
    simp only [okTail, Bool.and_eq_true, Bool.or_eq_true, decide_eq_true_eq, List.getD_cons_zero, List.getD_cons_succ, hn]
    omega
  rw [okRec, e1, hD, e2]; rfl
theorem okHead_false {l : List Int} (h : okHead l = false) : okRec l = false := by simp [okRec, h]
theorem okDirect_false {l : List Int} (k : Nat) (hk : k < 16) (h : ptrOk (blk (l.getD 2 0)) k (l.getD (3 + k) 0) = false) : okRec l = false := by
  have : okDirect l = false := by
    rw [okDirect, List.all_eq_false]
    exact ⟨k, List.mem_range.2 hk, by rw [h]; simp⟩
  simp [okRec, this]
theorem okDirect_true {l : List Int} (h : ∀ k, k < 16 → ptrOk (blk (l.getD 2 0)) k (l.getD (3 + k) 0) = true) : okDirect l = true := by
  rw [okDirect, List.all_eq_true]
  exact fun k hk => h k (List.mem_range.1 hk)

set_option maxHeartbeats 2000000 in
theorem right_x (k ln sz x0 x1 x2 x3 x4 x5 x6 x7 x8 x9 x10 x11 x12 x13 x14 x15 s d : Int) (w : World) :
    Calls Tryd.prog 18 #[recV [k, ln, sz, x0, x1, x2, x3, x4, x5, x6, x7, x8, x9, x10, x11, x12, x13, x14, x15, s, d]] w fun e w' => e = .returned (.bool (okRec [k, ln, sz, x0, x1, x2, x3, x4, x5, x6, x7, x8, x9, x10, x11, x12, x13, x14, x15, s, d])) ∧ Below w.heap.size w w' := by
  have HI := Lib.hid (index_dir x0 x1 x2 x3 x4 x5 x6 x7 x8 x9 x10 x11 x12 x13 x14 x15)
  show Calls Tryd.prog 18 #[.agg #[.int .i64 k, .int .i64 ln, .int .i64 sz, .int .i64 x0, .int .i64 x1, .int .i64 x2, .int .i64 x3, .int .i64 x4, .int .i64 x5, .int .i64 x6, .int .i64 x7, .int .i64 x8, .int .i64 x9, .int .i64 x10, .int .i64 x11, .int .i64 x12, .int .i64 x13, .int .i64 x14, .int .i64 x15, .int .i64 s, .int .i64 d]] w _
  go_enter Tryd.func18, Tryd.ntmps18
  go_wp2_with (go_at_call 17; refine (blocks_calls _ _ (by omega) (by omega)).mono ?_; rintro e w1 ⟨rfl, rfl⟩)
  all_goals first
    | (go_ret; refine ⟨?_, (Below.refl _ _).alloc (Nat.le_refl _) _⟩; rw [okHead_false (by simp only [okHead, List.getD_cons_zero, List.getD_cons_succ, Bool.and_eq_false_iff, Bool.or_eq_false_iff, decide_eq_false_iff_not]; omega)]; rfl)
    | skip
  all_goals (
    have HZ := Lib.hid (And.intro (show 0 ≤ sz by omega) (show sz ≤ 46368 by omega))
    obtain ⟨n, hn⟩ : ∃ n, blk sz = n := ⟨_, rfl⟩
    have HN := Lib.hid hn
    rw [hn]
    have hnb : 0 ≤ n ∧ n ≤ 828 := by rw [← hn]; unfold blk; omega
    obtain ⟨hn0, hn1⟩ := hnb
    clear hn
    go_loop [39] (fun i => ∃ j : Nat, j ≤ 16 ∧ i = .int .i64 j ∧ Hid (∀ q, q < j → ptrOk n q ([x0, x1, x2, x3, x4, x5, x6, x7, x8, x9, x10, x11, x12, x13, x14, x15].getD q 0) = true)) (fun i => 16 - (intOf i).toNat)
    case atStart => exact ⟨0, Nat.zero_le _, rfl, Lib.hid (fun q hq => absurd hq (by omega))⟩
    case round =>
      obtain ⟨j, hj, rfl, HQ⟩ := hrel
      by_cases hlt : j < 16
      · have hix := HI.out j hlt
        obtain ⟨y, hy⟩ : ∃ y, [x0, x1, x2, x3, x4, x5, x6, x7, x8, x9, x10, x11, x12, x13, x14, x15].getD j 0 = y := ⟨_, rfl⟩
        simp only [hy] at hix
        have HY := Lib.hid hy
        clear hy
        by_cases hy0 : y = 0
        · subst hy0
          go_wp2
          all_goals
            go_round
            case rel => exact ⟨j + 1, by omega, by go_num, Lib.hid (fun q hq => (Nat.lt_or_ge q j).elim (fun h => HQ.out q h) (fun h => by have e : q = j := by { omega }; subst e; rw [HY.out]; exact ptrOk_true (by omega)))⟩
            case measure => simp [intOf]; omega
        · have hb0 : (y != 0) = true := by rw [bne_iff_ne]; exact hy0
          have HY0 := Lib.hid hy0
          clear hy0
          go_wp2
          all_goals first
            | (go_ret; refine ⟨?_, (Below.refl _ _).alloc (Nat.le_refl _) _⟩; rw [okDirect_false j hlt (by rw [dir_get _ _ _ _ _ _ _ _ _ _ _ _ _ _ _ _ _ _ _ _ _ j hlt, HY.out]; show ptrOk (blk sz) j y = false; rw [HN.out]; exact ptrOk_false (by have := HY0.out; omega))]; rfl)
            | (go_round
               case rel => exact ⟨j + 1, by omega, by go_num, Lib.hid (fun q hq => (Nat.lt_or_ge q j).elim (fun h => HQ.out q h) (fun h => by have e : q = j := by { omega }; subst e; rw [HY.out]; exact ptrOk_true (by omega)))⟩
               case measure => simp [intOf]; omega)
      · have hj16 : j = 16 := by omega
        subst hj16
        have HD := Lib.hid (fun (k0 : Int) => okDirect_true (l := [k0, ln, sz, x0, x1, x2, x3, x4, x5, x6, x7, x8, x9, x10, x11, x12, x13, x14, x15, s, d]) (fun q hq => by rw [dir_get _ _ _ _ _ _ _ _ _ _ _ _ _ _ _ _ _ _ _ _ _ q hq]; show ptrOk (blk sz) q _ = true; rw [HN.out]; exact HQ.out q hq))
        clear HQ HI
        go_wp2
        all_goals
          go_ret
          refine ⟨?_, (Below.refl _ _).alloc (Nat.le_refl _) _⟩
          first
            | (rw [okTail_false HN.out (by omega)]; rfl)
            | (rw [okRec_true HN.out (by omega) (by omega) (by omega) (by omega) (by omega) (HD.out _) (by omega)]; rfl)
            | (by_cases hd0 : d = 0
               · rw [okRec_true HN.out (by omega) (by omega) (by omega) (by omega) (by omega) (HD.out _) (by omega)]; first | (simp [hd0]; done) | (simp [hd0]; omega)
               · rw [okTail_false HN.out (by omega)]; first | (simp [hd0]; done) | (simp [hd0]; omega)))
theorem okRec_bd {k ln sz x0 x1 x2 x3 x4 x5 x6 x7 x8 x9 x10 x11 x12 x13 x14 x15 s d : Int} (h : okRec [k, ln, sz, x0, x1, x2, x3, x4, x5, x6, x7, x8, x9, x10, x11, x12, x13, x14, x15, s, d] = true) : (0 ≤ k ∧ k ≤ 255) ∧ (0 ≤ ln ∧ ln ≤ 65535) ∧ (0 ≤ sz ∧ sz ≤ 46368) ∧ (∀ j, j < 16 → 0 ≤ [x0, x1, x2, x3, x4, x5, x6, x7, x8, x9, x10, x11, x12, x13, x14, x15].getD j 0 ∧ [x0, x1, x2, x3, x4, x5, x6, x7, x8, x9, x10, x11, x12, x13, x14, x15].getD j 0 ≤ 65535) ∧ ((0 ≤ s ∧ s ≤ 65535) ∧ (0 ≤ d ∧ d ≤ 65535)) := by
  simp only [okRec, Bool.and_eq_true] at h
  obtain ⟨⟨h1, h2⟩, h3⟩ := h
  simp only [okHead, Bool.and_eq_true, Bool.or_eq_true, decide_eq_true_eq, List.getD_cons_zero, List.getD_cons_succ] at h1
  simp only [okTail, Bool.and_eq_true, Bool.or_eq_true, decide_eq_true_eq, List.getD_cons_zero, List.getD_cons_succ] at h3
  rw [okDirect, List.all_eq_true] at h2
  refine ⟨by omega, by omega, by omega, fun j hj => ?_, by omega, by omega⟩
  have := h2 j (List.mem_range.2 hj)
  rw [dir_get k ln sz x0 x1 x2 x3 x4 x5 x6 x7 x8 x9 x10 x11 x12 x13 x14 x15 s d j hj] at this
  simp only [ptrOk, Bool.and_eq_true, decide_eq_true_eq] at this
  exact ⟨this.1.1, this.1.2⟩
end Go.Proofs.YthmfhhkedmloeaaDoor.Given
