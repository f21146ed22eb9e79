/- The contract of moraineref14.Right: by hand. -/
import Derived.Test.YthmfhhkedmloeaaDoorGivInodeGet
import Derived.Deep.QuietTactic
import Derived.BigQuiet
namespace Go.Proofs.YthmfhhkedmloeaaDoor.Given
open Go.RowKit Go.Proofs.YthmfhhkedmloeaaDoorW.PrintWords Go.Proofs.YthmfhhkedmloeaaDoorW.PrintLast Go.Proofs.YthmfhhkedmloeaaDoorW.PrintMore
set_option linter.unusedVariables false
set_option linter.unusedSimpArgs false

theorem ptr_yes (n : Int) (W : World) (h0 : 0 ≤ n) (h1 : n ≤ 65535) : Calls Tryd.prog 29 #[.int .i64 n] W fun e w' => e = .returned (.bool true) ∧ w' = W := by
  go_enter Tryd.func29, Tryd.ntmps29
  go_wp2
  go_ret
  exact ⟨rfl, rfl⟩
theorem ptr_no (n : Int) (W : World) (h : n < 0 ∨ 65535 < n) : Calls Tryd.prog 29 #[.int .i64 n] W fun e w' => e = .returned (.bool false) ∧ w' = W := by
  by_cases h0 : n < 0
  · clear h
    have e0 : decide (0 ≤ n) = false := by simp; omega
    go_enter Tryd.func29, Tryd.ntmps29
    go_wp2
    go_ret
    exact ⟨by first | rfl | (simp; done) | (simp [*]; done), rfl⟩
  · have h1 : 65535 < n := by omega
    have e0 : decide (0 ≤ n) = true := by simp; omega
    have e1 : decide (n ≤ 65535) = false := by simp; omega
    clear h
    go_enter Tryd.func29, Tryd.ntmps29
    go_wp2
    go_ret
    exact ⟨by first | rfl | (simp; done) | (simp [*]; done), rfl⟩
theorem rblocks_calls (n : Int) (w : World) (h0 : 0 ≤ n) (h1 : n ≤ 46368) : Calls Tryd.prog 30 #[.int .i64 n] w fun e w' => e = .returned (.int .i64 (blk n)) ∧ w = w' := by
  have H : Hid ((n + 55) / 56 = blk n) := by show (n + 55) / 56 = (n + 55) / 56; rfl
  go_enter Tryd.func30, Tryd.ntmps30
  go_wp2
  go_ret
  refine ⟨?_, rfl⟩
  show Ending.returned (.int .i64 ((n + 55) / 56)) = _
  rw [H.out]
/-- Why a record's head is no right one. -/
inductive BadHead (k ln sz s d : Int) : Prop
  | kind (h1 : k ≠ 1) (h2 : k ≠ 2)
  | ln0 (h : k = 1 ∨ k = 2) (h1 : ln < 1)
  | ln1 (h : k = 1 ∨ k = 2) (h1 : 1 ≤ ln) (h2 : 65535 < ln)
  | sz0 (h : k = 1 ∨ k = 2) (h1 : 1 ≤ ln) (h2 : ln ≤ 65535) (h3 : sz < 0)
  | sz1 (h : k = 1 ∨ k = 2) (h1 : 1 ≤ ln) (h2 : ln ≤ 65535) (h3 : 0 ≤ sz) (h4 : 46368 < sz)
  | single (h : k = 1 ∨ k = 2) (h1 : 1 ≤ ln) (h2 : ln ≤ 65535) (h3 : 0 ≤ sz) (h4 : sz ≤ 46368) (h5 : s < 0 ∨ 65535 < s)
  | double (h : k = 1 ∨ k = 2) (h1 : 1 ≤ ln) (h2 : ln ≤ 65535) (h3 : 0 ≤ sz) (h4 : sz ≤ 46368) (h5 : 0 ≤ s) (h6 : s ≤ 65535) (h7 : d < 0 ∨ 65535 < d)
theorem badHead_or (k ln sz s d : Int) : BadHead k ln sz s d ∨ ((k = 1 ∨ k = 2) ∧ 1 ≤ ln ∧ ln ≤ 65535 ∧ 0 ≤ sz ∧ sz ≤ 46368 ∧ 0 ≤ s ∧ s ≤ 65535 ∧ 0 ≤ d ∧ d ≤ 65535) := by
  by_cases h0 : k = 1 ∨ k = 2
  · by_cases h1 : ln < 1
    · exact .inl (.ln0 h0 h1)
    by_cases h2 : 65535 < ln
    · exact .inl (.ln1 h0 (by omega) h2)
    by_cases h3 : sz < 0
    · exact .inl (.sz0 h0 (by omega) (by omega) h3)
    by_cases h4 : 46368 < sz
    · exact .inl (.sz1 h0 (by omega) (by omega) (by omega) h4)
    by_cases h5 : s < 0 ∨ 65535 < s
    · exact .inl (.single h0 (by omega) (by omega) (by omega) (by omega) h5)
    by_cases h7 : d < 0 ∨ 65535 < d
    · exact .inl (.double h0 (by omega) (by omega) (by omega) (by omega) (by omega) (by omega) h7)
    · exact .inr (by omega)
  · exact .inl (.kind (by omega) (by omega))
theorem BadHead.no {k ln sz x0 x1 x2 x3 x4 x5 x6 x7 x8 x9 x10 x11 x12 x13 x14 x15 s d : Int} (h : BadHead k ln sz s d) : okRec [k, ln, sz, x0, x1, x2, x3, x4, x5, x6, x7, x8, x9, x10, x11, x12, x13, x14, x15, s, d] = false := by
  cases hb : okRec [k, ln, sz, x0, x1, x2, x3, x4, x5, x6, x7, x8, x9, x10, x11, x12, x13, x14, x15, s, d] with
  | false => rfl
  | true =>
    exfalso
    simp only [okRec, okHead, okTail, Bool.and_eq_true, Bool.or_eq_true, decide_eq_true_eq, List.getD_cons_zero, List.getD_cons_succ] at hb
    cases h <;> omega

set_option maxHeartbeats 4000000 in
set_option maxRecDepth 100000 in
theorem rr_no (k ln sz x0 x1 x2 x3 x4 x5 x6 x7 x8 x9 x10 x11 x12 x13 x14 x15 s d : Int) (w : World) (h : BadHead k ln sz s d) :
    Calls Tryd.prog 22 #[.agg #[.int .i64 k, .int .i64 ln, .int .i64 sz, .int .i64 x0, .int .i64 x1, .int .i64 x2, .int .i64 x3, .int .i64 x4, .int .i64 x5, .int .i64 x6, .int .i64 x7, .int .i64 x8, .int .i64 x9, .int .i64 x10, .int .i64 x11, .int .i64 x12, .int .i64 x13, .int .i64 x14, .int .i64 x15, .int .i64 s, .int .i64 d]] w fun e w' => e = .returned (.bool false) ∧ Below w.heap.size w w' := by
  cases h with
  | kind h1 h2 =>
    have e1 : (k != 1) = true := by rw [bne_iff_ne]; exact h1
    have e2 : (k != 2) = true := by rw [bne_iff_ne]; exact h2
    clear h1 h2
    go_enter Tryd.func22, Tryd.ntmps22
    go_wp2
    go_ret
    exact ⟨rfl, (by first | exact below_alloc (Below.refl _ _) _ | exact pw_below_drewN (below_alloc (Below.refl _ _) _) _ | exact below_drew (below_alloc (Below.refl _ _) _))⟩
  | ln0 h h1 => rcases h with rfl | rfl <;> (go_enter Tryd.func22, Tryd.ntmps22; go_wp2_with (first | (go_at_call 29; refine (ptr_yes _ _ (by omega) (by omega)).mono ?_; rintro e w' ⟨rfl, rfl⟩) | (go_at_call 29; refine (ptr_no _ _ (by omega)).mono ?_; rintro e w' ⟨rfl, rfl⟩)); go_ret; exact ⟨rfl, (by first | exact below_alloc (Below.refl _ _) _ | exact pw_below_drewN (below_alloc (Below.refl _ _) _) _ | exact below_drew (below_alloc (Below.refl _ _) _))⟩)
  | ln1 h h1 h2 => rcases h with rfl | rfl <;> (go_enter Tryd.func22, Tryd.ntmps22; go_wp2_with (first | (go_at_call 29; refine (ptr_yes _ _ (by omega) (by omega)).mono ?_; rintro e w' ⟨rfl, rfl⟩) | (go_at_call 29; refine (ptr_no _ _ (by omega)).mono ?_; rintro e w' ⟨rfl, rfl⟩)); go_ret; exact ⟨rfl, (by first | exact below_alloc (Below.refl _ _) _ | exact pw_below_drewN (below_alloc (Below.refl _ _) _) _ | exact below_drew (below_alloc (Below.refl _ _) _))⟩)
  | sz0 h h1 h2 h3 => rcases h with rfl | rfl <;> (go_enter Tryd.func22, Tryd.ntmps22; go_wp2_with (first | (go_at_call 29; refine (ptr_yes _ _ (by omega) (by omega)).mono ?_; rintro e w' ⟨rfl, rfl⟩) | (go_at_call 29; refine (ptr_no _ _ (by omega)).mono ?_; rintro e w' ⟨rfl, rfl⟩)); go_ret; exact ⟨rfl, (by first | exact below_alloc (Below.refl _ _) _ | exact pw_below_drewN (below_alloc (Below.refl _ _) _) _ | exact below_drew (below_alloc (Below.refl _ _) _))⟩)
  | sz1 h h1 h2 h3 h4 => rcases h with rfl | rfl <;> (go_enter Tryd.func22, Tryd.ntmps22; go_wp2_with (first | (go_at_call 29; refine (ptr_yes _ _ (by omega) (by omega)).mono ?_; rintro e w' ⟨rfl, rfl⟩) | (go_at_call 29; refine (ptr_no _ _ (by omega)).mono ?_; rintro e w' ⟨rfl, rfl⟩)); go_ret; exact ⟨rfl, (by first | exact below_alloc (Below.refl _ _) _ | exact pw_below_drewN (below_alloc (Below.refl _ _) _) _ | exact below_drew (below_alloc (Below.refl _ _) _))⟩)
  | single h h1 h2 h3 h4 h5 => rcases h5 with h5 | h5 <;> (rcases h with rfl | rfl <;> (go_enter Tryd.func22, Tryd.ntmps22; go_wp2_with (first | (go_at_call 29; refine (ptr_yes _ _ (by omega) (by omega)).mono ?_; rintro e w' ⟨rfl, rfl⟩) | (go_at_call 29; refine (ptr_no _ _ (by omega)).mono ?_; rintro e w' ⟨rfl, rfl⟩)); go_ret; exact ⟨rfl, (by first | exact below_alloc (Below.refl _ _) _ | exact pw_below_drewN (below_alloc (Below.refl _ _) _) _ | exact below_drew (below_alloc (Below.refl _ _) _))⟩))
  | double h h1 h2 h3 h4 h5 h6 h7 => rcases h7 with h7 | h7 <;> (rcases h with rfl | rfl <;> (go_enter Tryd.func22, Tryd.ntmps22; go_wp2_with (first | (go_at_call 29; refine (ptr_yes _ _ (by omega) (by omega)).mono ?_; rintro e w' ⟨rfl, rfl⟩) | (go_at_call 29; refine (ptr_no _ _ (by omega)).mono ?_; rintro e w' ⟨rfl, rfl⟩)); go_ret; exact ⟨rfl, (by first | exact below_alloc (Below.refl _ _) _ | exact pw_below_drewN (below_alloc (Below.refl _ _) _) _ | exact below_drew (below_alloc (Below.refl _ _) _))⟩))
set_option maxHeartbeats 4000000 in
set_option maxRecDepth 100000 in
theorem rr_yes (k ln sz x0 x1 x2 x3 x4 x5 x6 x7 x8 x9 x10 x11 x12 x13 x14 x15 s d : Int) (w : World) (hk : k = 1 ∨ k = 2) (h1 : 1 ≤ ln) (h2 : ln ≤ 65535) (h3 : 0 ≤ sz) (h4 : sz ≤ 46368) (h5 : 0 ≤ s) (h6 : s ≤ 65535) (h7 : 0 ≤ d) (h8 : d ≤ 65535) :
    Calls Tryd.prog 22 #[.agg #[.int .i64 k, .int .i64 ln, .int .i64 sz, .int .i64 x0, .int .i64 x1, .int .i64 x2, .int .i64 x3, .int .i64 x4, .int .i64 x5, .int .i64 x6, .int .i64 x7, .int .i64 x8, .int .i64 x9, .int .i64 x10, .int .i64 x11, .int .i64 x12, .int .i64 x13, .int .i64 x14, .int .i64 x15, .int .i64 s, .int .i64 d]] w fun e w' => e = .returned (.bool (okRec [k, ln, sz, x0, x1, x2, x3, x4, x5, x6, x7, x8, x9, x10, x11, x12, x13, x14, x15, s, d])) ∧ Below w.heap.size w w' := by
  obtain ⟨n, hn⟩ : ∃ n, blk sz = n := ⟨_, rfl⟩
  have hnb : 0 ≤ n ∧ n ≤ 828 := by rw [← hn]; unfold blk; omega
  obtain ⟨hn0, hn1⟩ := hnb
  have HN := Lib.hid hn
  clear hn
  obtain ⟨W, hW⟩ : ∃ W, w.alloc (.cells #[.int .i64 k, .int .i64 ln, .int .i64 sz, .int .i64 x0, .int .i64 x1, .int .i64 x2, .int .i64 x3, .int .i64 x4, .int .i64 x5, .int .i64 x6, .int .i64 x7, .int .i64 x8, .int .i64 x9, .int .i64 x10, .int .i64 x11, .int .i64 x12, .int .i64 x13, .int .i64 x14, .int .i64 x15, .int .i64 s, .int .i64 d] 24) = W := ⟨_, rfl⟩
  have HB : Hid (Below w.heap.size w W) := by rw [← hW]; exact below_alloc (Below.refl _ _) _
  have HC : Hid (∀ j, j < 16 → W.cell? ⟨w.heap.size, 3 + j, none⟩ = some (.int .i64 ([x0, x1, x2, x3, x4, x5, x6, x7, x8, x9, x10, x11, x12, x13, x14, x15].getD j 0))) := by
    intro j hj
    have h := (blk_cell (blk_new w (.cells #[.int .i64 k, .int .i64 ln, .int .i64 sz, .int .i64 x0, .int .i64 x1, .int .i64 x2, .int .i64 x3, .int .i64 x4, .int .i64 x5, .int .i64 x6, .int .i64 x7, .int .i64 x8, .int .i64 x9, .int .i64 x10, .int .i64 x11, .int .i64 x12, .int .i64 x13, .int .i64 x14, .int .i64 x15, .int .i64 s, .int .i64 d] 24)) (3 + j))
    rw [hW] at h
    rw [h]
    rcases (by omega : j = 0 ∨ j = 1 ∨ j = 2 ∨ j = 3 ∨ j = 4 ∨ j = 5 ∨ j = 6 ∨ j = 7 ∨ j = 8 ∨ j = 9 ∨ j = 10 ∨ j = 11 ∨ j = 12 ∨ j = 13 ∨ j = 14 ∨ j = 15) with rfl | rfl | rfl | rfl | rfl | rfl | rfl | rfl | rfl | rfl | rfl | rfl | rfl | rfl | rfl | rfl <;> rfl
  have H4 : W.cell? ⟨w.heap.size, 19, none⟩ = some (.int .i64 s) := by rw [← hW]; exact (blk_cell (blk_new w _) 19).trans rfl
  have H5 : W.cell? ⟨w.heap.size, 20, none⟩ = some (.int .i64 d) := by rw [← hW]; exact (blk_cell (blk_new w _) 20).trans rfl
  have HW := Lib.hid hW
  have H4h := Lib.hid H4
  have H5h := Lib.hid H5
  clear hW H4 H5
  have HK := Lib.hid hk
  rcases hk with rfl | rfl
  all_goals (
    go_enter Tryd.func22, Tryd.ntmps22
    go_wp2_with (first | (go_at_call 29; refine (ptr_yes _ _ (by omega) (by omega)).mono ?_; rintro e w' ⟨rfl, rfl⟩) | (go_at_call 30; refine (rblocks_calls _ _ (by omega) (by omega)).mono ?_; rintro e w1 ⟨rfl, rfl⟩; rw [HN.out]))
    rw [HW.out]
    go_loopw [4] (fun i wr => ∃ j m : Nat, j ≤ 16 ∧ i = .int .i64 j ∧ wr = W.drewN m ∧ Hid (∀ q, q < j → ptrOk n q ([x0, x1, x2, x3, x4, x5, x6, x7, x8, x9, x10, x11, x12, x13, x14, x15].getD q 0) = true)) (fun i _ => 16 - (intOf i).toNat)
    case atStart => exact ⟨0, 0, Nat.zero_le _, rfl, rfl, Lib.hid (fun q hq => absurd hq (by omega))⟩
    case round =>
      obtain ⟨j, m, hj, rfl, rfl, HQ⟩ := hrel
      by_cases hlt : j < 16
      · have hc := HC.out j hlt
        obtain ⟨y, hy⟩ : ∃ y, [x0, x1, x2, x3, x4, x5, x6, x7, x8, x9, x10, x11, x12, x13, x14, x15].getD j 0 = y := ⟨_, rfl⟩
        rw [hy] at hc
        have HY := Lib.hid hy
        clear hy
        by_cases hy1 : y < 0 ∨ 65535 < y
        · have HY1 := Lib.hid hy1
          clear hy1
          go_wp2_with (go_at_call 29; refine (ptr_no _ _ HY1.out).mono ?_; rintro e w' ⟨rfl, rfl⟩)
          go_ret
          refine ⟨?_, pw_below_drewN HB.out _⟩
          rw [okDirect_false j hlt (by rw [dir_get _ _ _ _ _ _ _ _ _ _ _ _ _ _ _ _ _ _ _ _ _ j hlt, HY.out]; show ptrOk (blk sz) j y = false; rw [HN.out]; exact ptrOk_false (by have := HY1.out; omega))]
          rfl
        · have hya : 0 ≤ y := by omega
          have hyb : y ≤ 65535 := by omega
          clear hy1
          by_cases hjn : (j : Int) < n
          · go_wp2_with (go_at_call 29; refine (ptr_yes _ _ (by omega) (by omega)).mono ?_; rintro e w' ⟨rfl, rfl⟩)
            go_roundw
            case rel => exact ⟨j + 1, m, by omega, by go_num, rfl, Lib.hid (fun q hq => (Nat.lt_or_ge q j).elim (fun h => HQ.out q h) (fun h => by have e : q = j := by { omega }; subst e; rw [HY.out]; exact ptrOk_true (by omega)))⟩
            case measure => simp [intOf]; omega
          · have hjn' : n ≤ (j : Int) := by omega
            clear hjn
            by_cases hy0 : y = 0
            · subst hy0
              go_wp2_with (go_at_call 29; refine (ptr_yes _ _ (by omega) (by omega)).mono ?_; rintro e w' ⟨rfl, rfl⟩)
              go_roundw
              case rel => exact ⟨j + 1, m, by omega, by go_num, rfl, Lib.hid (fun q hq => (Nat.lt_or_ge q j).elim (fun h => HQ.out q h) (fun h => by have e : q = j := by { omega }; subst e; rw [HY.out]; exact ptrOk_true (by omega)))⟩
              case measure => simp [intOf]; omega
            · have hb0 : (y != 0) = true := by rw [bne_iff_ne]; exact hy0
              have HY0 := Lib.hid hy0
              clear hy0
              go_wp2_with (go_at_call 29; refine (ptr_yes _ _ (by omega) (by omega)).mono ?_; rintro e w' ⟨rfl, rfl⟩)
              go_ret
              refine ⟨?_, pw_below_drewN HB.out _⟩
              rw [okDirect_false j hlt (by rw [dir_get _ _ _ _ _ _ _ _ _ _ _ _ _ _ _ _ _ _ _ _ _ j hlt, HY.out]; show ptrOk (blk sz) j y = false; rw [HN.out]; exact ptrOk_false (by have := HY0.out; omega))]
              rfl
      · have hj16 : j = 16 := by omega
        subst hj16
        have HD := Lib.hid (fun (k0 : Int) => okDirect_true (l := [k0, ln, sz, x0, x1, x2, x3, x4, x5, x6, x7, x8, x9, x10, x11, x12, x13, x14, x15, s, d]) (fun q hq => by rw [dir_get _ _ _ _ _ _ _ _ _ _ _ _ _ _ _ _ _ _ _ _ _ q hq]; show ptrOk (blk sz) q _ = true; rw [HN.out]; exact HQ.out q hq))
        clear HQ
        have H4 := H4h.out
        have H5 := H5h.out
        by_cases a : 16 < n <;> by_cases b : s = 0 <;> by_cases c : 44 < n <;> by_cases e : d = 0
        all_goals first | (exfalso; omega) | skip
        all_goals (
          have hb1 : (s == 0) = decide (s = 0) := by rw [Bool.eq_iff_iff]; simp
          have he1 : (d == 0) = decide (d = 0) := by rw [Bool.eq_iff_iff]; simp
          first | rw [decide_eq_true b] at hb1 | rw [decide_eq_false b] at hb1
          first | rw [decide_eq_true e] at he1 | rw [decide_eq_false e] at he1
          have HBE := Lib.hid (And.intro b e)
          clear b e
          go_wp2
          go_ret
          have b := HBE.out.1
          have e := HBE.out.2
          refine ⟨?_, pw_below_drewN HB.out _⟩
          first
            | (rw [okTail_false HN.out (by omega)]; first | rfl | (simp; done) | (simp [*]; done))
            | (rw [okRec_true (k := 1) HN.out (by omega) (by omega) (by omega) (by omega) (by omega) (HD.out _) (by omega)]; first | rfl | (simp; done) | (simp [*]; done))
            | (rw [okRec_true (k := 2) HN.out (by omega) (by omega) (by omega) (by omega) (by omega) (HD.out _) (by omega)]; first | rfl | (simp; done) | (simp [*]; done))))
theorem moraineref14_Right.calls (l : List Int) (hl : l.length = 21) (w : World) : Calls Tryd.prog 22 #[.agg (encs (Value.int .i64) l).toArray] w fun e w' => e = .returned (.bool (okRec l)) ∧ Below w.heap.size w w' := by
  obtain ⟨k, ln, sz, x0, x1, x2, x3, x4, x5, x6, x7, x8, x9, x10, x11, x12, x13, x14, x15, s, d, rfl⟩ := list21 l hl
  rcases badHead_or k ln sz s d with h | ⟨a1, a2, a3, a4, a5, a6, a7, a8, a9⟩
  · rw [h.no]; exact rr_no k ln sz x0 x1 x2 x3 x4 x5 x6 x7 x8 x9 x10 x11 x12 x13 x14 x15 s d w h
  · exact rr_yes k ln sz x0 x1 x2 x3 x4 x5 x6 x7 x8 x9 x10 x11 x12 x13 x14 x15 s d w a1 a2 a3 a4 a5 a6 a7 a8 a9
end Go.Proofs.YthmfhhkedmloeaaDoor.Given
