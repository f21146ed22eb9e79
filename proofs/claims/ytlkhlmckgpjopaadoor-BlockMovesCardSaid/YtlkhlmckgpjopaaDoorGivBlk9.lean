/- block.Map.There's iterator: by hand. -/
import Derived.Test.YtlkhlmckgpjopaaDoorGivBlk8
namespace Go.Proofs.YtlkhlmckgpjopaaDoor.Given
open Go.RowKit Go.Maps Go.Sort Go.Shelf Go.Proofs.YtlkhlmckgpjopaaDoorW.PrintWords Go.Proofs.YtlkhlmckgpjopaaDoorW.PrintLast Go.Proofs.YtlkhlmckgpjopaaDoorW.PrintMore Go.Proofs.YtlkhlmckgpjopaaDoor.Base
set_option linter.unusedVariables false
set_option linter.unusedSimpArgs false
attribute [local go_sem] Oper.semAt_some
/-- What There's iterator gives: the blocks at addresses, then the new ones. -/
def ThereS (N : Nat) (a : Int → Option Int) (f : Int → Option (List Int)) (ss : List Int) : Prop :=
  ∃ s1 s2 : List Int, ss = s1 ++ s2 ∧ s1.length ≤ N ∧ s2.length ≤ N ∧ s1.Nodup ∧ s2.Nodup ∧ (∀ x, x ∈ s1 ↔ a x ≠ none) ∧ ∀ x, x ∈ s2 ↔ f x ≠ none
theorem collected_all {D : DataW Value} {left : Lit → Bool} {ss : List Int} {m : Int → Option Value} (hC : CollectedI D left ss) (h : left = fun _ => false) (H : Holds D m) : ss.Nodup ∧ ∀ x, x ∈ ss ↔ m x ≠ none := by
  refine ⟨hC.1, fun x => ?_⟩
  rw [hC.2 x, h, H.has]
  cases m x <;> simp
set_option maxRecDepth 100000 in
set_option maxHeartbeats 4000000 in
theorem there_seq {w : World} {base p N : Nat} {a : Int → Option Int} {f : Int → Option (List Int)} (h : BM w base p N a f) (hN : N ≤ 1000000) (Bx : Nat) (hx : w.cell? ⟨Bx, 0, none⟩ = some (.pointer (some ⟨p, 0, none⟩))) (hlt : Bx < w.heap.size) :
    SeqStopsK Fence.wide 2 Tryd.prog 31 #[.pointer (some ⟨Bx, 0, none⟩)] (fun x : Int => #[.int .i64 x]) (KpT w.heap.size) (ThereS N a f) (fun _ => True) (2 * N) w := by
  intro l J Jx W hW hJ _ hY h0
  obtain ⟨bA, bF, DA, DF, mF, hB⟩ := h
  have hB0 := hB.below hW
  have cx : W.cell? ⟨Bx, 0, none⟩ = some (.pointer (some ⟨p, 0, none⟩)) := (hW.cell (p := ⟨Bx, 0, none⟩) hlt).trans hx
  have c0 : W.cell? ⟨p, 0, none⟩ = some (.map (some bA)) := (blk_cell hB0.hp 0).trans rfl
  have hown := hB0.oA
  have hszA := hown.size_le
  have HB := Lib.hid hB
  clear hB hB0
  have hu := Tryd.underlying61
  change CallsIn Fence.wide 2 Tryd.prog 31 #[.func (.yield l) #[] #[], .pointer (some ⟨Bx, 0, none⟩)] W _
  refine callsIn_of_wp Tryd.func31 rfl trivial ?_ rfl
  simp only [Tryd.ntmps31, List.size_toArray, List.length_cons, List.length_nil, Nat.reduceAdd, Nat.reduceSub, Array.replicate_succ, Array.replicate_zero, List.push_toArray, List.append_toArray, List.nil_append, List.cons_append]
  gi_wp2_with (first
    | (gi_at_range; refine wpListIn_range_own _ rfl _ 57 rfl 3 3 law3 Tryd.underlying57 _ bA N _ rfl hown ?_; intro w0 hrg0 hg0 hs0)
    | gi_in)
  try go_frame
  gi_loopw [3] (fun _ wr => ∃ (left : Lit → Bool) (cnt : Nat) (ss : List Int), wr.ranges Tryd.prog 3 tokR bA W.heap.size N DA left cnt ∧ ss.length + cnt ≤ Maps.size DA ∧ CollectedI DA left ss ∧ J ss wr ∧ Below w.heap.size w wr)
    (fun _ wr => wr.rangeLeft bA W.heap.size)
  case atStart =>
    exact ⟨_, _, [], hrg0, by simp, CollectedI.start DA, hJ [] W w0 none h0 hg0 (fun r e => by cases e), hW.grown hg0 hW.size (fun k e => by cases e)⟩
  case round =>
    obtain ⟨left, cnt, ss, hrg, hcs, hC, hJs, hbr⟩ := hrel
    gi_wp2_with (first
      | (gi_at_next; refine wpListIn_next_ranges _ rfl _ rfl 3 law3 tokR encZ id (fun key kl hk => by obtain ⟨x, hx, _⟩ := Maps.keyOf_i64 Tryd.underlying3 hk; exact ⟨x, hx⟩) (fun v _ _ => ⟨v, rfl⟩) bA W.heap.size N _ _ _ rfl hrg ?_ ?_)
      | gi_in)
    · intro hc0 hl0
      obtain ⟨W1, rfl⟩ : ∃ z : World, z = wr := ⟨_, rfl⟩
      have hall := collected_all hC (funext hl0) HB.out.hA
      have hB1 := HB.out.below hbr
      have cx1 : W1.cell? ⟨Bx, 0, none⟩ = some (.pointer (some ⟨p, 0, none⟩)) := (hbr.cell (p := ⟨Bx, 0, none⟩) hlt).trans hx
      have c1 : W1.cell? ⟨p, 1, none⟩ = some (.map (some bF)) := (blk_cell hB1.hp 1).trans rfl
      have hownF := hB1.oF
      have hszF := hownF.size_le
      have hHF := hB1.hF
      have hel := Lib.hid hB1.el
      have hWr : W.heap.size ≤ W1.heap.size := by
        obtain ⟨o, ho, _⟩ := hrg.iter_walk
        exact Nat.le_of_lt (Array.getElem?_eq_some_iff.1 ho).1
      clear hB1 hrg hc0 cx c0 hown
      gi_wp2_with (first
        | (gi_at_range; refine wpListIn_range_own _ rfl _ 59 rfl 3 30 law3 Tryd.underlying59 _ bF N _ rfl hownF ?_; intro w3 hrg3 hg3 hs3)
        | gi_in)
      try go_frame
      gi_loopw [4] (fun _ wq => ∃ (left : Lit → Bool) (cnt : Nat) (s2 : List Int), wq.ranges Tryd.prog 3 tokR bF W1.heap.size N DF left cnt ∧ s2.length + cnt ≤ Maps.size DF ∧ CollectedI DF left s2 ∧ J (ss ++ s2) wq ∧ Below w.heap.size w wq)
        (fun _ wq => wq.rangeLeft bF W1.heap.size)
      case atStart =>
        exact ⟨_, _, [], hrg3, by simp, CollectedI.start DF, by rw [List.append_nil]; exact hJ ss W1 w3 none hJs hg3 (fun r e => by cases e), hbr.grown hg3 hbr.size (fun k e => by cases e)⟩
      case round =>
        obtain ⟨left2, cnt2, s2, hrg2, hcs2, hC2, hJs2, hbr2⟩ := hrel
        gi_wp2_with (first
          | (gi_at_next; refine wpListIn_next_ranges _ rfl _ rfl 3 law3 tokR encZ id (fun key kl hk => by obtain ⟨x, hx, _⟩ := Maps.keyOf_i64 Tryd.underlying3 hk; exact ⟨x, hx⟩) (fun v _ _ => ⟨v, rfl⟩) bF W1.heap.size N _ _ _ rfl hrg2 ?_ ?_)
          | gi_in)
        · intro hc1 hl1
          have hall2 := collected_all hC2 (funext hl1) hHF
          gi_wp2
          go_end0
          refine ⟨⟨_, rfl⟩, .inl ⟨ss ++ s2, ⟨ss, s2, rfl, by omega, by omega, hall.1, hall2.1, fun x => ?_, fun x => ?_⟩, hJs2⟩⟩
          · rw [hall.2 x]; cases a x <;> simp
          · rw [hall2.2 x]
            have := hel.out x
            cases hf : f x with
            | none => rw [this.1 hf]; simp
            | some r => obtain ⟨u, hu, _⟩ := this.2 r hf; rw [hu]; simp
        · intro x c kl yd yp w4 cnt4 hkey hlk hv hat hrg4 hlt4 hg4 hs4 hen
          obtain ⟨x', ex, rfl, _⟩ := Maps.keyOf_i64 Tryd.underlying3 hkey
          obtain rfl : x = x' := encZ_inj ex
          have hJ4 : J (ss ++ s2) w4 := hJ (ss ++ s2) _ w4 (some W1.heap.size) hJs2 hg4 (fun r e => by cases e; exact ⟨hWr, hrg2.iter_walk⟩)
          have hb4 : Below w.heap.size w w4 := hbr2.grown hg4 hbr2.size (fun k e => by cases e; exact Nat.le_trans hW.size hWr)
          obtain ⟨fn, tmps, assign, body, hy, hR⟩ := hY (ss ++ s2) x w4 hJ4 (by rw [List.length_append]; omega)
          clear hs4
          gi_wp2
          refine hR.mono ?_
          have hC4 := hC2.step hlk hat
          rintro e W5 (⟨rfl, hJ5, hk5⟩ | ⟨rfl, hJx5⟩)
          · gi_wp2
            have hrg5 := hrg4.of_walks hk5.1
            go_roundw
            case rel => exact ⟨_, cnt4, s2 ++ [x], hrg5, by simp; omega, hC4, by rw [← List.append_assoc]; exact hJ5, hb4.trans hk5.2⟩
            case measure => rw [hrg5.left_eq, hrg2.left_eq]; exact hlt4
          · gi_wp2
            refine bodyPost_ret (results_none rfl _ _ _) rfl ?_
            exact ⟨⟨_, rfl⟩, .inr ⟨ss ++ s2 ++ [x], trivial, hJx5⟩⟩
    · intro x c kl yd yp w2 cnt2 hkey hlk hv hat hrg2 hlt2 hg2 hs2 hen
      obtain ⟨x', ex, rfl, _⟩ := Maps.keyOf_i64 Tryd.underlying3 hkey
      obtain rfl : x = x' := encZ_inj ex
      have hJ2 : J ss w2 := hJ ss wr w2 (some W.heap.size) hJs hg2 (fun r e => by cases e; exact ⟨Nat.le_refl _, hrg.iter_walk⟩)
      have hb2 : Below w.heap.size w w2 := hbr.grown hg2 hbr.size (fun k e => by cases e; exact hW.size)
      obtain ⟨fn, tmps, assign, body, hy, hR⟩ := hY ss x w2 hJ2 (by omega)
      clear hs2
      gi_wp2
      refine hR.mono ?_
      have hC2 := hC.step hlk hat
      rintro e W3 (⟨rfl, hJ3, hk3⟩ | ⟨rfl, hJx3⟩)
      · gi_wp2
        have hrg3 := hrg2.of_walks hk3.1
        go_roundw
        case rel => exact ⟨_, cnt2, ss ++ [x], hrg3, by simp; omega, hC2, hJ3, hb2.trans hk3.2⟩
        case measure => rw [hrg3.left_eq, hrg.left_eq]; exact hlt2
      · gi_wp2
        refine bodyPost_ret (results_none rfl _ _ _) rfl ?_
        exact ⟨⟨_, rfl⟩, .inr ⟨ss ++ [x], trivial, hJx3⟩⟩
end Go.Proofs.YtlkhlmckgpjopaaDoor.Given
