/- block.Map.Cut (printed by gencut.py). -/
import Derived.Test.YtlkhlmckgpjopaaDoorGivPlaces
import Derived.Maps.RangeWalk
import Derived.Laws.IdiomRangeMap
import Derived.Deep.LoopGhost
namespace Go.Proofs.YtlkhlmckgpjopaaDoor.Given
open Go.RowKit Go.Maps Go.Sort Go.Shelf Go.Proofs.YtlkhlmckgpjopaaDoorW.PrintWords Go.Proofs.YtlkhlmckgpjopaaDoorW.PrintLast Go.Proofs.YtlkhlmckgpjopaaDoorW.PrintMore Go.Proofs.YtlkhlmckgpjopaaDoor.Base
set_option linter.unusedVariables false
set_option linter.unusedSimpArgs false
theorem Cells.cell {w w1 : World} (hk : Cells w w1) {p : Addr} {u : Value} (h0 : w.cell? p = some u) : w1.cell? p = some u := by
  rw [← h0]
  refine cell_block ?_
  unfold World.cell? at h0
  cases hb : w.heap[p.block]? with
  | none => rw [hb] at h0; simp at h0
  | some o =>
    cases o with
    | cells cs t z => rw [hk _ cs t z hb]; exact hb
    | _ => rw [hb] at h0; simp at h0
/-- The map, the keys from n on taken away; while a walk over it is under way. -/
def cutF {β : Type} (n : Int) (m : Int → Option β) : Int → Option β := fun k => if n ≤ k then none else m k
structure Cutting (n : Int) (m0 m : Int → Option Value) (left : Lit → Bool) : Prop where
  yet : ∀ j, left (.int .i64 j) = true → m j = m0 j
  did : ∀ j, left (.int .i64 j) = false → m j = cutF n m0 j
theorem sameI (j x : Int) : (Lit.int .i64 j).sameKey (.int .i64 x) = decide (j = x) := by
  by_cases e : j = x
  · subst e; rw [WideAt.sameKey_self (keyLit j)]; simp
  · rw [sameKey_ne (keyNe e)]; simp [e]
theorem Cutting.start {D : DataW Value} {m : Int → Option Value} (H : Holds D m) (n : Int) : Cutting n m m (has D) := by
  refine ⟨fun _ _ => rfl, fun j h => ?_⟩
  have : m j = none := by rw [H.has] at h; cases hm : m j <;> simp_all
  unfold cutF; rw [this]; split <;> rfl
theorem Cutting.stays {n : Int} {m0 m : Int → Option Value} {left : Lit → Bool} (h : Cutting n m0 m left) (x : Int) (hl : left (.int .i64 x) = true) (hx : ¬ n ≤ x) : Cutting n m0 m (fun z => left z && !z.sameKey (.int .i64 x)) := by
  refine ⟨fun j hj => h.yet j (by simp_all), fun j hj => ?_⟩
  by_cases e : j = x
  · subst e; unfold cutF; rw [if_neg hx]; exact h.yet j hl
  · rw [sameI, decide_eq_false e] at hj; exact h.did j (by simpa using hj)
theorem Cutting.struck {n : Int} {m0 m : Int → Option Value} {left : Lit → Bool} (h : Cutting n m0 m left) (x : Int) (hx : n ≤ x) : Cutting n m0 (fun j => if j = x then none else m j) (fun z => left z && !z.sameKey (.int .i64 x)) := by
  refine ⟨fun j hj => ?_, fun j hj => ?_⟩
  · rw [sameI] at hj
    have e : ¬ j = x := fun e => by subst e; simp at hj
    show (if j = x then none else m j) = _
    rw [if_neg e]; exact h.yet j (by simp_all)
  · show (if j = x then none else m j) = _
    by_cases e : j = x
    · subst e; unfold cutF; rw [if_pos rfl, if_pos hx]
    · rw [if_neg e]; rw [sameI, decide_eq_false e] at hj; exact h.did j (by simpa using hj)
theorem Cutting.done {n : Int} {m0 m : Int → Option Value} {left : Lit → Bool} (h : Cutting n m0 m left) (hl : ∀ kl, left kl = false) : m = cutF n m0 := funext fun j => h.did j (hl _)
theorem cutF_map {β : Type} (n : Int) (m : Int → Option β) (g : β → Value) : (cutF n fun k => (m k).map g) = fun k => (cutF n m k).map g := by
  funext k; unfold cutF; split <;> rfl
theorem cutfn_I (k n : Int) (v : Value) (bx : Nat) (W : World) (hx : W.cell? ⟨bx, 0, none⟩ = some (.int .i64 n)) :
    Calls Tryd.prog 49 #[.int .i64 k, v, .pointer (some ⟨bx, 0, none⟩)] W fun e w' => e = .returned (.bool (decide (n ≤ k))) ∧ W = w' := by
  go_enter Tryd.func49, Tryd.ntmps49
  go_wp2
  go_ret
  exact ⟨rfl, rfl⟩
set_option maxHeartbeats 4000000 in
set_option maxRecDepth 100000 in
theorem del_I {w : World} (b N : Nat) (D : DataW Value) (m : Int → Option Value) (hown : w.ownsMap Tryd.prog 3 tokR b N D) (H : Holds D m) (n : Int) (bx : Nat) (hx : w.cell? ⟨bx, 0, none⟩ = some (.int .i64 n)) :
    Calls Tryd.prog 48 #[.map (some b), .func (.func 49) #[] #[.pointer (some ⟨bx, 0, none⟩)]] w fun e w' => e = .returned (.tuple #[]) ∧ (∃ D', w'.ownsMap Tryd.prog 3 tokR b N D' ∧ Holds D' (cutF n m)) ∧ w.grownBy w' (some b) := by
  have HX := Lib.hid hx
  have HH := Lib.hid H
  have HO := Lib.hid hown
  clear H hx
  go_enter Tryd.func48, Tryd.ntmps48
  go_wp2_with (first
    | (at_range; refine wpList_range_own _ rfl _ 57 rfl 3 3 law3 Tryd.underlying57 tokR b N _ rfl hown ?_; intro w0 hrg0 hg0 hs0)
    | go_in)
  go_frame
  go_loopw [8] (fun _ wr => ∃ (left : Lit → Bool) (cnt : Nat) (D' : DataW Value) (m' : Int → Option Value), wr.ranges Tryd.prog 3 tokR b w.heap.size N D' left cnt ∧ w.grownBy wr (some b) ∧ Hid (Holds D' m') ∧ Hid (Cutting n m m' left))
    (fun _ wr => wr.rangeLeft b w.heap.size)
  case atStart => exact ⟨_, _, D, m, hrg0, hg0.but _, HH, Cutting.start HH.out n⟩
  case round =>
    obtain ⟨left, cnt, D', m', hrg, hgw, HD, HT⟩ := hrel
    go_wp2_with (first
      | (at_next; refine wpList_next_ranges _ rfl _ rfl 3 law3 tokR (Value.int .i64) id (fun key kl hk => by obtain ⟨x, hx, _⟩ := Maps.keyOf_i64 Tryd.underlying3 hk; exact ⟨x, hx⟩) (fun v _ _ => ⟨v, rfl⟩) b w.heap.size N _ _ _ rfl hrg ?_ ?_)
      | go_in)
    · intro _ hl0
      have hD := HT.out.done hl0
      subst hD
      go_wp2
      go_end0
      exact ⟨rfl, ⟨D', hrg.owns, HD.out⟩, hgw⟩
    · intro x c kl yd yp w1 cnt1 hkey hlx hv hat hrg1 hlt hg1 hs1 hen
      obtain ⟨x', ex, rfl, _⟩ := Maps.keyOf_i64 Tryd.underlying3 hkey
      obtain rfl : x = x' := encZ_inj ex
      have hgw1 := hgw.andThen hg1 (fun j hj => by cases hj; exact Or.inl (Nat.le_refl _))
      have hcx : w1.cell? ⟨bx, 0, none⟩ = some (.int .i64 n) := Cells.cell (w := w) (map_cells HO.out hgw1) HX.out
      by_cases hp : n ≤ x
      · have hpd : decide (n ≤ x) = true := decide_eq_true hp
        go_wp2_with (first
          | (at_delete; refine wpList_delete_ranges _ rfl _ _ 57 3 rfl 3 law3 Tryd.underlying57 tokR b w.heap.size N _ _ _ rfl hrg1 _ _ rfl hkey ?_; intro w3 cnt3 hrg3 hle hturn; go_frame)
          | go_in)
        rw [strike_twice] at hrg3
        go_roundw
        case rel => exact ⟨_, cnt3, _, _, hrg3, hgw1.andThen hturn.grown (fun j hj => by cases hj; exact Or.inr rfl), HD.out.del x, HT.out.struck x hp⟩
        case measure => rw [hrg3.left_eq, hrg.left_eq]; omega
      · have hpd : decide (n ≤ x) = false := decide_eq_false hp
        go_wp2
        go_roundw
        case rel => exact ⟨_, cnt1, _, _, hrg1, hgw1, HD, HT.out.stays x hlx hp⟩
        case measure => rw [hrg1.left_eq, hrg.left_eq]; exact hlt
theorem cut_I {w : World} (b N : Nat) (D : DataW Value) (m : Int → Option Value) (hown : w.ownsMap Tryd.prog 3 tokR b N D) (H : Holds D m) (n : Int) :
    Calls Tryd.prog 32 #[.map (some b), .int .i64 n] w fun e w' => e = .returned (.tuple #[]) ∧ (∃ D', w'.ownsMap Tryd.prog 3 tokR b N D' ∧ Holds D' (cutF n m)) ∧ w.grownBy w' (some b) := by
  have hg0 : w.grownBy (w.alloc (.cells #[.int .i64 n] 3)) (some b) := (grown_of_below ((Below.refl _ w).alloc (Nat.le_refl _) _) none).but _
  have hd := del_I (w := w.alloc (.cells #[.int .i64 n] 3)) b N D m (hown.alloc _) H n w.heap.size ((blk_cell (blk_new w _) 0).trans rfl)
  have HG := Lib.hid hg0
  have HD := Lib.hid hd
  clear hown H hg0 hd
  go_enter Tryd.func32, Tryd.ntmps32
  go_wp2_with fail
  refine HD.out.mono ?_
  rintro e w1 ⟨rfl, h1, h2⟩
  go_wp2
  go_end0
  exact ⟨rfl, h1, HG.out.trans h2⟩
theorem cutfn_B (k n : Int) (v : Value) (bx : Nat) (W : World) (hx : W.cell? ⟨bx, 0, none⟩ = some (.int .i64 n)) :
    Calls Tryd.prog 51 #[.int .i64 k, v, .pointer (some ⟨bx, 0, none⟩)] W fun e w' => e = .returned (.bool (decide (n ≤ k))) ∧ W = w' := by
  go_enter Tryd.func51, Tryd.ntmps51
  go_wp2
  go_ret
  exact ⟨rfl, rfl⟩
set_option maxHeartbeats 4000000 in
set_option maxRecDepth 100000 in
theorem del_B {w : World} (b N : Nat) (D : DataW Value) (m : Int → Option Value) (hown : w.ownsMap Tryd.prog 3 tokR b N D) (H : Holds D m) (n : Int) (bx : Nat) (hx : w.cell? ⟨bx, 0, none⟩ = some (.int .i64 n)) :
    Calls Tryd.prog 50 #[.map (some b), .func (.func 51) #[] #[.pointer (some ⟨bx, 0, none⟩)]] w fun e w' => e = .returned (.tuple #[]) ∧ (∃ D', w'.ownsMap Tryd.prog 3 tokR b N D' ∧ Holds D' (cutF n m)) ∧ w.grownBy w' (some b) := by
  have HX := Lib.hid hx
  have HH := Lib.hid H
  have HO := Lib.hid hown
  clear H hx
  go_enter Tryd.func50, Tryd.ntmps50
  go_wp2_with (first
    | (at_range; refine wpList_range_own _ rfl _ 59 rfl 3 30 law3 Tryd.underlying59 tokR b N _ rfl hown ?_; intro w0 hrg0 hg0 hs0)
    | go_in)
  go_frame
  go_loopw [8] (fun _ wr => ∃ (left : Lit → Bool) (cnt : Nat) (D' : DataW Value) (m' : Int → Option Value), wr.ranges Tryd.prog 3 tokR b w.heap.size N D' left cnt ∧ w.grownBy wr (some b) ∧ Hid (Holds D' m') ∧ Hid (Cutting n m m' left))
    (fun _ wr => wr.rangeLeft b w.heap.size)
  case atStart => exact ⟨_, _, D, m, hrg0, hg0.but _, HH, Cutting.start HH.out n⟩
  case round =>
    obtain ⟨left, cnt, D', m', hrg, hgw, HD, HT⟩ := hrel
    go_wp2_with (first
      | (at_next; refine wpList_next_ranges _ rfl _ rfl 3 law3 tokR (Value.int .i64) id (fun key kl hk => by obtain ⟨x, hx, _⟩ := Maps.keyOf_i64 Tryd.underlying3 hk; exact ⟨x, hx⟩) (fun v _ _ => ⟨v, rfl⟩) b w.heap.size N _ _ _ rfl hrg ?_ ?_)
      | go_in)
    · intro _ hl0
      have hD := HT.out.done hl0
      subst hD
      go_wp2
      go_end0
      exact ⟨rfl, ⟨D', hrg.owns, HD.out⟩, hgw⟩
    · intro x c kl yd yp w1 cnt1 hkey hlx hv hat hrg1 hlt hg1 hs1 hen
      obtain ⟨x', ex, rfl, _⟩ := Maps.keyOf_i64 Tryd.underlying3 hkey
      obtain rfl : x = x' := encZ_inj ex
      have hgw1 := hgw.andThen hg1 (fun j hj => by cases hj; exact Or.inl (Nat.le_refl _))
      have hcx : w1.cell? ⟨bx, 0, none⟩ = some (.int .i64 n) := Cells.cell (w := w) (map_cells HO.out hgw1) HX.out
      by_cases hp : n ≤ x
      · have hpd : decide (n ≤ x) = true := decide_eq_true hp
        go_wp2_with (first
          | (at_delete; refine wpList_delete_ranges _ rfl _ _ 59 3 rfl 30 law3 Tryd.underlying59 tokR b w.heap.size N _ _ _ rfl hrg1 _ _ rfl hkey ?_; intro w3 cnt3 hrg3 hle hturn; go_frame)
          | go_in)
        rw [strike_twice] at hrg3
        go_roundw
        case rel => exact ⟨_, cnt3, _, _, hrg3, hgw1.andThen hturn.grown (fun j hj => by cases hj; exact Or.inr rfl), HD.out.del x, HT.out.struck x hp⟩
        case measure => rw [hrg3.left_eq, hrg.left_eq]; omega
      · have hpd : decide (n ≤ x) = false := decide_eq_false hp
        go_wp2
        go_roundw
        case rel => exact ⟨_, cnt1, _, _, hrg1, hgw1, HD, HT.out.stays x hlx hp⟩
        case measure => rw [hrg1.left_eq, hrg.left_eq]; exact hlt
theorem cut_B {w : World} (b N : Nat) (D : DataW Value) (m : Int → Option Value) (hown : w.ownsMap Tryd.prog 3 tokR b N D) (H : Holds D m) (n : Int) :
    Calls Tryd.prog 33 #[.map (some b), .int .i64 n] w fun e w' => e = .returned (.tuple #[]) ∧ (∃ D', w'.ownsMap Tryd.prog 3 tokR b N D' ∧ Holds D' (cutF n m)) ∧ w.grownBy w' (some b) := by
  have hg0 : w.grownBy (w.alloc (.cells #[.int .i64 n] 3)) (some b) := (grown_of_below ((Below.refl _ w).alloc (Nat.le_refl _) _) none).but _
  have hd := del_B (w := w.alloc (.cells #[.int .i64 n] 3)) b N D m (hown.alloc _) H n w.heap.size ((blk_cell (blk_new w _) 0).trans rfl)
  have HG := Lib.hid hg0
  have HD := Lib.hid hd
  clear hown H hg0 hd
  go_enter Tryd.func33, Tryd.ntmps33
  go_wp2_with fail
  refine HD.out.mono ?_
  rintro e w1 ⟨rfl, h1, h2⟩
  go_wp2
  go_end0
  exact ⟨rfl, h1, HG.out.trans h2⟩
set_option maxRecDepth 100000 in
set_option maxHeartbeats 2000000 in
/-- Cut: all blocks from n on are none. -/
theorem cut_calls {w : World} {base p N : Nat} {a : Int → Option Int} {f : Int → Option (List Int)} (h : BM w base p N a f) (n : Int) :
    Calls Tryd.prog 19 #[.pointer (some ⟨p, 0, none⟩), .int .i64 n] w fun e w' => e = .returned (.tuple #[]) ∧ BM w' base p N (cutF n a) (cutF n f) ∧ Below base w w' ∧ Cells w w' := by
  obtain ⟨bA, bF, DA, DF, mF, hB⟩ := h
  have c0 : w.cell? ⟨p, 0, none⟩ = some (.map (some bA)) := (blk_cell hB.hp 0).trans rfl
  have hu := Tryd.underlying61
  have hca := cut_I bA N DA _ hB.oA hB.hA n
  have HA := Lib.hid hca
  have HB := Lib.hid hB
  have HBE := Lib.hid (Below.refl base w)
  clear hB hca
  go_enter Tryd.func19, Tryd.ntmps19
  go_wp2_with fail
  refine HA.out.mono ?_
  rintro e w2 ⟨rfl, ⟨D2, ho2, hh2⟩, hg2⟩
  rw [cutF_map] at hh2
  have HB2 := Lib.hid (HB.out.turnA (Nat.le_refl _) hg2 ho2 hh2)
  have HX2 : Hid (Cells w w2) := map_cells HB.out.oA hg2
  have HE2 : Hid (Below base w w2) := HBE.out.grown hg2 (Nat.le_trans HB.out.bp (Nat.le_of_lt (blk_lt HB.out.hp))) (fun q e => by cases e; exact HB.out.ba)
  have c02 : w2.cell? ⟨p, 1, none⟩ = some (.map (some bF)) := (blk_cell HB2.out.hp 1).trans rfl
  have HF := Lib.hid (cut_B bF N DF mF HB2.out.oF HB2.out.hF n)
  clear ho2 hh2 hg2
  go_wp2_with fail
  refine HF.out.mono ?_
  rintro e w3 ⟨rfl, ⟨D3, ho3, hh3⟩, hg3⟩
  have HB3 := Lib.hid (HB2.out.turnF (f1 := cutF n f) (Nat.le_refl _) hg3 ho3 hh3 (fun k => by
    have := HB2.out.el k
    unfold cutF
    split
    · exact ⟨fun _ => rfl, fun r hr => by cases hr⟩
    · exact this))
  have HX3 : Hid (Cells w w3) := HX2.out.trans (map_cells HB2.out.oF hg3)
  have HE3 : Hid (Below base w w3) := HE2.out.grown hg3 (Nat.le_trans HB2.out.bp (Nat.le_of_lt (blk_lt HB2.out.hp))) (fun q e => by cases e; exact HB2.out.bf)
  clear ho3 hh3 hg3
  go_wp2
  go_end0
  exact ⟨rfl, ⟨_, _, _, _, _, HB3.out⟩, HE3.out, HX3.out⟩
end Go.Proofs.YtlkhlmckgpjopaaDoor.Given
