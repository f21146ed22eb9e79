/- HBlks2: HivBlk6, HivBlk7, HivBlk8, HivBlk9, HivBlk10. -/
import Derived.Test.YthahdombnmkokaaDoorHBlks1
import Derived.Test.YthahdombnmkokaaDoorShelf
import Derived.Test.YthahdombnmkokaaDoorShelf2
import Derived.RangeFuncStops
import Derived.RangeFuncBound
import Derived.Maps.OwnIn
import Derived.RangeFuncNested
import Derived.RangeFuncCalls
import Derived.RangeFuncLeaves
import Derived.RangeFuncBox
import Derived.Maps.AppendAt
import Derived.Shelf.Abstract
import Derived.Shelf.RegionOpen
import Derived.OwnWalkIn
import Derived.TacticsInMore
import Derived.LoopNIn
import Derived.LoopIn
/- block.Map: Fresh: by hand, over the shelf's maps.Keys and slices.Sorted. -/
namespace Go.Proofs.YthahdombnmkokaaDoor.Given
open Go.RowKit Go.Maps Go.Sort Go.Shelf Go.Proofs.YthahdombnmkokaaDoorW.PrintWords Go.Proofs.YthahdombnmkokaaDoorW.PrintLast Go.Proofs.YthahdombnmkokaaDoorW.PrintMore Go.Proofs.YthahdombnmkokaaDoor.Base
set_option linter.unusedVariables false
set_option linter.unusedSimpArgs false
variable {G : Nat → Prop}
def once : List Int → List Int
  | [] => []
  | x :: l => if x ∈ l then once l else x :: once l
theorem mem_once (x : Int) : ∀ l : List Int, x ∈ once l ↔ x ∈ l
  | [] => by simp [once]
  | y :: l => by
    have ih := mem_once x l
    simp only [once]
    by_cases h : y ∈ l
    · rw [if_pos h, ih, List.mem_cons]; exact ⟨.inr, fun k => k.elim (fun e => e ▸ h) id⟩
    · rw [if_neg h, List.mem_cons, List.mem_cons, ih]
theorem once_nodup : ∀ l : List Int, (once l).Nodup
  | [] => List.nodup_nil
  | y :: l => by
    simp only [once]
    by_cases h : y ∈ l
    · rw [if_pos h]; exact once_nodup l
    · rw [if_neg h, List.nodup_cons]; exact ⟨fun k => h ((mem_once y l).1 k), once_nodup l⟩
theorem keys_nodup {w : World} {b n : Nat} {D : DataW Value} (hown : w.ownsMap Tryd.prog 3 tokR b n D) {ss : List Int} (hp : ss.Perm (intKeys D)) (hm : ∀ x, x ∈ ss ↔ has D (.int .i64 x) = true) : ss.Nodup := by
  have hC : CollectedI D (fun _ => false) (once ss) := ⟨once_nodup ss, fun x => by rw [mem_once, hm]; simp⟩
  have := hC.perm hown law3 Tryd.underlying3 (fun _ => rfl)
  exact ((hp.trans this.symm).nodup_iff).2 (once_nodup ss)
theorem sortsIn (m : Nat) : AnyZI.SortsIn Tryd.prog Tryd.sortedA_ren Fence.wide m :=
  ⟨fun blk off cap ss W hH hblk hsz => callsIn_wide.2 (Tryd.slices_Sort_int blk off cap ss W hH hblk hsz),
   fun p cap W => callsIn_wide.2 (Tryd.slices_Sort_int_none p cap W)⟩
/-- A list that rises, of just the numbers of which P holds. -/
structure Rises (L : List Int) (P : Int → Prop) : Prop where
  up : L.Pairwise (· < ·)
  mem : ∀ x, x ∈ L ↔ P x
theorem Rises.of_sort {ss : List Int} {P : Int → Prop} (hn : ss.Nodup) (hm : ∀ x, x ∈ ss ↔ P x) : Rises (ss.mergeSort fun x y => decide (x ≤ y)) P := by
  refine ⟨?_, fun x => by rw [(List.mergeSort_perm ss _).mem_iff]; exact hm x⟩
  have h1 : (ss.mergeSort fun x y => decide (x ≤ y)).Pairwise (fun x y => decide (x ≤ y) = true) := by
    refine List.pairwise_mergeSort ?_ ?_ ss
    · intro a b c h1 h2; simp only [decide_eq_true_eq] at *; omega
    · intro a b; simp only [Bool.or_eq_true, decide_eq_true_eq]; omega
  have h2 : (ss.mergeSort fun x y => decide (x ≤ y)).Pairwise (· ≠ ·) := (List.mergeSort_perm ss _).nodup_iff.2 hn
  refine (h1.and h2).imp ?_
  rintro a b ⟨h, hne⟩
  simp only [decide_eq_true_eq] at h
  omega
set_option maxHeartbeats 2000000 in
set_option maxRecDepth 100000 in
/-- Fresh: the blocks that are new. -/
theorem fresh_calls {w : World} {base p N : Nat} {a : Int → Option Int} {f : Int → Option (List Int)} (h : BM G w base p N a f) (hN : N ≤ 1000000) :
    Calls Tryd.prog 19 #[.pointer (some ⟨p, 0, none⟩)] w fun e w' => ∃ (v : Value) (L : List Int), e = .returned v ∧ Rises L (fun k => f k ≠ none) ∧ w'.ownsRow w.heap.size 3 1 v L.length (L.map (Value.int .i64)) ∧ Below w.heap.size w w' := by
  obtain ⟨bA, bF, DA, DF, mF, hB⟩ := h
  have c0 : w.cell? ⟨p, 1, none⟩ = some (.map (some bF)) := (blk_cell hB.hp 1).trans rfl
  have hu := Tryd.underlying74
  refine (callsIn_wide (n := 6)).1 ?_
  have hsz := hB.oF.size_le
  have hbl := hB.oF.lt
  have hown : (w.alloc (.cells #[.map (some bF)] 72)).ownsMap Tryd.prog 3 tokR bF N DF := hB.oF.alloc _
  have hcm : (w.alloc (.cells #[.map (some bF)] 72)).cell? ⟨w.heap.size, 0, none⟩ = some (.map (some bF)) := (blk_cell (blk_new w _) 0).trans rfl
  have hst := AnyZI.keys_stops (ρ := Tryd.keysA_ren) { Tryd.keysA with } Fence.wide 2 trivial rfl (by omega) w.heap.size bF N DF (w.alloc (.cells #[.map (some bF)] 72)) (by simp) hcm hown
  have hseq := hst.gives
  have cK : ∀ mb W, CallsIn Fence.wide 5 Tryd.prog 34 #[.map mb] W fun e w' => e = .returned (.func (.func 44) #[] #[.pointer (some ⟨W.heap.size, 0, none⟩)]) ∧ w' = W.alloc (.cells #[.map mb] 72) := fun mb W => AnyZI.keys_in Tryd.keysA Fence.wide 5 trivial rfl mb W
  have cS := AnyZI.sorted_in Tryd.sortedA Fence.wide 5 trivial trivial trivial trivial rfl (by omega) (sortsIn _) (enters_of Tryd.func43 (by kernel_rfl) rfl) 44 #[.pointer (some ⟨w.heap.size, 0, none⟩)] trivial (enters_of Tryd.func44 (by kernel_rfl) rfl) _ _ (by unfold maxLen; omega) (by omega) _ hseq
  change CallsIn _ _ Tryd.prog 32 _ _ _ at cS
  have hfK : Fence.wide.fn 34 := trivial
  have hfS : Fence.wide.fn 32 := trivial
  have HB := Lib.hid hB
  clear hst hseq hB hown hcm
  refine callsIn_of_wp Tryd.func19 rfl trivial ?_ rfl
  simp only [Tryd.ntmps19, List.size_toArray, List.length_cons, List.length_nil, Nat.reduceAdd, Nat.reduceSub, Array.replicate_succ, Array.replicate_zero, List.push_toArray, List.append_toArray, List.nil_append, List.cons_append]
  gi_wp2_with (first
    | (gi_at_call 34; refine (cK _ _).mono ?_; rintro e w' ⟨rfl, rfl⟩)
    | (gi_at_call 32; refine cS.mono ?_; rintro e w' ⟨v, ss, rfl, hS, hrow, hnil, hb⟩))
  go_ret
  have hm : ∀ x, x ∈ ss ↔ f x ≠ none := by
    intro x
    rw [hS.2 x, HB.out.hF.has]
    have := HB.out.el x
    cases hf : f x with
    | none => rw [this.1 hf]; simp
    | some r => obtain ⟨u, hu, _⟩ := this.2 r hf; rw [hu]; simp
  refine ⟨v, _, rfl, Rises.of_sort (keys_nodup HB.out.oF hS.1 hS.2) hm, ?_, ((Below.refl _ w).alloc (Nat.le_refl _) _).trans (hb.mono (by simp))⟩
  rw [List.length_mergeSort]
  exact ownsRow_base_a hrow (by simp)
end Go.Proofs.YthahdombnmkokaaDoor.Given

/- slices.AppendSeq, Collect and Sorted over an iterator that reads memory between its rounds: by hand. -/
namespace Go.Proofs.YthahdombnmkokaaDoor.Given
open Go.RowKit Go.Maps Go.Sort Go.Shelf Go.Proofs.YthahdombnmkokaaDoorW.PrintWords Go.Proofs.YthahdombnmkokaaDoorW.PrintLast Go.Proofs.YthahdombnmkokaaDoorW.PrintMore Go.Proofs.YthahdombnmkokaaDoor.Base
set_option linter.unusedVariables false
set_option linter.unusedSimpArgs false
variable {G : Nat → Prop}
attribute [local go_sem] Oper.semAt_some
theorem infoI : (Tryd.prog.info? 3).map (fun i => (i.zero, i.size, i.bytes)) = some (some (.int .i64 0), 1, 8) := by kernel_rfl
/-- What a round keeps. -/
def KpT (n₀ : Nat) (W W' : World) : Prop := KeepsWalks W W' ∧ Below n₀ W W'
theorem KpT.trans {n₀ : Nat} {A B C : World} (h : KpT n₀ A B) (k : KpT n₀ B C) : KpT n₀ A C := ⟨h.1.trans k.1, h.2.trans k.2⟩
theorem KpT.put {n₀ : Nat} {w : World} (hn : n₀ ≤ w.heap.size) (W : World) (l : Nat) (o o' : Obj) (hl : w.heap.size ≤ l) (h : W.heap[l]? = some o) (h1 : o.isCells = false) (h2 : o.isWalk = false) : KpT n₀ W (W.putObj l o') :=
  ⟨walksK_b W l o o' hl h h1 h2, belowK_b hn W l o o' hl h h1 h2⟩
set_option maxRecDepth 100000 in
set_option maxHeartbeats 4000000 in
theorem appendSeq_K (g : Nat) (lb : Array Value) (eg : ∀ args w, (callFunc g args).run Tryd.prog w = .ok (.enter g args) w) (S : List Int → Prop) (N : Nat) (hN : N ≤ 2000000) (w : World)
    (hseq : SeqStopsK Fence.wide 2 Tryd.prog g lb (fun x : Int => #[.int .i64 x]) (KpT w.heap.size) S (fun _ => True) N w) :
    CallsIn Fence.wide 3 Tryd.prog 51 #[.slice none 0 0, .func (.func g) #[] lb] w fun e w' => ∃ (v : Value) (ss : List Int), e = .returned v ∧ S ss ∧ w'.ownsRow w.heap.size 3 1 v ss.length (ss.map (Value.int .i64)) ∧ Below w.heap.size w w' := by
  obtain ⟨i0, hi, hz0, hz1, hz2⟩ := info_parts infoI
  have HSEQ := Lib.hid hseq
  clear hseq
  refine callsIn_of_wp_marks Tryd.func51 rfl trivial ?_ rfl
  simp only [Tryd.ntmps51, List.size_toArray, List.length_cons, List.length_nil, Nat.reduceAdd, Nat.reduceSub, Array.replicate_succ, Array.replicate_zero, List.push_toArray, List.append_toArray, List.nil_append, List.cons_append]
  gi_wp2
  have hO : Boxed (w.alloc (.cells #[.slice none 0 0] 30)) w.heap.size 30 (.slice none 0 0) := Boxed.new w 30 (.slice none 0 0)
  have hB1 : Below w.heap.size w (w.alloc (.cells #[.slice none 0 0] 30)) := (Below.refl _ w).alloc (Nat.le_refl _) _
  refine wpIn_rangeFunc_ownG (w0 := w) rfl (by decide) (gf := g) (lb := lb) rfl trivial eg HSEQ.out KpT.trans (fun W l o o' hl hw h1 h2 => KpT.put (w := w.alloc (.cells #[.slice none 0 0] 30)) (by simp) W l o o' hl hw h1 h2) hB1 (fun _ => rfl)
    (fun pre W => (∃ v, Boxed W w.heap.size 30 v ∧ W.ownsRow w.heap.size 3 1 v pre.length (pre.map (Value.int .i64)) ∧ True) ∧ Below w.heap.size w W)
    (fun _ _ _ => False)
    (OwnFrom.and (Own.from (holdsRow_own w.heap.size w.heap.size 30 3 1 (fun pre => pre.length) (fun pre : List Int => pre.map (Value.int .i64)) (fun _ _ => True)) _) (ownFrom_below (Nat.le_refl _) (by simp)))
    (fun _ _ _ _ _ hs _ _ => hs)
    ⟨⟨_, hO, World.ownsRow_nil _ _ _ _, trivial⟩, hB1⟩
    (fun x => { tmps := #[.slice none 0 0, .func (.func g) #[] lb, .pointer (some ⟨w.heap.size, 0, none⟩), undef, .slice none 0 0, .int .i64 x, .func (.func g) #[] lb, .int .i64 x, undef, undef, undef, undef, undef], defers := [] }) ?assign ?body ?done ?stop
  case assign =>
    intro l x W K hK
    gi_wp2
    exact hK
  case body =>
    rintro l pre x W ⟨⟨v, hv, hrow, _⟩, hB⟩ hlt
    have hc := hv.cell
    gi_wp2_with (gi_at_builtin; refine wpListIn_append_own _ rfl _ _ 30 rfl w.heap.size 3 i0 (.int .i64 0) 1 8 Tryd.underlying30 hi hz0 hz1 hz2 rfl (by decide) _ _ _ rfl (hrow.alloc _) ⟨W.heap.size, 0, none⟩ 1 1 [.int .i64 x] rfl rfl (cell_one_new _ _ _) (by simp [Value.oneCell']) (by unfold maxLen; omega) (by omega) (by have := hB.size; simp; omega) ?_; intro v' w1 hown' hgrow _; obtain ⟨g', cap', rfl⟩ := ownsRow_succ hown'; obtain ⟨hv1, hv2, hr2, hk2, hb2⟩ := hv.appended (by decide) hrow hB.size (Nat.le_refl _) hown' hgrow; have hc1 := hv1.cell; have hf1 := hv1.frozen)
    refine ⟨hk2.from _, ⟨hk2.walks, hb2⟩, ⟨_, hv2, ?_, trivial⟩, hB.trans hb2⟩
    rw [List.length_append, List.map_append]
    exact hr2
  case done =>
    rintro D ys W hD hS ⟨⟨v, hv, hrow, _⟩, hB⟩ hK
    have hc := hv.cell
    gi_wp2
    refine ⟨by simp, .inl ⟨_, _, rfl, run_takeDeferred hK, ?_⟩⟩
    exact ⟨_, results_tmp rfl _ _ _, v, ys, rfl, hS, ownsRow_putObj hrow _ hK rfl, hB.trans (belowK_b (w := w) (Nat.le_refl _) W D _ _ (by simp at hD; omega) hK rfl rfl)⟩
  case stop =>
    rintro D c pre W _ _ h _
    exact h.elim
end Go.Proofs.YthahdombnmkokaaDoor.Given

/- slices.Collect and Sorted over an iterator that reads memory between its rounds; block.Map.There: by hand. -/
namespace Go.Proofs.YthahdombnmkokaaDoor.Given
open Go.RowKit Go.Maps Go.Sort Go.Shelf Go.Proofs.YthahdombnmkokaaDoorW.PrintWords Go.Proofs.YthahdombnmkokaaDoorW.PrintLast Go.Proofs.YthahdombnmkokaaDoorW.PrintMore Go.Proofs.YthahdombnmkokaaDoor.Base
set_option linter.unusedVariables false
set_option linter.unusedSimpArgs false
variable {G : Nat → Prop}
attribute [local go_sem] Oper.semAt_some
set_option maxRecDepth 100000 in
set_option maxHeartbeats 2000000 in
theorem collect_K (g : Nat) (lb : Array Value) (eg : ∀ args w, (callFunc g args).run Tryd.prog w = .ok (.enter g args) w) (S : List Int → Prop) (N : Nat) (hN : N ≤ 2000000) (w : World)
    (hseq : SeqStopsK Fence.wide 2 Tryd.prog g lb (fun x : Int => #[.int .i64 x]) (KpT w.heap.size) S (fun _ => True) N w) :
    CallsIn Fence.wide 4 Tryd.prog 42 #[.func (.func g) #[] lb] w fun e w' => ∃ (v : Value) (ss : List Int), e = .returned v ∧ S ss ∧ w'.ownsRow w.heap.size 3 1 v ss.length (ss.map (Value.int .i64)) ∧ Below w.heap.size w w' := by
  have cA := appendSeq_K g lb eg S N hN w hseq
  clear hseq
  have hfA : Fence.wide.fn 51 := trivial
  refine callsIn_of_wp Tryd.func42 rfl trivial ?_ rfl
  simp only [Tryd.ntmps42, List.size_toArray, List.length_cons, List.length_nil, Nat.reduceAdd, Nat.reduceSub, Array.replicate_succ, Array.replicate_zero, List.push_toArray, List.append_toArray, List.nil_append, List.cons_append]
  gi_wp2_with (gi_at_call 51; refine cA.mono ?_; rintro e w' ⟨v, ss, rfl, hS, hrow, hb⟩)
  go_ret
  exact ⟨v, ss, rfl, hS, hrow, hb⟩
set_option maxRecDepth 100000 in
set_option maxHeartbeats 2000000 in
theorem sorted_K (g : Nat) (lb : Array Value) (eg : ∀ args w, (callFunc g args).run Tryd.prog w = .ok (.enter g args) w) (S : List Int → Prop) (N : Nat) (hN : N ≤ 2000000) (w : World) (hlen : ∀ ss, S ss → ss.length ≤ N)
    (hseq : SeqStopsK Fence.wide 2 Tryd.prog g lb (fun x : Int => #[.int .i64 x]) (KpT w.heap.size) S (fun _ => True) N w) :
    CallsIn Fence.wide 5 Tryd.prog 32 #[.func (.func g) #[] lb] w fun e w' => ∃ (v : Value) (ss : List Int), e = .returned v ∧ S ss ∧ w'.ownsRow w.heap.size 3 1 v ss.length ((ss.mergeSort fun x y => decide (x ≤ y)).map (Value.int .i64)) ∧ Below w.heap.size w w' := by
  have cA := collect_K g lb eg S N hN w hseq
  clear hseq
  have hfA : Fence.wide.fn 42 := trivial
  have hfS : Fence.wide.fn 43 := trivial
  have hsort := sortsIn 4
  refine callsIn_of_wp Tryd.func32 rfl trivial ?_ rfl
  simp only [Tryd.ntmps32, List.size_toArray, List.length_cons, List.length_nil, Nat.reduceAdd, Nat.reduceSub, Array.replicate_succ, Array.replicate_zero, List.push_toArray, List.append_toArray, List.nil_append, List.cons_append]
  gi_wp2_with (gi_at_call 42; refine cA.mono ?_; rintro e W ⟨v, ss, rfl, hS, hrow, hb⟩)
  have hl := hlen ss hS
  rcases hrow.2 with ⟨rfl, hz⟩ | ⟨gb, cap, cur, rfl, hbase, hgb, r1, r2, r3, r4⟩
  · have hss : ss = [] := List.eq_nil_of_length_eq_zero hz
    subst hss
    have cS := hsort.2 none 0 W
    change CallsIn _ _ Tryd.prog 43 _ _ _ at cS
    gi_wp2_with (gi_at_call 43; refine cS.mono ?_; rintro e w' ⟨rfl, rfl⟩)
    go_ret
    exact ⟨.slice none 0 0, [], rfl, hS, by simpa using hrow, hb⟩
  · have hH : Go.Sort.Holds encZ W gb 0 ss.toArray := holds_of_block_i hgb (by simpa using r4)
    have hgl : gb < W.heap.size := (Array.getElem?_eq_some_iff.1 hgb).1
    have cS := hsort.1 gb 0 cap ss W hH hgl (by omega)
    change CallsIn _ _ Tryd.prog 43 _ _ _ at cS
    gi_wp2_with (gi_at_call 43; refine cS.mono ?_; rintro e w' ⟨rfl, nn, os, rfl⟩)
    go_ret
    exact ⟨_, ss, rfl, hS, ownsRow_sorted_i (by simp) hbase hgb r1 r2 r3, hb.grown (grownBy_sorted_i _) hb.size (fun j hj => by cases hj; exact hbase)⟩
end Go.Proofs.YthahdombnmkokaaDoor.Given

/- block.Map.There's iterator: by hand. -/
namespace Go.Proofs.YthahdombnmkokaaDoor.Given
open Go.RowKit Go.Maps Go.Sort Go.Shelf Go.Proofs.YthahdombnmkokaaDoorW.PrintWords Go.Proofs.YthahdombnmkokaaDoorW.PrintLast Go.Proofs.YthahdombnmkokaaDoorW.PrintMore Go.Proofs.YthahdombnmkokaaDoor.Base
set_option linter.unusedVariables false
set_option linter.unusedSimpArgs false
variable {G : Nat → Prop}
attribute [local go_sem] Oper.semAt_some
/-- What There's iterator gives: the blocks at addresses, then the new ones. -/
def ThereS (N : Nat) (a : Int → Option Int) (f : Int → Option (List Int)) (ss : List Int) : Prop :=
  ∃ s1 s2 : List Int, ss = s1 ++ s2 ∧ s1.length ≤ N ∧ s2.length ≤ N ∧ s1.Nodup ∧ s2.Nodup ∧ (∀ x, x ∈ s1 ↔ a x ≠ none) ∧ ∀ x, x ∈ s2 ↔ f x ≠ none
theorem collected_all {D : DataW Value} {left : Lit → Bool} {ss : List Int} {m : Int → Option Value} (hC : CollectedI D left ss) (h : left = fun _ => false) (H : Holds D m) : ss.Nodup ∧ ∀ x, x ∈ ss ↔ m x ≠ none := by
  refine ⟨hC.1, fun x => ?_⟩
  rw [hC.2 x, h, H.has]
  cases m x <;> simp
set_option maxRecDepth 100000 in
set_option maxHeartbeats 4000000 in
theorem there_seq {w : World} {base p N : Nat} {a : Int → Option Int} {f : Int → Option (List Int)} (h : BM G w base p N a f) (hN : N ≤ 1000000) (Bx : Nat) (hx : w.cell? ⟨Bx, 0, none⟩ = some (.pointer (some ⟨p, 0, none⟩))) (hlt : Bx < w.heap.size) :
    SeqStopsK Fence.wide 2 Tryd.prog 33 #[.pointer (some ⟨Bx, 0, none⟩)] (fun x : Int => #[.int .i64 x]) (KpT w.heap.size) (ThereS N a f) (fun _ => True) (2 * N) w := by
  intro l J Jx W hW hJ _ hY h0
  obtain ⟨bA, bF, DA, DF, mF, hB⟩ := h
  have hB0 := hB.below hW
  have cx : W.cell? ⟨Bx, 0, none⟩ = some (.pointer (some ⟨p, 0, none⟩)) := (hW.cell (p := ⟨Bx, 0, none⟩) hlt).trans hx
  have c0 : W.cell? ⟨p, 0, none⟩ = some (.map (some bA)) := (blk_cell hB0.hp 0).trans rfl
  have hown := hB0.oA
  have hszA := hown.size_le
  have HB := Lib.hid hB
  clear hB hB0
  have hu := Tryd.underlying74
  change CallsIn Fence.wide 2 Tryd.prog 33 #[.func (.yield l) #[] #[], .pointer (some ⟨Bx, 0, none⟩)] W _
  refine callsIn_of_wp Tryd.func33 rfl trivial ?_ rfl
  simp only [Tryd.ntmps33, List.size_toArray, List.length_cons, List.length_nil, Nat.reduceAdd, Nat.reduceSub, Array.replicate_succ, Array.replicate_zero, List.push_toArray, List.append_toArray, List.nil_append, List.cons_append]
  gi_wp2_with (first
    | (gi_at_range; refine wpListIn_range_own _ rfl _ 70 rfl 3 3 law3 Tryd.underlying70 _ bA N _ rfl hown ?_; intro w0 hrg0 hg0 hs0)
    | gi_in)
  try go_frame
  gi_loopw [3] (fun _ wr => ∃ (left : Lit → Bool) (cnt : Nat) (ss : List Int), wr.ranges Tryd.prog 3 tokR bA W.heap.size N DA left cnt ∧ ss.length + cnt ≤ Maps.size DA ∧ CollectedI DA left ss ∧ J ss wr ∧ Below w.heap.size w wr)
    (fun _ wr => wr.rangeLeft bA W.heap.size)
  case atStart =>
    exact ⟨_, _, [], hrg0, by simp, CollectedI.start DA, hJ [] W w0 none h0 hg0 (fun r e => by cases e), hW.grown hg0 hW.size (fun k e => by cases e)⟩
  case round =>
    obtain ⟨left, cnt, ss, hrg, hcs, hC, hJs, hbr⟩ := hrel
    gi_wp2_with (first
      | (gi_at_next; refine wpListIn_next_ranges _ rfl _ rfl 3 law3 tokR encZ id (fun key kl hk => by obtain ⟨x, hx, _⟩ := Maps.keyOf_i64 Tryd.underlying3 hk; exact ⟨x, hx⟩) (fun v _ _ => ⟨v, rfl⟩) bA W.heap.size N _ _ _ rfl hrg ?_ ?_)
      | gi_in)
    · intro hc0 hl0
      obtain ⟨W1, rfl⟩ : ∃ z : World, z = wr := ⟨_, rfl⟩
      have hall := collected_all hC (funext hl0) HB.out.hA
      have hB1 := HB.out.below hbr
      have cx1 : W1.cell? ⟨Bx, 0, none⟩ = some (.pointer (some ⟨p, 0, none⟩)) := (hbr.cell (p := ⟨Bx, 0, none⟩) hlt).trans hx
      have c1 : W1.cell? ⟨p, 1, none⟩ = some (.map (some bF)) := (blk_cell hB1.hp 1).trans rfl
      have hownF := hB1.oF
      have hszF := hownF.size_le
      have hHF := hB1.hF
      have hel := Lib.hid hB1.el
      have hWr : W.heap.size ≤ W1.heap.size := by
        obtain ⟨o, ho, _⟩ := hrg.iter_walk
        exact Nat.le_of_lt (Array.getElem?_eq_some_iff.1 ho).1
      clear hB1 hrg hc0 cx c0 hown
      gi_wp2_with (first
        | (gi_at_range; refine wpListIn_range_own _ rfl _ 72 rfl 3 34 law3 Tryd.underlying72 _ bF N _ rfl hownF ?_; intro w3 hrg3 hg3 hs3)
        | gi_in)
      try go_frame
      gi_loopw [4] (fun _ wq => ∃ (left : Lit → Bool) (cnt : Nat) (s2 : List Int), wq.ranges Tryd.prog 3 tokR bF W1.heap.size N DF left cnt ∧ s2.length + cnt ≤ Maps.size DF ∧ CollectedI DF left s2 ∧ J (ss ++ s2) wq ∧ Below w.heap.size w wq)
        (fun _ wq => wq.rangeLeft bF W1.heap.size)
      case atStart =>
        exact ⟨_, _, [], hrg3, by simp, CollectedI.start DF, by rw [List.append_nil]; exact hJ ss W1 w3 none hJs hg3 (fun r e => by cases e), hbr.grown hg3 hbr.size (fun k e => by cases e)⟩
      case round =>
        obtain ⟨left2, cnt2, s2, hrg2, hcs2, hC2, hJs2, hbr2⟩ := hrel
        gi_wp2_with (first
          | (gi_at_next; refine wpListIn_next_ranges _ rfl _ rfl 3 law3 tokR encZ id (fun key kl hk => by obtain ⟨x, hx, _⟩ := Maps.keyOf_i64 Tryd.underlying3 hk; exact ⟨x, hx⟩) (fun v _ _ => ⟨v, rfl⟩) bF W1.heap.size N _ _ _ rfl hrg2 ?_ ?_)
          | gi_in)
        · intro hc1 hl1
          have hall2 := collected_all hC2 (funext hl1) hHF
          gi_wp2
          go_end0
          refine ⟨⟨_, rfl⟩, .inl ⟨ss ++ s2, ⟨ss, s2, rfl, by omega, by omega, hall.1, hall2.1, fun x => ?_, fun x => ?_⟩, hJs2⟩⟩
          · rw [hall.2 x]; cases a x <;> simp
          · rw [hall2.2 x]
            have := hel.out x
            cases hf : f x with
            | none => rw [this.1 hf]; simp
            | some r => obtain ⟨u, hu, _⟩ := this.2 r hf; rw [hu]; simp
        · intro x c kl yd yp w4 cnt4 hkey hlk hv hat hrg4 hlt4 hg4 hs4 hen
          obtain ⟨x', ex, rfl, _⟩ := Maps.keyOf_i64 Tryd.underlying3 hkey
          obtain rfl : x = x' := encZ_inj ex
          have hJ4 : J (ss ++ s2) w4 := hJ (ss ++ s2) _ w4 (some W1.heap.size) hJs2 hg4 (fun r e => by cases e; exact ⟨hWr, hrg2.iter_walk⟩)
          have hb4 : Below w.heap.size w w4 := hbr2.grown hg4 hbr2.size (fun k e => by cases e; exact Nat.le_trans hW.size hWr)
          obtain ⟨fn, tmps, assign, body, hy, hR⟩ := hY (ss ++ s2) x w4 hJ4 (by rw [List.length_append]; omega)
          clear hs4
          gi_wp2
          refine hR.mono ?_
          have hC4 := hC2.step hlk hat
          rintro e W5 (⟨rfl, hJ5, hk5⟩ | ⟨rfl, hJx5⟩)
          · gi_wp2
            have hrg5 := hrg4.of_walks hk5.1
            go_roundw
            case rel => exact ⟨_, cnt4, s2 ++ [x], hrg5, by simp; omega, hC4, by rw [← List.append_assoc]; exact hJ5, hb4.trans hk5.2⟩
            case measure => rw [hrg5.left_eq, hrg2.left_eq]; exact hlt4
          · gi_wp2
            refine bodyPost_ret (results_none rfl _ _ _) rfl ?_
            exact ⟨⟨_, rfl⟩, .inr ⟨ss ++ s2 ++ [x], trivial, hJx5⟩⟩
    · intro x c kl yd yp w2 cnt2 hkey hlk hv hat hrg2 hlt2 hg2 hs2 hen
      obtain ⟨x', ex, rfl, _⟩ := Maps.keyOf_i64 Tryd.underlying3 hkey
      obtain rfl : x = x' := encZ_inj ex
      have hJ2 : J ss w2 := hJ ss wr w2 (some W.heap.size) hJs hg2 (fun r e => by cases e; exact ⟨Nat.le_refl _, hrg.iter_walk⟩)
      have hb2 : Below w.heap.size w w2 := hbr.grown hg2 hbr.size (fun k e => by cases e; exact hW.size)
      obtain ⟨fn, tmps, assign, body, hy, hR⟩ := hY ss x w2 hJ2 (by omega)
      clear hs2
      gi_wp2
      refine hR.mono ?_
      have hC2 := hC.step hlk hat
      rintro e W3 (⟨rfl, hJ3, hk3⟩ | ⟨rfl, hJx3⟩)
      · gi_wp2
        have hrg3 := hrg2.of_walks hk3.1
        go_roundw
        case rel => exact ⟨_, cnt2, ss ++ [x], hrg3, by simp; omega, hC2, hJ3, hb2.trans hk3.2⟩
        case measure => rw [hrg3.left_eq, hrg.left_eq]; exact hlt2
      · gi_wp2
        refine bodyPost_ret (results_none rfl _ _ _) rfl ?_
        exact ⟨⟨_, rfl⟩, .inr ⟨ss ++ [x], trivial, hJx3⟩⟩
end Go.Proofs.YthahdombnmkokaaDoor.Given

/- block.Map.There: by hand. -/
namespace Go.Proofs.YthahdombnmkokaaDoor.Given
open Go.RowKit Go.Maps Go.Sort Go.Shelf Go.Proofs.YthahdombnmkokaaDoorW.PrintWords Go.Proofs.YthahdombnmkokaaDoorW.PrintLast Go.Proofs.YthahdombnmkokaaDoorW.PrintMore Go.Proofs.YthahdombnmkokaaDoor.Base
set_option linter.unusedVariables false
set_option linter.unusedSimpArgs false
variable {G : Nat → Prop}
attribute [local go_sem] Oper.semAt_some
set_option maxRecDepth 100000 in
set_option maxHeartbeats 2000000 in
/-- There: the blocks that aren't none. -/
theorem there_calls {w : World} {base p N : Nat} {a : Int → Option Int} {f : Int → Option (List Int)} (h : BM G w base p N a f) (hN : N ≤ 1000000) (hd : ∀ k, f k ≠ none → a k = none) :
    Calls Tryd.prog 16 #[.pointer (some ⟨p, 0, none⟩)] w fun e w' => ∃ (v : Value) (L : List Int), e = .returned v ∧ Rises L (fun k => a k ≠ none ∨ f k ≠ none) ∧ w'.ownsRow w.heap.size 3 1 v L.length (L.map (Value.int .i64)) ∧ Below w.heap.size w w' := by
  refine (callsIn_wide (n := 6)).1 ?_
  have hb0 : Below w.heap.size w (w.alloc (.cells #[.pointer (some ⟨p, 0, none⟩)] 43)) := (Below.refl _ w).alloc (Nat.le_refl _) _
  have h1 : BM G (w.alloc (.cells #[.pointer (some ⟨p, 0, none⟩)] 43)) base p N a f := by
    obtain ⟨bA, bF, DA, DF, mF, hB⟩ := h
    exact ⟨bA, bF, DA, DF, mF, hB.below hb0⟩
  have hcm : (w.alloc (.cells #[.pointer (some ⟨p, 0, none⟩)] 43)).cell? ⟨w.heap.size, 0, none⟩ = some (.pointer (some ⟨p, 0, none⟩)) := (blk_cell (blk_new w _) 0).trans rfl
  have hseq := there_seq h1 hN w.heap.size hcm (by simp)
  have cS := sorted_K 33 #[.pointer (some ⟨w.heap.size, 0, none⟩)] (enters_of Tryd.func33 (by kernel_rfl) rfl) _ _ (by omega) _ (fun ss hs => by obtain ⟨s1, s2, rfl, l1, l2, _⟩ := hs; rw [List.length_append]; omega) hseq
  have hfS : Fence.wide.fn 32 := trivial
  clear hseq h1 h hcm
  refine callsIn_of_wp Tryd.func16 rfl trivial ?_ rfl
  simp only [Tryd.ntmps16, List.size_toArray, List.length_cons, List.length_nil, Nat.reduceAdd, Nat.reduceSub, Array.replicate_succ, Array.replicate_zero, List.push_toArray, List.append_toArray, List.nil_append, List.cons_append]
  gi_wp2_with (gi_at_call 32; refine cS.mono ?_; rintro e w' ⟨v, ss, rfl, hS, hrow, hb⟩)
  go_ret
  obtain ⟨s1, s2, rfl, l1, l2, n1, n2, m1, m2⟩ := hS
  have hm : ∀ x, x ∈ s1 ++ s2 ↔ (a x ≠ none ∨ f x ≠ none) := fun x => by rw [List.mem_append, m1, m2]
  have hn : (s1 ++ s2).Nodup := List.nodup_append.2 ⟨n1, n2, fun x hx y hy e => by subst e; exact (m1 x).1 hx (hd x ((m2 x).1 hy))⟩
  refine ⟨v, _, rfl, Rises.of_sort hn hm, ?_, hb0.trans (hb.mono (by simp))⟩
  rw [List.length_mergeSort]
  exact ownsRow_base_a hrow (by simp)
end Go.Proofs.YthahdombnmkokaaDoor.Given
