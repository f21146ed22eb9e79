/- block.Map: Fresh: by hand, over the shelf's maps.Keys and slices.Sorted. -/
import Derived.Test.YtlkhlmckgpjopaaDoorGivBlk5
import Derived.Test.YtlkhlmckgpjopaaDoorShelf
import Derived.Test.YtlkhlmckgpjopaaDoorShelf2
import Derived.RangeFuncStops
import Derived.RangeFuncBound
import Derived.Maps.OwnIn
namespace Go.Proofs.YtlkhlmckgpjopaaDoor.Given
open Go.RowKit Go.Maps Go.Sort Go.Shelf Go.Proofs.YtlkhlmckgpjopaaDoorW.PrintWords Go.Proofs.YtlkhlmckgpjopaaDoorW.PrintLast Go.Proofs.YtlkhlmckgpjopaaDoorW.PrintMore Go.Proofs.YtlkhlmckgpjopaaDoor.Base
set_option linter.unusedVariables false
set_option linter.unusedSimpArgs false
def once : List Int → List Int
  | [] => []
  | x :: l => if x ∈ l then once l else x :: once l
theorem mem_once (x : Int) : ∀ l : List Int, x ∈ once l ↔ x ∈ l
  | [] => by simp [once]
  | y :: l => by
    have ih := mem_once x l
    simp only [once]
    by_cases h : y ∈ l
    · rw [if_pos h, ih, List.mem_cons]; exact ⟨.inr, fun k => k.elim (fun e => e ▸ h) id⟩
    · rw [if_neg h, List.mem_cons, List.mem_cons, ih]
theorem once_nodup : ∀ l : List Int, (once l).Nodup
  | [] => List.nodup_nil
  | y :: l => by
    simp only [once]
    by_cases h : y ∈ l
    · rw [if_pos h]; exact once_nodup l
    · rw [if_neg h, List.nodup_cons]; exact ⟨fun k => h ((mem_once y l).1 k), once_nodup l⟩
theorem keys_nodup {w : World} {b n : Nat} {D : DataW Value} (hown : w.ownsMap Tryd.prog 3 tokR b n D) {ss : List Int} (hp : ss.Perm (intKeys D)) (hm : ∀ x, x ∈ ss ↔ has D (.int .i64 x) = true) : ss.Nodup := by
  have hC : CollectedI D (fun _ => false) (once ss) := ⟨once_nodup ss, fun x => by rw [mem_once, hm]; simp⟩
  have := hC.perm hown law3 Tryd.underlying3 (fun _ => rfl)
  exact ((hp.trans this.symm).nodup_iff).2 (once_nodup ss)
theorem sortsIn (m : Nat) : AnyZI.SortsIn Tryd.prog Tryd.sortedA_ren Fence.wide m :=
  ⟨fun blk off cap ss W hH hblk hsz => callsIn_wide.2 (Tryd.slices_Sort_int blk off cap ss W hH hblk hsz),
   fun p cap W => callsIn_wide.2 (Tryd.slices_Sort_int_none p cap W)⟩
/-- A list that rises, of just the numbers of which P holds. -/
structure Rises (L : List Int) (P : Int → Prop) : Prop where
  up : L.Pairwise (· < ·)
  mem : ∀ x, x ∈ L ↔ P x
theorem Rises.of_sort {ss : List Int} {P : Int → Prop} (hn : ss.Nodup) (hm : ∀ x, x ∈ ss ↔ P x) : Rises (ss.mergeSort fun x y => decide (x ≤ y)) P := by
  refine ⟨?_, fun x => by rw [(List.mergeSort_perm ss _).mem_iff]; exact hm x⟩
  have h1 : (ss.mergeSort fun x y => decide (x ≤ y)).Pairwise (fun x y => decide (x ≤ y) = true) := by
    refine List.pairwise_mergeSort ?_ ?_ ss
    · intro a b c h1 h2; simp only [decide_eq_true_eq] at *; omega
    · intro a b; simp only [Bool.or_eq_true, decide_eq_true_eq]; omega
  have h2 : (ss.mergeSort fun x y => decide (x ≤ y)).Pairwise (· ≠ ·) := (List.mergeSort_perm ss _).nodup_iff.2 hn
  refine (h1.and h2).imp ?_
  rintro a b ⟨h, hne⟩
  simp only [decide_eq_true_eq] at h
  omega
set_option maxHeartbeats 2000000 in
set_option maxRecDepth 100000 in
/-- Fresh: the blocks that are new. -/
theorem fresh_calls {w : World} {base p N : Nat} {a : Int → Option Int} {f : Int → Option (List Int)} (h : BM w base p N a f) (hN : N ≤ 1000000) :
    Calls Tryd.prog 11 #[.pointer (some ⟨p, 0, none⟩)] w fun e w' => ∃ (v : Value) (L : List Int), e = .returned v ∧ Rises L (fun k => f k ≠ none) ∧ w'.ownsRow w.heap.size 3 1 v L.length (L.map (Value.int .i64)) ∧ Below w.heap.size w w' := by
  obtain ⟨bA, bF, DA, DF, mF, hB⟩ := h
  have c0 : w.cell? ⟨p, 1, none⟩ = some (.map (some bF)) := (blk_cell hB.hp 1).trans rfl
  have hu := Tryd.underlying61
  refine (callsIn_wide (n := 6)).1 ?_
  have hsz := hB.oF.size_le
  have hbl := hB.oF.lt
  have hown : (w.alloc (.cells #[.map (some bF)] 59)).ownsMap Tryd.prog 3 tokR bF N DF := hB.oF.alloc _
  have hcm : (w.alloc (.cells #[.map (some bF)] 59)).cell? ⟨w.heap.size, 0, none⟩ = some (.map (some bF)) := (blk_cell (blk_new w _) 0).trans rfl
  have hst := AnyZI.keys_stops (ρ := Tryd.keysA_ren) { Tryd.keysA with } Fence.wide 2 trivial rfl (by omega) w.heap.size bF N DF (w.alloc (.cells #[.map (some bF)] 59)) (by simp) hcm hown
  have hseq := hst.gives
  have cK : ∀ mb W, CallsIn Fence.wide 5 Tryd.prog 30 #[.map mb] W fun e w' => e = .returned (.func (.func 47) #[] #[.pointer (some ⟨W.heap.size, 0, none⟩)]) ∧ w' = W.alloc (.cells #[.map mb] 59) := fun mb W => AnyZI.keys_in Tryd.keysA Fence.wide 5 trivial rfl mb W
  have cS := AnyZI.sorted_in Tryd.sortedA Fence.wide 5 trivial trivial trivial trivial rfl (by omega) (sortsIn _) (enters_of Tryd.func46 (by kernel_rfl) rfl) 47 #[.pointer (some ⟨w.heap.size, 0, none⟩)] trivial (enters_of Tryd.func47 (by kernel_rfl) rfl) _ _ (by unfold maxLen; omega) (by omega) _ hseq
  change CallsIn _ _ Tryd.prog 29 _ _ _ at cS
  have hfK : Fence.wide.fn 30 := trivial
  have hfS : Fence.wide.fn 29 := trivial
  have HB := Lib.hid hB
  clear hst hseq hB hown hcm
  refine callsIn_of_wp Tryd.func11 rfl trivial ?_ rfl
  simp only [Tryd.ntmps11, List.size_toArray, List.length_cons, List.length_nil, Nat.reduceAdd, Nat.reduceSub, Array.replicate_succ, Array.replicate_zero, List.push_toArray, List.append_toArray, List.nil_append, List.cons_append]
  gi_wp2_with (first
    | (gi_at_call 30; refine (cK _ _).mono ?_; rintro e w' ⟨rfl, rfl⟩)
    | (gi_at_call 29; refine cS.mono ?_; rintro e w' ⟨v, ss, rfl, hS, hrow, hnil, hb⟩))
  go_ret
  have hm : ∀ x, x ∈ ss ↔ f x ≠ none := by
    intro x
    rw [hS.2 x, HB.out.hF.has]
    have := HB.out.el x
    cases hf : f x with
    | none => rw [this.1 hf]; simp
    | some r => obtain ⟨u, hu, _⟩ := this.2 r hf; rw [hu]; simp
  refine ⟨v, _, rfl, Rises.of_sort (keys_nodup HB.out.oF hS.1 hS.2) hm, ?_, ((Below.refl _ w).alloc (Nat.le_refl _) _).trans (hb.mono (by simp))⟩
  rw [List.length_mergeSort]
  exact ownsRow_base_a hrow (by simp)
end Go.Proofs.YtlkhlmckgpjopaaDoor.Given
