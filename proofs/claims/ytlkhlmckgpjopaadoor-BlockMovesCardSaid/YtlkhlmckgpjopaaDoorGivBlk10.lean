/- block.Map.There: by hand. -/
import Derived.Test.YtlkhlmckgpjopaaDoorGivBlk9
namespace Go.Proofs.YtlkhlmckgpjopaaDoor.Given
open Go.RowKit Go.Maps Go.Sort Go.Shelf Go.Proofs.YtlkhlmckgpjopaaDoorW.PrintWords Go.Proofs.YtlkhlmckgpjopaaDoorW.PrintLast Go.Proofs.YtlkhlmckgpjopaaDoorW.PrintMore Go.Proofs.YtlkhlmckgpjopaaDoor.Base
set_option linter.unusedVariables false
set_option linter.unusedSimpArgs false
attribute [local go_sem] Oper.semAt_some
set_option maxRecDepth 100000 in
set_option maxHeartbeats 2000000 in
/-- There: the blocks that aren't none. -/
theorem there_calls {w : World} {base p N : Nat} {a : Int → Option Int} {f : Int → Option (List Int)} (h : BM w base p N a f) (hN : N ≤ 1000000) (hd : ∀ k, f k ≠ none → a k = none) :
    Calls Tryd.prog 12 #[.pointer (some ⟨p, 0, none⟩)] w fun e w' => ∃ (v : Value) (L : List Int), e = .returned v ∧ Rises L (fun k => a k ≠ none ∨ f k ≠ none) ∧ w'.ownsRow w.heap.size 3 1 v L.length (L.map (Value.int .i64)) ∧ Below w.heap.size w w' := by
  refine (callsIn_wide (n := 6)).1 ?_
  have hb0 : Below w.heap.size w (w.alloc (.cells #[.pointer (some ⟨p, 0, none⟩)] 25)) := (Below.refl _ w).alloc (Nat.le_refl _) _
  have h1 : BM (w.alloc (.cells #[.pointer (some ⟨p, 0, none⟩)] 25)) base p N a f := by
    obtain ⟨bA, bF, DA, DF, mF, hB⟩ := h
    exact ⟨bA, bF, DA, DF, mF, hB.below hb0⟩
  have hcm : (w.alloc (.cells #[.pointer (some ⟨p, 0, none⟩)] 25)).cell? ⟨w.heap.size, 0, none⟩ = some (.pointer (some ⟨p, 0, none⟩)) := (blk_cell (blk_new w _) 0).trans rfl
  have hseq := there_seq h1 hN w.heap.size hcm (by simp)
  have cS := sorted_K 31 #[.pointer (some ⟨w.heap.size, 0, none⟩)] (enters_of Tryd.func31 (by kernel_rfl) rfl) _ _ (by omega) _ (fun ss hs => by obtain ⟨s1, s2, rfl, l1, l2, _⟩ := hs; rw [List.length_append]; omega) hseq
  have hfS : Fence.wide.fn 29 := trivial
  clear hseq h1 h hcm
  refine callsIn_of_wp Tryd.func12 rfl trivial ?_ rfl
  simp only [Tryd.ntmps12, List.size_toArray, List.length_cons, List.length_nil, Nat.reduceAdd, Nat.reduceSub, Array.replicate_succ, Array.replicate_zero, List.push_toArray, List.append_toArray, List.nil_append, List.cons_append]
  gi_wp2_with (gi_at_call 29; refine cS.mono ?_; rintro e w' ⟨v, ss, rfl, hS, hrow, hb⟩)
  go_ret
  obtain ⟨s1, s2, rfl, l1, l2, n1, n2, m1, m2⟩ := hS
  have hm : ∀ x, x ∈ s1 ++ s2 ↔ (a x ≠ none ∨ f x ≠ none) := fun x => by rw [List.mem_append, m1, m2]
  have hn : (s1 ++ s2).Nodup := List.nodup_append.2 ⟨n1, n2, fun x hx y hy e => by subst e; exact (m1 x).1 hx (hd x ((m2 x).1 hy))⟩
  refine ⟨v, _, rfl, Rises.of_sort hn hm, ?_, hb0.trans (hb.mono (by simp))⟩
  rw [List.length_mergeSort]
  exact ownsRow_base_a hrow (by simp)
end Go.Proofs.YtlkhlmckgpjopaaDoor.Given
