/- The contract of morainelaw09.alive: a closed call that answers true. -/
import Derived.Test.YtogdnolkheifcaaStab3
import Derived.Test.YtogdnolkheifcaaGivFits
import Derived.Test.YtogdnolkheifcaaSort1
import Derived.Test.YtogdnolkheifcaaBase2x
namespace Go.Proofs.Ytogdnolkheifcaa.Given
open Go.RowKit Go.Shelf Go.Proofs.YtogdnolkheifcaaW.PrintWords Go.Proofs.YtogdnolkheifcaaW.PrintLast Go.Proofs.YtogdnolkheifcaaW.PrintMore Go.Proofs.Ytogdnolkheifcaa.Base Go.Proofs.Ytogdnolkheifcaa.Pure
set_option linter.unusedVariables false
set_option linter.unusedSimpArgs false

def C12 : List Int := [2, 1, 0, 0, 0, 0, 0, 0, 0, 0, 0, 0]
theorem gr12 : GR 3 3 12 := ⟨⟨by decide, by decide, by decide, by decide, by decide, by decide⟩, by decide⟩
set_option maxRecDepth 100000 in
theorem afact0 : usage_Count.f 3 3 12 [1, 2, 2, 0, 6] = some (C12, true) := by
  have h : okA (12 * pl 3 3) [1, 2, 2, 0, 6] := by unfold okA; decide
  unfold usage_Count.f countV
  rw [if_neg (by decide), if_pos ⟨gr12, h⟩]
  exact congrArg (fun z => some (z, true)) ((cl_pre 5 12 _ 60 h).symm.trans (by kernel_rfl))
set_option maxRecDepth 100000 in
theorem afact1 : usage_Victims.f 3 3 12 [2, 0, 3, 4] [] = some [0, 2] := by
  have e : vs (segP [2, 0, 3, 4] [] 12) = [0, 2, 3] := by kernel_rfl
  have e2 : sortL [2, 0, 3, 4] [0, 2, 3] = [0, 2, 3] := (sortL_of (by decide) (List.Perm.refl _) (by unfold segLt; decide)).symm
  unfold usage_Victims.f vicL
  rw [show Int.toNat 12 = 12 from rfl, e, if_pos gr12, e2]
  exact congrArg some (show two (cutP [2, 0, 3, 4] (pl 3 3) [0, 2, 3]) = [0, 2] by kernel_rfl)
set_option maxRecDepth 100000 in
theorem afact2 : usage_Free.f 3 3 12 [2, 0, 3, 4] [5] = some [1, 4, 6, 7, 8, 9, 10, 11] := by
  unfold usage_Free.f freeV
  rw [if_pos gr12]
  kernel_rfl
theorem afact3 : usage_Fits.f 3 3 12 [] 0 5 5 = some true := by
  unfold usage_Fits.f
  rw [if_neg (by decide), if_pos gr12]
  kernel_rfl
theorem afact4 : Base2x.moraineref00_SameInts.f 3 [0, 2] [0, 2] = some true := by kernel_rfl
theorem lit_C (xs : List Int) (w : World) (cs : Array Value) (n : Nat) (hcs : (encs (Value.int .i64) xs).toArray = cs) (hl : xs.length = n) (hn : n ≤ 9223372036854775807) (N : Nat) (hN : w.heap.size = N) : Kd.C (Kd.int .i64) (w.alloc (.cells cs 3)) (some ⟨N, 0, none⟩) n xs := by
  subst hcs; subst hl; subst hN
  refine Kd.C_of_reads (d := (0 : Int)) (h1 := fun _ => rfl) ⟨rfl, hn, fun _ => ⟨_, rfl, fun j hj => ?_⟩⟩
  rw [addr_add, Nat.zero_add]
  refine (blk_cell (blk_new w _) j).trans ?_
  rw [List.getElem?_toArray]
  exact encs_get (d := (0 : Int)) xs j hj
theorem RI_at {w : World} {base : Nat} {ok : Nat → Prop} {v : Value} {xs : List Int} (h : Kd.R (Kd.int .i64) 3 w base ok v xs) (hn : 0 < xs.length) : ∃ g o c, v = .slice (some ⟨g, o, none⟩) xs.length c ∧ xs.length ≤ c ∧ Kd.C (Kd.int .i64) w (some ⟨g, o, none⟩) xs.length xs ∧ ∀ j, j < xs.length → w.cell? ⟨g, o + j, none⟩ = some (.int .i64 (xs.getD j 0)) := by
  obtain ⟨A, c, rfl⟩ := Kd.R_slice h
  obtain ⟨_, h2, h3⟩ := Kd.R_reads' h
  obtain ⟨g, o, rfl, h4⟩ := addr_of_C h3 hn
  exact ⟨g, o, c, rfl, h2, h3, h4⟩
def morainelaw09_alive.f : Option Bool := some true
set_option maxHeartbeats 1000000 in
theorem morainelaw09_alive.calls (r : Bool) (w : World) (h : morainelaw09_alive.f = some r) :
    Calls Try.prog 10 #[] w fun e w' => e = .returned (.bool r) ∧ Below w.heap.size w w' := by
  cases h
  obtain ⟨c12, E0⟩ : ∃ c, Hid (c = C12) := ⟨_, rfl⟩
  have HK0 : Hid (Keep w #[.int .i64 3, .int .i64 3, .int .i64 12] 23 (w.alloc (.cells #[.int .i64 3, .int .i64 3, .int .i64 12] 23))) := ⟨blk_new w _, (Below.refl _ w).alloc (Nat.le_refl _) _⟩
  go_enter Try.func10, Try.ntmps10
  go_wp2_with fail
  refine (usage_Count.calls 3 3 12 _ 5 [1, 2, 2, 0, 6] C12 true _ (lit_C [1, 2, 2, 0, 6] (w.alloc (.cells #[.int .i64 3, .int .i64 3, .int .i64 12] 23)) _ 5 (by simp [encs]) rfl (by decide) _ (by simp)) (by decide) afact0).mono ?_
  rintro e w1 ⟨v0, rfl, hR, hB⟩
  obtain ⟨g1, o1, c1, rfl, _, _, hcl⟩ := RI_at hR (by decide)
  have hg0 : w1.cell? ⟨g1, o1, none⟩ = some (.int .i64 2) := hcl 0 (by decide)
  have hg1 : w1.cell? ⟨g1, o1 + 1, none⟩ = some (.int .i64 1) := hcl 1 (by decide)
  have hg2 : w1.cell? ⟨g1, o1 + 2, none⟩ = some (.int .i64 0) := hcl 2 (by decide)
  have HK1 := Lib.hid ((HK0.out.alloc (.cells #[.int .i64 1, .int .i64 2, .int .i64 2, .int .i64 0, .int .i64 6] 3)).step hB)
  have k0 := HK1.out.at_ 0 rfl
  have k1 := HK1.out.at_ 1 rfl
  have k2 := HK1.out.at_ 2 rfl
  clear hcl hR hB HK0
  rw [show C12.length = 12 from rfl]
  go_wp2_with fail
  refine (usage_Victims.calls 3 3 12 _ 4 [2, 0, 3, 4] none 0 [] [0, 2] _ (lit_C [2, 0, 3, 4] _ _ 4 (by simp [encs]) rfl (by decide) _ rfl) (by decide) (Kd.C_nil _ _) (by decide) afact1).mono ?_
  rintro e w2 ⟨v0, rfl, hR, hB⟩
  obtain ⟨g2, o2, c2, rfl, hc2, hC2, _⟩ := RI_at hR (by decide)
  have HK2 := Lib.hid ((HK1.out.alloc _).step hB)
  have HC2 := Lib.hid hC2
  have k0 := HK2.out.at_ 0 rfl
  have k1 := HK2.out.at_ 1 rfl
  have k2 := HK2.out.at_ 2 rfl
  clear hR hB HK1 hC2 hg0 hg1 hg2
  rw [show ([0, 2] : List Int).length = 2 from rfl]
  go_wp2_with fail
  refine (Base2x.moraineref00_SameInts.calls 3 _ c2 [0, 2] _ 2 [0, 2] true _ (Kd.C_below HC2.out ((Below.refl _ _).alloc (Nat.le_refl _) _)) hc2 (lit_C [0, 2] _ _ 2 (by simp [encs]) rfl (by decide) _ rfl) (by decide) afact4).mono ?_
  rintro e w3 ⟨rfl, nd, rfl⟩
  have HK3 := Lib.hid ((HK2.out.alloc (.cells #[.int .i64 0, .int .i64 2] 3)).drewN nd)
  have k0 := HK3.out.at_ 0 rfl
  have k1 := HK3.out.at_ 1 rfl
  have k2 := HK3.out.at_ 2 rfl
  clear HK2 HC2
  go_wp2_with fail
  have hA := lit_C [2, 0, 3, 4] ((w2.alloc (.cells #[.int .i64 0, .int .i64 2] 3)).drewN nd) _ 4 (by simp [encs]; rfl) rfl (by decide) (w2.heap.size + 1) (by simp)
  refine (usage_Free.calls 3 3 12 _ 4 [2, 0, 3, 4] _ 1 [5] [1, 4, 6, 7, 8, 9, 10, 11] _ (Kd.C_below hA ((Below.refl _ _).alloc (Nat.le_refl _) _)) (by decide) (lit_C [5] _ _ 1 (by simp [encs]) rfl (by decide) _ (by simp)) (by decide) afact2).mono ?_
  rintro e w4 ⟨v0, rfl, hR, hB⟩
  obtain ⟨g4, o4, c4, rfl, _, _, _⟩ := RI_at hR (by decide)
  have HK4 := Lib.hid (((HK3.out.alloc _).alloc _).step hB)
  have k0 := HK4.out.at_ 0 rfl
  have k1 := HK4.out.at_ 1 rfl
  have k2 := HK4.out.at_ 2 rfl
  clear hR hB HK3 hA
  rw [show ([1, 4, 6, 7, 8, 9, 10, 11] : List Int).length = 8 from rfl]
  go_wp2_with fail
  refine (usage_Fits.calls 3 3 12 none 0 [] 0 5 5 true _ (Kd.C_nil _ _) (by decide) afact3).mono ?_
  rintro e w5 ⟨rfl, hB⟩
  have HK5 := Lib.hid (HK4.out.step hB)
  clear hB HK4
  go_wp2_with fail
  go_ret
  exact ⟨rfl, HK5.out.2⟩
end Go.Proofs.Ytogdnolkheifcaa.Given
