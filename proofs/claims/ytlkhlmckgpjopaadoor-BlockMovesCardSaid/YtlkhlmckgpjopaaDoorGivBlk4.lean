/- block.Map: Put: by hand. -/
import Derived.Test.YtlkhlmckgpjopaaDoorGivBlk3
import Derived.Test.YtlkhlmckgpjopaaDoorGivNought
import Derived.Deep.RegionHeld3
import Derived.Deep.RegionWith
namespace Go.Proofs.YtlkhlmckgpjopaaDoor.Given
open Go.RowKit Go.Maps Go.Proofs.YtlkhlmckgpjopaaDoorW.PrintWords Go.Proofs.YtlkhlmckgpjopaaDoorW.PrintLast Go.Proofs.YtlkhlmckgpjopaaDoorW.PrintMore Go.Proofs.YtlkhlmckgpjopaaDoor.Base
set_option linter.unusedVariables false
set_option linter.unusedSimpArgs false
section
variable {P : Program} (w : World) {ops : Array Oper} {o : Oper} {a : Act} {Q : Exit → Act → World → Prop} {Kc : Act → World → Prop} {E : Prop}
theorem step_upd (hg : o.guard = none) (m x v : Operand) (t : TypeId) (hop : o.op = Op.mapUpdate t m x v) (k e : TypeId) (K : Keyed P k) (ht : P.underlying t = some (.map k e)) (b n : Nat) (D : DataW Value) (f : Int → Option Value)
    (hm : a.eval m = .map (some b)) (hown : w.ownsMap P k tokR b n D) (H : Holds D f) (hn : n < maxLen) (i : Int) (u : Value) (hx : a.eval x = .int .i64 i) (hv : a.eval v = u) (hkey : keyOf P k (.int .i64 i) = some (.int .i64 i))
    (hK : ∀ w' D', w'.ownsMap P k tokR b (n + 1) D' → Holds D' (fun j => if j = i then some u else f j) → w.grownBy w' (some b) → Kc (a.put o.dst undef) w') :
    if Region.wanted o (yielded ops a.tmps) = true then Oper.wp P o a w Kc Q else E := by
  have hw : Region.wanted o (yielded ops a.tmps) = true := by simp [Region.wanted, hg]
  rw [if_pos hw]
  obtain ⟨w', hrun, r1, r2⟩ := hown.update K ht hn hkey (d := tok u) (ps := []) (val := u) rfl
  unfold Oper.wp
  simp [execOp, hop, hm, hx, hv, hrun, Result.andThen]
  exact hK w' _ r1 (H.put i u) r2
end
set_option maxRecDepth 100000 in
set_option maxHeartbeats 2000000 in
/-- Put: no block's number, or no block's bytes. -/
theorem put_bad {w : World} (p : Nat) (k : Int) (A : Option Addr) (n c : Nat) (hn : n ≤ 140737488355328) (h : k < 0 ∨ 828 ≤ k ∨ n ≠ 56) :
    Calls Tryd.prog 10 #[.pointer (some ⟨p, 0, none⟩), .int .i64 k, .slice A n c] w fun e w' => e = .returned (.int .i64 28) ∧ w = w' := by
  by_cases h0 : k < 0
  · go_enter Tryd.func10, Tryd.ntmps10
    go_wp2
    go_ret
    exact ⟨rfl, rfl⟩
  · have d0 : decide (k < 0) = false := decide_eq_false h0
    by_cases h1 : 828 ≤ k
    · have d1 : decide (828 ≤ k) = true := decide_eq_true h1
      clear h0
      go_enter Tryd.func10, Tryd.ntmps10
      go_wp2
      go_ret
      exact ⟨rfl, rfl⟩
    · have d1 : decide (828 ≤ k) = false := decide_eq_false h1
      have hn : ((n : Int) != 56) = true := bne_iff_ne.2 (by omega)
      clear h h0 h1
      go_enter Tryd.func10, Tryd.ntmps10
      go_wp2
      go_ret
      exact ⟨rfl, rfl⟩
set_option maxRecDepth 100000 in
set_option maxHeartbeats 4000000 in
/-- Put: noughts are none. -/
theorem put_zero {w : World} {base p N : Nat} {a : Int → Option Int} {f : Int → Option (List Int)} (h : BM w base p N a f) (k : Int) (h0 : 0 ≤ k) (h1 : k < 828) (A : Option Addr) (c : Nat) (b : List Int) (hb : b.length = 56) (hc : 56 ≤ c) (hC : Kd.C (Kd.int .u8) w A b.length b) (hz : bits_Nought.f b = some true) :
    Calls Tryd.prog 10 #[.pointer (some ⟨p, 0, none⟩), .int .i64 k, .slice A 56 c] w fun e w' => e = .returned (.int .i64 0) ∧ BM w' base p N (setF a k none) (setF f k none) ∧ Below base w w' := by
  obtain ⟨bA, bF, DA, DF, mF, hB⟩ := h
  have c0 : w.cell? ⟨p, 0, none⟩ = some (.map (some bA)) := (blk_cell hB.hp 0).trans rfl
  have hu := Tryd.underlying61
  have d0 : decide (k < 0) = false := decide_eq_false (by omega)
  have d1 : decide (828 ≤ k) = false := decide_eq_false (by omega)
  have HB := Lib.hid hB
  have HC := Lib.hid hC
  have HZ := Lib.hid hz
  have H56 := Lib.hid hb
  have HK : Hid ((Lit.int .i64 k).wf = true) := wf_i h0 (by omega)
  have HBE := Lib.hid (Below.refl base w)
  clear hB hC hz hb
  go_enter Tryd.func10, Tryd.ntmps10
  go_wp2_with (first | (have t1 := c0; at_delete; refine wp_del _ rfl _ _ 57 3 rfl 3 law3 Tryd.underlying57 bA N DA _ rfl HB.out.oA HB.out.hA k rfl (keyOf_int_mk Tryd.underlying3 HK.out) ?_; intro w1 D1 ho1 hh1 hg1; have HB1 := Lib.hid (HB.out.turnA (Nat.le_refl _) hg1 ho1 (hA_set (a := a) (k := k) (v := none) hh1 (fun j => rfl))); have HE1 : Hid (Below base w w1) := HBE.out.grown hg1 (Nat.le_trans HB.out.bp (Nat.le_of_lt (blk_lt HB.out.hp))) (fun q e => by cases e; exact HB.out.ba); have HC1 := Lib.hid (C_kept HC.out (map_cells HB.out.oA hg1)); have c1 : w1.cell? ⟨p, 1, none⟩ = some (.map (some bF)) := (blk_cell HB1.out.hp 1).trans rfl; clear c0 ho1 hh1 hg1) | (have t1 := c1; at_delete; refine wp_del _ rfl _ _ 59 3 rfl 30 law3 Tryd.underlying59 bF N DF _ rfl HB1.out.oF HB1.out.hF k rfl (keyOf_int_mk Tryd.underlying3 HK.out) ?_; intro w2 D2 ho2 hh2 hg2; have HB2 := Lib.hid (HB1.out.turnF (Nat.le_refl _) hg2 ho2 hh2 (el_del HB1.out.el k)); have HE2 : Hid (Below base w w2) := HE1.out.grown hg2 (Nat.le_trans HB1.out.bp (Nat.le_of_lt (blk_lt HB1.out.hp))) (fun q e => by cases e; exact HB1.out.bf); have HC2 := Lib.hid (C_kept HC1.out (map_cells HB1.out.oF hg2)); clear c1 ho2 hh2 hg2))
  have hcn := bits_Nought.calls A c b true w2 HC2.out (by rw [H56.out]; exact hc) HZ.out
  rw [H56.out] at hcn
  refine hcn.mono ?_
  clear hcn
  rintro e w3 ⟨rfl, ⟨nd, rfl⟩⟩
  go_wp2
  go_ret
  exact ⟨rfl, ⟨_, _, _, _, _, HB2.out.below (pw_below_drewN (Below.refl _ _) nd)⟩, pw_below_drewN HE2.out nd⟩
theorem setF_setF {β : Type} (f : Int → Option β) (k : Int) (u v : Option β) : setF (setF f k u) k v = setF f k v := by
  funext j
  unfold setF
  by_cases e : j = k
  · rw [if_pos e, if_pos e]
  · rw [if_neg e, if_neg e, if_neg e]
theorem el_put6 {w : World} {mF : Int → Option Value} {f : Int → Option (List Int)} {k : Int} (h : ∀ j, (setF f k none j = none → mF j = none) ∧ ∀ r, setF f k none j = some r → ∃ u, mF j = some u ∧ Byt56 w u r) (k' : Int) (u : Value) (r : List Int) (hu : Byt56 w u r) (e : k' = k := by rfl) : ∀ j, (setF f k' (some r) j = none → (if j = k' then some u else mF j) = none) ∧ ∀ r1, setF f k' (some r) j = some r1 → ∃ v, (if j = k' then some u else mF j) = some v ∧ Byt56 w v r1 := by
  subst e
  have := el_put h k' u r hu
  rwa [setF_setF] at this
set_option maxRecDepth 100000 in
set_option maxHeartbeats 4000000 in
/-- Put: a block is new. -/
theorem put_some {w : World} {base p N : Nat} {a : Int → Option Int} {f : Int → Option (List Int)} (h : BM w base p N a f) (hN : N < 1000000) (k : Int) (h0 : 0 ≤ k) (h1 : k < 828) (A : Option Addr) (c : Nat) (b : List Int) (hb : b.length = 56) (hc : 56 ≤ c) (hC : Kd.C (Kd.int .u8) w A b.length b) (hz : bits_Nought.f b = some false) :
    Calls Tryd.prog 10 #[.pointer (some ⟨p, 0, none⟩), .int .i64 k, .slice A 56 c] w fun e w' => e = .returned (.int .i64 0) ∧ BM w' base p (N + 1) (setF a k none) (setF f k (some b)) ∧ Below base w w' := by
  obtain ⟨bA, bF, DA, DF, mF, hB⟩ := h
  have c0 : w.cell? ⟨p, 0, none⟩ = some (.map (some bA)) := (blk_cell hB.hp 0).trans rfl
  have hu := Tryd.underlying61
  have d0 : decide (k < 0) = false := decide_eq_false (by omega)
  have d1 : decide (828 ≤ k) = false := decide_eq_false (by omega)
  have HB := Lib.hid hB
  have HC := Lib.hid hC
  have HZ := Lib.hid hz
  have H56 := Lib.hid hb
  have HK : Hid ((Lit.int .i64 k).wf = true) := wf_i h0 (by omega)
  have HBE := Lib.hid (Below.refl base w)
  clear hB hC hz hb
  go_enter Tryd.func10, Tryd.ntmps10
  go_wp2_with (first | (have t1 := c0; at_delete; refine wp_del _ rfl _ _ 57 3 rfl 3 law3 Tryd.underlying57 bA N DA _ rfl HB.out.oA HB.out.hA k rfl (keyOf_int_mk Tryd.underlying3 HK.out) ?_; intro w1 D1 ho1 hh1 hg1; have HB1 := Lib.hid (HB.out.turnA (Nat.le_refl _) hg1 ho1 (hA_set (a := a) (k := k) (v := none) hh1 (fun j => rfl))); have HE1 : Hid (Below base w w1) := HBE.out.grown hg1 (Nat.le_trans HB.out.bp (Nat.le_of_lt (blk_lt HB.out.hp))) (fun q e => by cases e; exact HB.out.ba); have HC1 := Lib.hid (C_kept HC.out (map_cells HB.out.oA hg1)); have c1 : w1.cell? ⟨p, 1, none⟩ = some (.map (some bF)) := (blk_cell HB1.out.hp 1).trans rfl; clear c0 ho1 hh1 hg1) | (have t1 := c1; at_delete; refine wp_del _ rfl _ _ 59 3 rfl 30 law3 Tryd.underlying59 bF N DF _ rfl HB1.out.oF HB1.out.hF k rfl (keyOf_int_mk Tryd.underlying3 HK.out) ?_; intro w2 D2 ho2 hh2 hg2; have HB2 := Lib.hid (HB1.out.turnF (Nat.le_refl _) hg2 ho2 hh2 (el_del HB1.out.el k)); have HE2 : Hid (Below base w w2) := HE1.out.grown hg2 (Nat.le_trans HB1.out.bp (Nat.le_of_lt (blk_lt HB1.out.hp))) (fun q e => by cases e; exact HB1.out.bf); have HC2 := Lib.hid (C_kept HC1.out (map_cells HB1.out.oF hg2)); clear c1 ho2 hh2 hg2))
  have hcn := bits_Nought.calls A c b false w2 HC2.out (by rw [H56.out]; exact hc) HZ.out
  rw [H56.out] at hcn
  refine hcn.mono ?_
  clear hcn
  rintro e w3 ⟨rfl, ⟨nd, rfl⟩⟩
  have HB3 := Lib.hid (HB2.out.below (pw_below_drewN (Below.refl w2.heap.size w2) nd))
  have HE3 := Lib.hid (pw_below_drewN HE2.out nd)
  have HC3 := Lib.hid (Kd.C_drewN HC2.out nd)
  obtain ⟨ad, rfl, _⟩ := HC3.out.2.2 (by rw [H56.out]; decide)
  generalize w2.drewN nd = w3 at *
  have c3 : w3.cell? ⟨p, 1, none⟩ = some (.map (some bF)) := (blk_cell HB3.out.hp 1).trans rfl
  have hz3 := blk_lt HB3.out.hp
  clear HB2 HE2 HC2
  go_wp2_with fail
  have HB4 := Lib.hid (HB3.out.below (below_drew (Below.refl w3.heap.size w3)))
  have HE4 := Lib.hid (below_drew HE3.out)
  have HC4 := Lib.hid (Kd.C_drew HC3.out)
  have c4 : w3.drew.cell? ⟨p, 1, none⟩ = some (.map (some bF)) := (blk_cell HB4.out.hp 1).trans rfl
  go_region_held3 (fun w' => w'.cell? ⟨p, 1, none⟩ = some (.map (some bF))) (first | exact c4 | go_keep)
    (first | (go_at_call 28; have hcl := clone_some ad c b w3.drew HC4.out (by rw [H56.out]; decide); rw [H56.out] at hcl; refine hcl.mono ?_; clear hcl; rintro e w5 ⟨v5, rfl, hR, hb⟩; have HR5 := Lib.hid hR; have HB5 := Lib.hid (HB4.out.below hb); have HE5 : Hid (Below base w w5) := Lib.hid (HE4.out.trans (hb.mono (Nat.le_trans HB4.out.bp (Nat.le_of_lt (blk_lt HB4.out.hp))))); have c5 : w5.cell? ⟨p, 1, none⟩ = some (.map (some bF)) := (blk_cell HB5.out.hp 1).trans rfl; clear hR hb; obtain ⟨w6, hrun6, ho6, hg6⟩ := HB5.out.oF.update law3 Tryd.underlying59 (by unfold maxLen; omega) (keyOf_int_mk Tryd.underlying3 HK.out) (d := tok v5) (ps := []) (val := v5) rfl; have HB6 := Lib.hid (HB5.out.turnF (Nat.le_succ _) hg6 ho6 (HB5.out.hF.put k v5) (el_put6 HB5.out.el k v5 b (byt_of_R HR5.out H56.out))); have HE6 : Hid (Below base w w6) := HE5.out.grown hg6 (Nat.le_trans HB5.out.bp (Nat.le_of_lt (blk_lt HB5.out.hp))) (fun q e => by cases e; exact HB5.out.bf); have c6 : w6.cell? ⟨p, 1, none⟩ = some (.map (some bF)) := (blk_cell HB6.out.hp 1).trans rfl; clear ho6 hg6))
  all_goals (go_wp2; go_ret; exact ⟨rfl, ⟨_, _, _, _, _, HB6.out⟩, HE6.out⟩)
end Go.Proofs.YtlkhlmckgpjopaaDoor.Given
