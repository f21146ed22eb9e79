/- block.Map: which blocks of the heap a call turns; Put, Place, Cut, Move so told; by hand. -/
import Derived.Test.YtlkhlmckgpjopaaDoorRms
namespace Go.Proofs.YtlkhlmckgpjopaaDoor.Given
open Go.RowKit Go.Maps Go.Sort Go.Shelf Go.Proofs.YtlkhlmckgpjopaaDoorW.PrintWords Go.Proofs.YtlkhlmckgpjopaaDoorW.PrintLast Go.Proofs.YtlkhlmckgpjopaaDoorW.PrintMore Go.Proofs.YtlkhlmckgpjopaaDoor.Base
set_option linter.unusedVariables false
set_option linter.unusedSimpArgs false
/-- From a world to a later one: only blocks of S have turned, and new ones were made. -/
inductive Turns (S : Nat → Prop) : World → World → Prop
  | refl (w : World) : Turns S w w
  | step {w w1 w2 : World} {o : Option Nat} : Turns S w w1 → w1.grownBy w2 o → (∀ b, o = some b → S b) → Turns S w w2
def Two (a b : Nat) : Nat → Prop := fun i => i = a ∨ i = b
theorem Turns.trans {S : Nat → Prop} {w w1 w2 : World} (h : Turns S w w1) (k : Turns S w1 w2) : Turns S w w2 := by
  induction k with
  | refl => exact h
  | step _ hg hs ih => exact ih.step hg hs
theorem Turns.one {S : Nat → Prop} {w w1 : World} {b : Nat} (hg : w.grownBy w1 (some b)) (hs : S b) : Turns S w w1 := (Turns.refl w).step hg (fun q e => by cases e; exact hs)
theorem Turns.of_below {S : Nat → Prop} {w w1 : World} (hb : Below w.heap.size w w1) : Turns S w w1 := (Turns.refl w).step (grown_of_below hb none) (fun q e => by cases e)
theorem Turns.or {S S' : Nat → Prop} {w w1 : World} (h : Turns S w w1) (hs : ∀ b, S b → S' b) : Turns S' w w1 := by
  induction h with
  | refl => exact .refl _
  | step _ hg h1 ih => exact ih.step hg (fun b e => hs b (h1 b e))
theorem Turns.size {S : Nat → Prop} {w w1 : World} (h : Turns S w w1) : w.heap.size ≤ w1.heap.size := by
  induction h with
  | refl => exact Nat.le_refl _
  | step _ hg _ ih => exact Nat.le_trans ih hg.size
theorem Turns.block {S : Nat → Prop} {w w1 : World} (h : Turns S w w1) {i : Nat} (hi : i < w.heap.size) (hn : ¬ S i) : w1.heap[i]? = w.heap[i]? := by
  induction h with
  | refl => rfl
  | step ht hg hs ih => exact (hg.block i (Nat.lt_of_lt_of_le hi ht.size) (fun e => hn (hs i e.symm))).trans ih
theorem Turns.from_ {S : Nat → Prop} {w w1 : World} (h : Turns S w w1) {base : Nat} (hb : base ≤ w.heap.size) (hs : ∀ b, S b → base ≤ b) : Below base w w1 := by
  induction h with
  | refl => exact Below.refl _ _
  | step ht hg h1 ih => exact ih.grown hg (Nat.le_trans hb ht.size) (fun q e => hs q (h1 q e))
theorem Turns.owns {S : Nat → Prop} {w w1 : World} {b n : Nat} {D : DataW Value} (h : Turns S w w1) (o : w.ownsMap Tryd.prog 3 tokR b n D) (hn : ¬ S b) : w1.ownsMap Tryd.prog 3 tokR b n D := by
  induction h with
  | refl => exact o
  | step ht hg h1 ih => exact ih.kept hg (fun e => hn (h1 b e.symm))
theorem Turns.cells {S : Nat → Prop} {w w1 : World} (h : Turns S w w1) (hs : ∀ b, S b → ∃ es ck, w.heap[b]? = some (.map es ck)) : Cells w w1 := fun b cs t z e => h.block (blk_lt e) (fun hb => by
  obtain ⟨es, ck, h1⟩ := hs b hb
  rw [h1] at e
  cases e)
/-- A block.Map, its blocks named. -/
def BX (w : World) (p bA bF N : Nat) (a : Int → Option Int) (f : Int → Option (List Int)) : Prop := ∃ DA DF mF, BW w 0 p N bA bF DA DF a mF f
theorem BX.of {w : World} {base p N : Nat} {a : Int → Option Int} {f : Int → Option (List Int)} (h : BM w base p N a f) : ∃ bA bF, BX w p bA bF N a f ∧ base ≤ p ∧ base ≤ bA ∧ base ≤ bF := by
  obtain ⟨bA, bF, DA, DF, mF, hB⟩ := h
  exact ⟨bA, bF, ⟨DA, DF, mF, ⟨hB.hp, Nat.zero_le _, Nat.zero_le _, Nat.zero_le _, hB.ne, hB.oA, hB.hA, hB.oF, hB.hF, hB.el⟩⟩, hB.bp, hB.ba, hB.bf⟩
theorem BX.bm {w : World} {p bA bF N : Nat} {a : Int → Option Int} {f : Int → Option (List Int)} (h : BX w p bA bF N a f) : BM w 0 p N a f := ⟨bA, bF, h⟩
theorem BX.two {w : World} {p bA bF N : Nat} {a : Int → Option Int} {f : Int → Option (List Int)} (h : BX w p bA bF N a f) : ∀ b, Two bA bF b → ∃ es ck, w.heap[b]? = some (.map es ck) := by
  obtain ⟨DA, DF, mF, hB⟩ := h
  obtain ⟨es, ck, h1, _⟩ := hB.oA
  obtain ⟨es2, ck2, h2, _⟩ := hB.oF
  rintro b (rfl | rfl)
  · exact ⟨_, _, h1⟩
  · exact ⟨_, _, h2⟩
theorem BX.mono {w : World} {p bA bF N N1 : Nat} {a : Int → Option Int} {f : Int → Option (List Int)} (h : BX w p bA bF N a f) (hN : N ≤ N1) : BX w p bA bF N1 a f := by
  obtain ⟨DA, DF, mF, hB⟩ := h
  exact ⟨DA, DF, mF, ⟨hB.hp, hB.bp, hB.ba, hB.bf, hB.ne, hB.oA.mono hN, hB.hA, hB.oF.mono hN, hB.hF, hB.el⟩⟩
/-- Another map's state is as it was. -/
theorem BX.turns {S : Nat → Prop} {w w1 : World} {p bA bF N : Nat} {a : Int → Option Int} {f : Int → Option (List Int)} (h : BX w p bA bF N a f) (ht : Turns S w w1) (hk : Cells w w1) (hA : ¬ S bA) (hF : ¬ S bF) : BX w1 p bA bF N a f := by
  obtain ⟨DA, DF, mF, hB⟩ := h
  refine ⟨DA, DF, mF, ⟨(hk _ _ _ _ hB.hp).trans hB.hp, hB.bp, hB.ba, hB.bf, hB.ne, ht.owns hB.oA hA, hB.hA, ht.owns hB.oF hF, hB.hF, fun k => ⟨(hB.el k).1, fun r hr => ?_⟩⟩⟩
  obtain ⟨u, hu, h1⟩ := (hB.el k).2 r hr
  exact ⟨u, hu, h1.kept hk⟩
theorem BX.below {w w1 : World} {p bA bF N : Nat} {a : Int → Option Int} {f : Int → Option (List Int)} (h : BX w p bA bF N a f) (hb : Below w.heap.size w w1) : BX w1 p bA bF N a f := h.turns (S := fun _ => False) (Turns.of_below hb) (Cells.of_below hb) (fun e => e) (fun e => e)
theorem BX.but {w w1 : World} {p bA bF N pr : Nat} {a a1 : Int → Option Int} {f f1 : Int → Option (List Int)} (h : BX w p bA bF N a f) (hr : RM w pr a1 f1) (hg : w.grownBy w1 (some pr)) : BX w1 p bA bF N a f := by
  obtain ⟨DA, DF, mF, hB⟩ := h
  obtain ⟨cs, hR⟩ := hr
  have hpr : p ≠ pr := fun e => by
    have h1 := hB.hp
    rw [e, hR.hp] at h1
    injection h1 with h1
    injection h1 with _ h1
    exact absurd h1 (by decide)
  have hm : ∀ {b n : Nat} {D : DataW Value}, w.ownsMap Tryd.prog 3 tokR b n D → some b ≠ some pr := fun {b n D} o e => by
    obtain ⟨es, ck, hb, _⟩ := o
    rw [Option.some.inj e, hR.hp] at hb
    cases hb
  refine ⟨DA, DF, mF, ⟨(hg.block p (Array.getElem?_eq_some_iff.1 hB.hp).1 (fun e => hpr (Option.some.inj e))).trans hB.hp, hB.bp, hB.ba, hB.bf, hB.ne, hB.oA.kept hg (hm hB.oA), hB.hA, hB.oF.kept hg (hm hB.oF), hB.hF, fun k => ⟨(hB.el k).1, fun r hr => ?_⟩⟩⟩
  obtain ⟨u, hu, A, c, rfl, h1, h2, h3⟩ := (hB.el k).2 r hr
  exact ⟨_, hu, A, c, rfl, h1, h2, C_but hR.hp hR.no8 hg h3⟩
/-- Another reference's map is as it was. -/
theorem RM.but {w w1 : World} {pr pq : Nat} {a a1 : Int → Option Int} {f f1 : Int → Option (List Int)} (h : RM w pq a f) (hr : RM w pr a1 f1) (hne : pq ≠ pr) (hg : w.grownBy w1 (some pr)) : RM w1 pq a f := by
  obtain ⟨cs, hQ⟩ := h
  obtain ⟨cr, hR⟩ := hr
  refine ⟨cs, (hg.block pq (Array.getElem?_eq_some_iff.1 hQ.hp).1 (fun e => hne (Option.some.inj e))).trans hQ.hp, hQ.sz, hQ.at_, fun j hj => ?_⟩
  obtain ⟨u, hu, hs⟩ := hQ.new j hj
  exact ⟨u, hu, hs.but hR hg⟩
set_option maxRecDepth 100000 in
set_option maxHeartbeats 4000000 in
theorem put_zeroT {w : World} {p bA bF N : Nat} {a : Int → Option Int} {f : Int → Option (List Int)} (h : BX w p bA bF N a f) (k : Int) (h0 : 0 ≤ k) (h1 : k < 828) (A : Option Addr) (c : Nat) (b : List Int) (hb : b.length = 56) (hc : 56 ≤ c) (hC : Kd.C (Kd.int .u8) w A b.length b) (hz : bits_Nought.f b = some true) :
    Calls Tryd.prog 10 #[.pointer (some ⟨p, 0, none⟩), .int .i64 k, .slice A 56 c] w fun e w' => e = .returned (.int .i64 0) ∧ BX w' p bA bF N (setF a k none) (setF f k none) ∧ Turns (Two bA bF) w w' := by
  obtain ⟨DA, DF, mF, hB⟩ := h
  have c0 : w.cell? ⟨p, 0, none⟩ = some (.map (some bA)) := (blk_cell hB.hp 0).trans rfl
  have hu := Tryd.underlying61
  have d0 : decide (k < 0) = false := decide_eq_false (by omega)
  have d1 : decide (828 ≤ k) = false := decide_eq_false (by omega)
  have HB := Lib.hid hB
  have HC := Lib.hid hC
  have HZ := Lib.hid hz
  have H56 := Lib.hid hb
  have HK : Hid ((Lit.int .i64 k).wf = true) := wf_i h0 (by omega)
  have HBE := Lib.hid (Turns.refl (S := Two bA bF) w)
  clear hB hC hz hb
  go_enter Tryd.func10, Tryd.ntmps10
  go_wp2_with (first | (have t1 := c0; at_delete; refine wp_del _ rfl _ _ 57 3 rfl 3 law3 Tryd.underlying57 bA N DA _ rfl HB.out.oA HB.out.hA k rfl (keyOf_int_mk Tryd.underlying3 HK.out) ?_; intro w1 D1 ho1 hh1 hg1; have HB1 := Lib.hid (HB.out.turnA (Nat.le_refl _) hg1 ho1 (hA_set (a := a) (k := k) (v := none) hh1 (fun j => rfl))); have HE1 : Hid (Turns (Two bA bF) w w1) := HBE.out.step hg1 (fun q e => by cases e; exact Or.inl rfl); have HC1 := Lib.hid (C_kept HC.out (map_cells HB.out.oA hg1)); have c1 : w1.cell? ⟨p, 1, none⟩ = some (.map (some bF)) := (blk_cell HB1.out.hp 1).trans rfl; clear c0 ho1 hh1 hg1) | (have t1 := c1; at_delete; refine wp_del _ rfl _ _ 59 3 rfl 30 law3 Tryd.underlying59 bF N DF _ rfl HB1.out.oF HB1.out.hF k rfl (keyOf_int_mk Tryd.underlying3 HK.out) ?_; intro w2 D2 ho2 hh2 hg2; have HB2 := Lib.hid (HB1.out.turnF (Nat.le_refl _) hg2 ho2 hh2 (el_del HB1.out.el k)); have HE2 : Hid (Turns (Two bA bF) w w2) := HE1.out.step hg2 (fun q e => by cases e; exact Or.inr rfl); have HC2 := Lib.hid (C_kept HC1.out (map_cells HB1.out.oF hg2)); clear c1 ho2 hh2 hg2))
  have hcn := bits_Nought.calls A c b true w2 HC2.out (by rw [H56.out]; exact hc) HZ.out
  rw [H56.out] at hcn
  refine hcn.mono ?_
  clear hcn
  rintro e w3 ⟨rfl, ⟨nd, rfl⟩⟩
  go_wp2
  go_ret
  exact ⟨rfl, ⟨_, _, _, HB2.out.below (pw_below_drewN (Below.refl _ _) nd)⟩, HE2.out.step (grown_of_below (pw_below_drewN (Below.refl _ _) nd) none) (fun q e => by cases e)⟩
set_option maxRecDepth 100000 in
set_option maxHeartbeats 4000000 in
theorem put_someT {w : World} {p bA bF N : Nat} {a : Int → Option Int} {f : Int → Option (List Int)} (h : BX w p bA bF N a f) (hN : N < 1000000) (k : Int) (h0 : 0 ≤ k) (h1 : k < 828) (A : Option Addr) (c : Nat) (b : List Int) (hb : b.length = 56) (hc : 56 ≤ c) (hC : Kd.C (Kd.int .u8) w A b.length b) (hz : bits_Nought.f b = some false) :
    Calls Tryd.prog 10 #[.pointer (some ⟨p, 0, none⟩), .int .i64 k, .slice A 56 c] w fun e w' => e = .returned (.int .i64 0) ∧ BX w' p bA bF (N + 1) (setF a k none) (setF f k (some b)) ∧ Turns (Two bA bF) w w' := by
  obtain ⟨DA, DF, mF, hB⟩ := h
  have c0 : w.cell? ⟨p, 0, none⟩ = some (.map (some bA)) := (blk_cell hB.hp 0).trans rfl
  have hu := Tryd.underlying61
  have d0 : decide (k < 0) = false := decide_eq_false (by omega)
  have d1 : decide (828 ≤ k) = false := decide_eq_false (by omega)
  have HB := Lib.hid hB
  have HC := Lib.hid hC
  have HZ := Lib.hid hz
  have H56 := Lib.hid hb
  have HK : Hid ((Lit.int .i64 k).wf = true) := wf_i h0 (by omega)
  have HBE := Lib.hid (Turns.refl (S := Two bA bF) w)
  clear hB hC hz hb
  go_enter Tryd.func10, Tryd.ntmps10
  go_wp2_with (first | (have t1 := c0; at_delete; refine wp_del _ rfl _ _ 57 3 rfl 3 law3 Tryd.underlying57 bA N DA _ rfl HB.out.oA HB.out.hA k rfl (keyOf_int_mk Tryd.underlying3 HK.out) ?_; intro w1 D1 ho1 hh1 hg1; have HB1 := Lib.hid (HB.out.turnA (Nat.le_refl _) hg1 ho1 (hA_set (a := a) (k := k) (v := none) hh1 (fun j => rfl))); have HE1 : Hid (Turns (Two bA bF) w w1) := HBE.out.step hg1 (fun q e => by cases e; exact Or.inl rfl); have HC1 := Lib.hid (C_kept HC.out (map_cells HB.out.oA hg1)); have c1 : w1.cell? ⟨p, 1, none⟩ = some (.map (some bF)) := (blk_cell HB1.out.hp 1).trans rfl; clear c0 ho1 hh1 hg1) | (have t1 := c1; at_delete; refine wp_del _ rfl _ _ 59 3 rfl 30 law3 Tryd.underlying59 bF N DF _ rfl HB1.out.oF HB1.out.hF k rfl (keyOf_int_mk Tryd.underlying3 HK.out) ?_; intro w2 D2 ho2 hh2 hg2; have HB2 := Lib.hid (HB1.out.turnF (Nat.le_refl _) hg2 ho2 hh2 (el_del HB1.out.el k)); have HE2 : Hid (Turns (Two bA bF) w w2) := HE1.out.step hg2 (fun q e => by cases e; exact Or.inr rfl); have HC2 := Lib.hid (C_kept HC1.out (map_cells HB1.out.oF hg2)); clear c1 ho2 hh2 hg2))
  have hcn := bits_Nought.calls A c b false w2 HC2.out (by rw [H56.out]; exact hc) HZ.out
  rw [H56.out] at hcn
  refine hcn.mono ?_
  clear hcn
  rintro e w3 ⟨rfl, ⟨nd, rfl⟩⟩
  have HB3 := Lib.hid (HB2.out.below (pw_below_drewN (Below.refl w2.heap.size w2) nd))
  have HE3 := Lib.hid (HE2.out.step (grown_of_below (pw_below_drewN (Below.refl w2.heap.size w2) nd) none) (fun q e => by cases e))
  have HC3 := Lib.hid (Kd.C_drewN HC2.out nd)
  obtain ⟨ad, rfl, _⟩ := HC3.out.2.2 (by rw [H56.out]; decide)
  generalize w2.drewN nd = w3 at *
  have c3 : w3.cell? ⟨p, 1, none⟩ = some (.map (some bF)) := (blk_cell HB3.out.hp 1).trans rfl
  have hz3 := blk_lt HB3.out.hp
  clear HB2 HE2 HC2
  go_wp2_with fail
  have HB4 := Lib.hid (HB3.out.below (below_drew (Below.refl w3.heap.size w3)))
  have HE4 := Lib.hid (HE3.out.step (grown_of_below (below_drew (Below.refl w3.heap.size w3)) none) (fun q e => by cases e))
  have HC4 := Lib.hid (Kd.C_drew HC3.out)
  have c4 : w3.drew.cell? ⟨p, 1, none⟩ = some (.map (some bF)) := (blk_cell HB4.out.hp 1).trans rfl
  go_region_held3 (fun w' => w'.cell? ⟨p, 1, none⟩ = some (.map (some bF))) (first | exact c4 | go_keep)
    (first | (go_at_call 28; have hcl := clone_some ad c b w3.drew HC4.out (by rw [H56.out]; decide); rw [H56.out] at hcl; refine hcl.mono ?_; clear hcl; rintro e w5 ⟨v5, rfl, hR, hb⟩; have HR5 := Lib.hid hR; have HB5 := Lib.hid (HB4.out.below hb); have HE5 : Hid (Turns (Two bA bF) w w5) := Lib.hid (HE4.out.step (grown_of_below hb none) (fun q e => by cases e)); have c5 : w5.cell? ⟨p, 1, none⟩ = some (.map (some bF)) := (blk_cell HB5.out.hp 1).trans rfl; clear hR hb; obtain ⟨w6, hrun6, ho6, hg6⟩ := HB5.out.oF.update law3 Tryd.underlying59 (by unfold maxLen; omega) (keyOf_int_mk Tryd.underlying3 HK.out) (d := tok v5) (ps := []) (val := v5) rfl; have HB6 := Lib.hid (HB5.out.turnF (Nat.le_succ _) hg6 ho6 (HB5.out.hF.put k v5) (el_put6 HB5.out.el k v5 b (byt_of_R HR5.out H56.out))); have HE6 : Hid (Turns (Two bA bF) w w6) := HE5.out.step hg6 (fun q e => by cases e; exact Or.inr rfl); have c6 : w6.cell? ⟨p, 1, none⟩ = some (.map (some bF)) := (blk_cell HB6.out.hp 1).trans rfl; clear ho6 hg6))
  all_goals (go_wp2; go_ret; exact ⟨rfl, ⟨_, _, _, HB6.out⟩, HE6.out⟩)
set_option maxRecDepth 100000 in
set_option maxHeartbeats 4000000 in
theorem place_yesT {w : World} {p bA bF N : Nat} {a : Int → Option Int} {f : Int → Option (List Int)} (h : BX w p bA bF N a f) (hN : N < 1000000) (k to_ : Int) (hk : (Lit.int .i64 k).wf = true) (r : List Int) (hr : f k = some r) (h1 : 1 ≤ to_) (h2 : to_ ≤ 65535) :
    Calls Tryd.prog 13 #[.pointer (some ⟨p, 0, none⟩), .int .i64 k, .int .i64 to_] w fun e w' => e = .returned (.int .i64 0) ∧ BX w' p bA bF (N + 1) (setF a k (some to_)) (setF f k none) ∧ Turns (Two bA bF) w w' := by
  obtain ⟨DA, DF, mF, hB⟩ := h
  have c0 : w.cell? ⟨p, 1, none⟩ = some (.map (some bF)) := (blk_cell hB.hp 1).trans rfl
  have hu := Tryd.underlying61
  obtain ⟨u, hu1, _⟩ := (hB.el k).2 r hr
  have HB := Lib.hid hB
  have HK := Lib.hid hk
  have HV : Hid ((mF k).getD (.slice none 0 0) = u ∧ (mF k).isSome = true) := by show _ ∧ _; rw [hu1]; exact ⟨rfl, rfl⟩
  have HBE := Lib.hid (Turns.refl (S := Two bA bF) w)
  clear hB hk hu1 hr
  go_enter Tryd.func13, Tryd.ntmps13
  go_wp2_with (first | (at_lookup; refine wp_look_ok _ rfl _ _ 59 rfl 3 30 law3 Tryd.underlying59 (zeroS _) bF N DF _ rfl HB.out.oF HB.out.hF k rfl (keyOf_int_mk Tryd.underlying3 HK.out) ?_; rw [HV.out.1, HV.out.2]) | (go_at_call 26; refine (addr_yes to_ _ h1 h2).mono ?_; rintro e w1 ⟨rfl, rfl⟩) | (at_delete; refine wp_del _ rfl _ _ 59 3 rfl 30 law3 Tryd.underlying59 bF N DF _ rfl HB.out.oF HB.out.hF k rfl (keyOf_int_mk Tryd.underlying3 HK.out) ?_; intro w2 D2 ho2 hh2 hg2; have HB2 := Lib.hid (HB.out.turnF (Nat.le_refl _) hg2 ho2 hh2 (el_del HB.out.el k)); have HE2 : Hid (Turns (Two bA bF) w w2) := HBE.out.step hg2 (fun q e => by cases e; exact Or.inr rfl); have c02 : w2.cell? ⟨p, 0, none⟩ = some (.map (some bA)) := (blk_cell HB2.out.hp 0).trans rfl; clear ho2 hh2 hg2) | (at_mapUpdate; refine wp_upd _ rfl _ _ _ 57 rfl 3 3 law3 Tryd.underlying57 bA N DA _ rfl HB2.out.oA HB2.out.hA (by unfold maxLen; omega) k (.int .i64 to_) rfl rfl (keyOf_int_mk Tryd.underlying3 HK.out) ?_; intro w3 D3 ho3 hh3 hg3; have HB3 := Lib.hid (HB2.out.turnA (Nat.le_succ _) hg3 ho3 (hA_set (a := a) (k := k) (v := some to_) hh3 (fun j => rfl))); have HE3 : Hid (Turns (Two bA bF) w w3) := HE2.out.step hg3 (fun q e => by cases e; exact Or.inl rfl); clear ho3 hh3 hg3))
  go_ret
  exact ⟨rfl, ⟨_, _, _, HB3.out⟩, HE3.out⟩
set_option maxRecDepth 100000 in
set_option maxHeartbeats 4000000 in
theorem cut_callsT {w : World} {p bA bF N : Nat} {a : Int → Option Int} {f : Int → Option (List Int)} (h : BX w p bA bF N a f) (n : Int) :
    Calls Tryd.prog 19 #[.pointer (some ⟨p, 0, none⟩), .int .i64 n] w fun e w' => e = .returned (.tuple #[]) ∧ BX w' p bA bF N (cutF n a) (cutF n f) ∧ Turns (Two bA bF) w w' := by
  obtain ⟨DA, DF, mF, hB⟩ := h
  have c0 : w.cell? ⟨p, 0, none⟩ = some (.map (some bA)) := (blk_cell hB.hp 0).trans rfl
  have hu := Tryd.underlying61
  have hca := cut_I bA N DA _ hB.oA hB.hA n
  have HA := Lib.hid hca
  have HB := Lib.hid hB
  have HBE := Lib.hid (Turns.refl (S := Two bA bF) w)
  clear hB hca
  go_enter Tryd.func19, Tryd.ntmps19
  go_wp2_with fail
  refine HA.out.mono ?_
  rintro e w2 ⟨rfl, ⟨D2, ho2, hh2⟩, hg2⟩
  rw [cutF_map] at hh2
  have HB2 := Lib.hid (HB.out.turnA (Nat.le_refl _) hg2 ho2 hh2)
  have HE2 : Hid (Turns (Two bA bF) w w2) := HBE.out.step hg2 (fun q e => by cases e; exact Or.inl rfl)
  have c02 : w2.cell? ⟨p, 1, none⟩ = some (.map (some bF)) := (blk_cell HB2.out.hp 1).trans rfl
  have HF := Lib.hid (cut_B bF N DF mF HB2.out.oF HB2.out.hF n)
  clear ho2 hh2 hg2
  go_wp2_with fail
  refine HF.out.mono ?_
  rintro e w3 ⟨rfl, ⟨D3, ho3, hh3⟩, hg3⟩
  have HB3 := Lib.hid (HB2.out.turnF (f1 := cutF n f) (Nat.le_refl _) hg3 ho3 hh3 (fun k => by
    have := HB2.out.el k
    unfold cutF
    split
    · exact ⟨fun _ => rfl, fun r hr => by cases hr⟩
    · exact this))
  have HE3 : Hid (Turns (Two bA bF) w w3) := HE2.out.step hg3 (fun q e => by cases e; exact Or.inr rfl)
  clear ho3 hh3 hg3
  go_wp2
  go_end0
  exact ⟨rfl, ⟨_, _, _, HB3.out⟩, HE3.out⟩
set_option maxRecDepth 100000 in
set_option maxHeartbeats 4000000 in
theorem move_yesT {w : World} {p bA bF N : Nat} {a : Int → Option Int} {f : Int → Option (List Int)} (h : BX w p bA bF N a f) (hN : N < 1000000) (fr to_ : Int) (h1 : 1 ≤ to_) (h2 : to_ ≤ 65535) :
    Calls Tryd.prog 16 #[.pointer (some ⟨p, 0, none⟩), .int .i64 fr, .int .i64 to_] w fun e w' => ∃ ss : List Int, e = .returned (.int .i64 (ss.length : Int)) ∧ ss.Nodup ∧ ss.length ≤ N ∧ (∀ j, j ∈ ss ↔ a j = some fr) ∧ BX w' p bA bF N (movF fr to_ a) f ∧ Turns (Two bA bF) w w' := by
  obtain ⟨DA, DF, mF, hB⟩ := h
  have c0 : w.cell? ⟨p, 0, none⟩ = some (.map (some bA)) := (blk_cell hB.hp 0).trans rfl
  have hu := Tryd.underlying61
  have hown := hB.oA
  have hszA := hown.size_le
  have hbl := hown.lt
  have HB := Lib.hid hB
  have HA := Lib.hid hB.hA
  have HC0 := Lib.hid c0
  clear hB
  go_enter Tryd.func16, Tryd.ntmps16
  go_wp2_with (first
    | (at_range; refine wpList_range_own _ rfl _ 57 rfl 3 3 law3 Tryd.underlying57 tokR bA N _ rfl hown ?_; intro w0 hrg0 hg0 hs0)
    | go_in)
  go_frame
  go_loopw [7] (fun i wr => ∃ (left : Lit → Bool) (cnt : Nat) (D' : DataW Value) (a1 : Int → Option Int) (ss : List Int), i = .int .i64 (ss.length : Int) ∧ ss.length + cnt ≤ N ∧ wr.ranges Tryd.prog 3 tokR bA w.heap.size N D' left cnt ∧ w.grownBy wr (some bA) ∧ Hid (Holds D' (fun k => (a1 k).map (Value.int .i64))) ∧ Hid (Moving fr to_ a a1 left ss))
    (fun _ wr => wr.rangeLeft bA w.heap.size)
  case atStart => exact ⟨_, _, DA, a, [], rfl, by simp; omega, hrg0, hg0.but _, HA, Moving.start HA.out fr to_⟩
  case round =>
    obtain ⟨left, cnt, D', a1, ss, rfl, hcs, hrg, hgw, HD, HT⟩ := hrel
    go_wp2_with (first
      | (at_next; refine wpList_next_ranges _ rfl _ rfl 3 law3 tokR (Value.int .i64) id (fun key kl hk => by obtain ⟨x, hx, _⟩ := Maps.keyOf_i64 Tryd.underlying3 hk; exact ⟨x, hx⟩) (fun v _ _ => ⟨v, rfl⟩) bA w.heap.size N _ _ _ rfl hrg ?_ ?_)
      | go_in)
    · intro _ hl0
      obtain ⟨hD, hm⟩ := HT.out.done hl0
      have hnd := HT.out.nd
      subst hD
      have HBN := HB.out.turnA (Nat.le_refl _) hgw hrg.owns HD.out
      have HE : Turns (Two bA bF) w wr := (Turns.refl w).step hgw (fun q e => by cases e; exact Or.inl rfl)
      have hsn : ss.length ≤ N := by omega
      clear hrg hgw HD HT
      go_wp2
      go_ret
      exact ⟨ss, rfl, hnd, hsn, hm, ⟨_, _, _, HBN⟩, HE⟩
    · intro x c kl yd yp w1 cnt1 hkey hlx hv hat hrg1 hlt hg1 hs1 hen
      obtain ⟨x', ex, rfl, _⟩ := Maps.keyOf_i64 Tryd.underlying3 hkey
      obtain rfl : x = x' := encZ_inj ex
      have hgw1 := hgw.andThen hg1 (fun j hj => by cases hj; exact Or.inl (Nat.le_refl _))
      have hyd : yd = tok c := by
        unfold tokR at hv
        injection hv with hv
        exact (congrArg Prod.fst hv).symm
      have hsx := at_some HD.out hat hyd
      have hax := HT.out.yet x hlx
      rw [hax] at hsx
      obtain ⟨y, hy⟩ : ∃ y, a x = some y := by cases hq : a x with
        | none => rw [hq] at hsx; cases hsx
        | some y => exact ⟨y, rfl⟩
      obtain rfl : c = .int .i64 y := by rw [hy] at hsx; exact (Option.some.inj hsx).symm
      have hcx : w1.cell? ⟨p, 0, none⟩ = some (.map (some bA)) := Cells.cell (w := w) (map_cells HB.out.oA hgw1) HC0.out
      have his : ((a1 x).map (Value.int .i64)).isSome = true := by rw [hax, hy]; rfl
      clear hyd hat hsx hv c0
      by_cases hp : y = fr
      · have hpd : (y == fr) = true := beq_iff_eq.2 hp
        have HHP := Lib.hid (hy.trans (congrArg some hp))
        clear hp hy
        go_wp2_with (first
          | (go_at_call 26; refine (addr_yes to_ _ h1 h2).mono ?_; rintro e w2 ⟨rfl, rfl⟩)
          | (at_mapUpdate; refine wp_turn _ rfl _ _ _ 57 rfl 3 3 law3 Tryd.underlying57 bA w.heap.size N _ _ _ _ rfl hrg1 HD.out (by unfold maxLen; omega) x (.int .i64 to_) his rfl rfl hkey ?_; intro w3 D3 hrg3 hh3 hg3; go_frame)
          | go_in)
        go_roundw
        case rel => exact ⟨_, cnt1, _, _, ss ++ [x], by simp, by rw [List.length_append]; simp; omega, hrg3, hgw1.andThen hg3 (fun j hj => by cases hj; exact Or.inr rfl), hA_set (a := a1) (k := x) (v := some to_) hh3 (fun j => rfl), HT.out.moves x hlx HHP.out⟩
        case measure => rw [hrg3.left_eq, hrg.left_eq]; omega
      · have hpd : (y == fr) = false := beq_eq_false_iff_ne.2 hp
        have HHP : Hid (a x ≠ some fr) := by show _ ≠ _; rw [hy]; exact fun e => hp (Option.some.inj e)
        clear hp hy
        go_wp2
        go_roundw
        case rel => exact ⟨_, cnt1, _, _, _, rfl, by omega, hrg1, hgw1, HD, HT.out.stays x hlx HHP.out⟩
        case measure => rw [hrg1.left_eq, hrg.left_eq]; exact hlt
end Go.Proofs.YtlkhlmckgpjopaaDoor.Given
