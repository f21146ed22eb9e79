/- Tolds: GivTold15, GivTold16. -/
import Derived.Test.YtlkhlmckgpjopaaDoorClones
import Derived.Test.YtlkhlmckgpjopaaDoorLawPlacesWalk
/- told: a call on both maps; by hand. -/
namespace Go.Proofs.YtlkhlmckgpjopaaDoor.Given
open Go.RowKit Go.Maps Go.Sort Go.Shelf Go.Proofs.YtlkhlmckgpjopaaDoorW.PrintWords Go.Proofs.YtlkhlmckgpjopaaDoorW.PrintLast Go.Proofs.YtlkhlmckgpjopaaDoorW.PrintMore Go.Proofs.YtlkhlmckgpjopaaDoor.Base
set_option linter.unusedVariables false
set_option linter.unusedSimpArgs false
/-- What a call on both maps leaves as it was. -/
structure Kept (bA bF pr : Nat) (w w' : World) : Prop where
  tr : Turns (fun i => i = bA ∨ i = bF ∨ i = pr) w w'
  bx : ∀ {p2 bA2 bF2 N2 : Nat} {a2 : Int → Option Int} {f2 : Int → Option (List Int)}, BX w p2 bA2 bF2 N2 a2 f2 → ¬ Two bA bF bA2 → ¬ Two bA bF bF2 → BX w' p2 bA2 bF2 N2 a2 f2
  rm : ∀ {po : Nat} {ao : Int → Option Int} {fo : Int → Option (List Int)}, RM w po ao fo → po ≠ pr → RM w' po ao fo
  ce : ∀ {q : Addr} {v : Value}, w.cell? q = some v → q.block ≠ pr → w'.cell? q = some v
  c8 : ∀ {A : Option Addr} {n : Nat} {xs : List Int}, Kd.C (Kd.int .u8) w A n xs → Kd.C (Kd.int .u8) w' A n xs
theorem Kept.trans {bA bF pr : Nat} {w w1 w2 : World} (h : Kept bA bF pr w w1) (k : Kept bA bF pr w1 w2) : Kept bA bF pr w w2 := ⟨h.tr.trans k.tr, fun b h1 h2 => k.bx (h.bx b h1 h2) h1 h2, fun r hne => k.rm (h.rm r hne) hne, fun c hne => k.ce (h.ce c hne) hne, fun c => k.c8 (h.c8 c)⟩
theorem Kept.refl (bA bF pr : Nat) (w : World) : Kept bA bF pr w w := ⟨.refl w, fun b _ _ => b, fun r _ => r, fun c _ => c, fun c => c⟩
theorem Kept.below {bA bF pr : Nat} {w w1 : World} (hb : Below w.heap.size w w1) : Kept bA bF pr w w1 := ⟨Turns.of_below hb, fun b _ _ => b.below hb, fun r _ => r.below hb, fun c _ => pw_cell_below hb c, fun c => Kd.C_below c hb⟩
theorem Kept.turns {p bA bF N pr : Nat} {a : Int → Option Int} {f : Int → Option (List Int)} {w w1 : World} (hx : BX w p bA bF N a f) (ht : Turns (Two bA bF) w w1) : Kept bA bF pr w w1 :=
  have hk := ht.cells hx.two
  ⟨ht.or (fun b h => h.elim Or.inl (fun h => Or.inr (Or.inl h))), fun b h1 h2 => b.turns ht hk h1 h2, fun r _ => r.cells hk, fun c _ => hk.cell c, fun c => hk.C c⟩
theorem Kept.no {bA bF pr : Nat} {w w1 : World} (ht : Turns (fun _ => False) w w1) : Kept bA bF pr w w1 := Kept.below (ht.from_ (Nat.le_refl _) (fun _ h => h.elim))
theorem Kept.grown {bA bF pr : Nat} {a : Int → Option Int} {f : Int → Option (List Int)} {w w1 : World} (hr : RM w pr a f) (hg : w.grownBy w1 (some pr)) : Kept bA bF pr w w1 := by
  refine ⟨Turns.one hg (Or.inr (Or.inr rfl)), fun b _ _ => b.but hr hg, fun r hne => r.but hr hne hg, fun {q v} c hne => ?_, fun c => ?_⟩
  · rw [← c]
    refine cell_block ?_
    cases hb : w.heap[q.block]? with
    | none => unfold World.cell? at c; rw [hb] at c; simp at c
    | some o => rw [← hb]; exact hg.block _ (blk_lt hb) (fun e => hne (Option.some.inj e))
  · obtain ⟨cs, hR⟩ := hr
    exact C_but hR.hp hR.no8 hg c
theorem RM.pr_map {w : World} {p bA bF N pr : Nat} {a a1 : Int → Option Int} {f f1 : Int → Option (List Int)} (hr : RM w pr a1 f1) (hx : BX w p bA bF N a f) : ¬ Two bA bF pr := fun h => by
  obtain ⟨es, ck, h1⟩ := hx.two pr h
  obtain ⟨cs, hR⟩ := hr
  rw [hR.hp] at h1
  cases h1
theorem RM.lt {w : World} {pr : Nat} {a1 : Int → Option Int} {f1 : Int → Option (List Int)} (hr : RM w pr a1 f1) : pr < w.heap.size := by
  obtain ⟨cs, hR⟩ := hr
  exact blk_lt hR.hp
/-- The invariants behind each call. -/
theorem Inv.put {a : Int → Option Int} {f : Int → Option (List Int)} (h : Inv a f) {k : Int} (h0 : 0 ≤ k) (h1 : k < 828) (v : Option (List Int)) : Inv (setF a k none) (setF f k v) := by
  refine ⟨fun j hj => ?_, fun j hj => ?_, fun j x hj => ?_, fun j hj => ?_⟩ <;> unfold setF at hj <;> (try unfold setF) <;> by_cases e : j = k
  · rw [if_pos e] at hj; exact absurd rfl hj
  · rw [if_neg e] at hj; exact h.bdA j hj
  · exact e ▸ ⟨h0, h1⟩
  · rw [if_neg e] at hj; exact h.bdF j hj
  · rw [if_pos e] at hj; cases hj
  · rw [if_neg e] at hj; exact h.pos j x hj
  · rw [if_pos e]
  · rw [if_neg e] at hj; rw [if_neg e]; exact h.no j hj
theorem Inv.place {a : Int → Option Int} {f : Int → Option (List Int)} (h : Inv a f) {k to_ : Int} (h0 : 0 ≤ k) (h1 : k < 828) (ht1 : 1 ≤ to_) (ht2 : to_ ≤ 65535) : Inv (setF a k (some to_)) (setF f k none) := by
  refine ⟨fun j hj => ?_, fun j hj => ?_, fun j x hj => ?_, fun j hj => ?_⟩ <;> unfold setF at hj <;> (try unfold setF) <;> by_cases e : j = k
  · exact e ▸ ⟨h0, h1⟩
  · rw [if_neg e] at hj; exact h.bdA j hj
  · exact e ▸ ⟨h0, h1⟩
  · rw [if_neg e] at hj; exact h.bdF j hj
  · rw [if_pos e] at hj; cases hj; exact ⟨ht1, ht2⟩
  · rw [if_neg e] at hj; exact h.pos j x hj
  · rw [if_pos e] at hj; exact absurd rfl hj
  · rw [if_neg e] at hj; rw [if_neg e]; exact h.no j hj
theorem Inv.cut {a : Int → Option Int} {f : Int → Option (List Int)} (h : Inv a f) (n : Int) : Inv (cutF n a) (cutF n f) := by
  refine ⟨fun j hj => ?_, fun j hj => ?_, fun j x hj => ?_, fun j hj => ?_⟩ <;> unfold cutF at hj <;> (try unfold cutF) <;> by_cases e : n ≤ j
  · rw [if_pos e] at hj; exact absurd rfl hj
  · rw [if_neg e] at hj; exact h.bdA j hj
  · rw [if_pos e] at hj; exact absurd rfl hj
  · rw [if_neg e] at hj; exact h.bdF j hj
  · rw [if_pos e] at hj; cases hj
  · rw [if_neg e] at hj; exact h.pos j x hj
  · rw [if_pos e]
  · rw [if_neg e] at hj; rw [if_neg e]; exact h.no j hj
theorem Inv.move {a : Int → Option Int} {f : Int → Option (List Int)} (h : Inv a f) {fr to_ : Int} (ht1 : 1 ≤ to_) (ht2 : to_ ≤ 65535) : Inv (movF fr to_ a) f := by
  refine ⟨fun j hj => ?_, h.bdF, fun j x hj => ?_, fun j hj => ?_⟩
  · unfold movF at hj
    by_cases e : a j = some fr
    · exact h.bdA j (by rw [e]; simp)
    · rw [if_neg e] at hj; exact h.bdA j hj
  · unfold movF at hj
    by_cases e : a j = some fr
    · rw [if_pos e] at hj; cases hj; exact ⟨ht1, ht2⟩
    · rw [if_neg e] at hj; exact h.pos j x hj
  · unfold movF
    rw [h.no j hj, if_neg (by simp)]
def Told (p bA bF N pr : Nat) (w w' : World) : Prop := ∃ (a' : Int → Option Int) (f' : Int → Option (List Int)), BX w' p bA bF (N + 1) a' f' ∧ RM w' pr a' f' ∧ Inv a' f' ∧ Kept bA bF pr w w'
abbrev boxC (what k n : Int) (A : Option Addr) (l c : Nat) : Obj := .cells #[.int .i64 what, .int .i64 k, .int .i64 n, .slice A l c] 53 (0, 0)
theorem blk_cell' {w : World} {g : Nat} {t : TypeId} {cs : Array Value} (h : w.heap[g]? = some (.cells cs t (0, 0))) (k : Nat) {v : Value} (hv : cs[k]? = some v) : w.cell? ⟨g, k, none⟩ = some v := (blk_cell h k).trans hv
theorem nd_len15 {s t : List Int} (hs : s.Nodup) (ht : t.Nodup) (h : ∀ x, x ∈ s ↔ x ∈ t) : s.length = t.length := ((List.perm_ext_iff_of_nodup hs ht).2 h).length_eq
set_option maxRecDepth 100000 in
set_option maxHeartbeats 4000000 in
theorem told_at {w : World} {p bA bF N pr : Nat} {a : Int → Option Int} {f : Int → Option (List Int)} (hx : BX w p bA bF N a f) (hr : RM w pr a f) (hi : Inv a f) (hN : N < 1000000) (k n : Int) (hk : (Lit.int .i64 k).wf = true) (A : Option Addr) (c : Nat) (b : List Int) (hC : Kd.C (Kd.int .u8) w A b.length b) (hc : b.length ≤ c) (hl : b.length ≤ 20000) :
    Calls Tryd.prog 24 #[.pointer (some ⟨p, 0, none⟩), .pointer (some ⟨pr, 0, none⟩), .agg #[.int .i64 1, .int .i64 k, .int .i64 n, .slice A b.length c]] w fun e w' => e = .returned (.bool true) ∧ Told p bA bF N pr w w' := by
  have hb1 : Below w.heap.size w (w.alloc (boxC 1 k n A b.length c)) := (Below.refl w.heap.size w).alloc (Nat.le_refl _) _
  have hd1 : Below w.heap.size w (w.alloc (boxC 1 k n A b.length c)).drew := below_drew hb1
  have HX1 := Lib.hid (hx.below hb1)
  have HR1 := Lib.hid (hr.below hb1)
  have HX2 := Lib.hid (hx.below hd1)
  have HR2 := Lib.hid (hr.below hd1)
  have HK1 : Hid (Kept bA bF pr w (w.alloc (boxC 1 k n A b.length c))) := Kept.below hb1
  have HK2 : Hid (Kept bA bF pr w (w.alloc (boxC 1 k n A b.length c)).drew) := Kept.below hd1
  have HC1 := Lib.hid (Kd.C_below hC hb1)
  have HC2 := Lib.hid (Kd.C_below hC hd1)
  have hbk : (w.alloc (boxC 1 k n A b.length c)).drew.heap[w.heap.size]? = some (boxC 1 k n A b.length c) := blk_below (heap_alloc_new w _) (below_drew (Below.refl _ _))
  have b1 := blk_cell' hbk 1 rfl
  have b2 := blk_cell' hbk 2 rfl
  have b3 := blk_cell' hbk 3 rfl
  have hpr : w.heap.size ≠ pr := (Nat.ne_of_lt hr.lt).symm
  have HI := Lib.hid hi
  have HW := Lib.hid hk
  have HPR := Lib.hid hpr
  clear hx hr hi hk hC hbk hb1 hd1 hpr
  go_enter Tryd.func24, Tryd.ntmps24
  obtain ⟨v, hv⟩ : ∃ v, (a k).getD 0 = v := ⟨_, rfl⟩
  have HV := Lib.hid hv
  have hvv : (v == v) = true := by simp
  clear hv
  go_wp2_with fail
  go_region_held3 (fun w' => w'.cell? ⟨w.heap.size, 1, none⟩ = some (.int .i64 k)) (first | exact b1 | go_keep)
    (first | (go_at_call 14; refine (at_calls HX2.out.bm k HW.out).mono ?_; rintro e w7 ⟨rfl, rfl⟩; rw [HV.out]) | (go_at_call 37; refine (address_calls HR2.out HI.out k).mono ?_; rintro e w7 ⟨rfl, rfl⟩; rw [HV.out]))
  all_goals
    go_wp2
    go_ret
    exact ⟨rfl, _, _, HX2.out.mono (Nat.le_succ _), HR2.out, HI.out, HK2.out⟩
set_option maxRecDepth 100000 in
set_option maxHeartbeats 4000000 in
theorem told_else {w : World} {p bA bF N pr : Nat} {a : Int → Option Int} {f : Int → Option (List Int)} (hx : BX w p bA bF N a f) (hr : RM w pr a f) (hi : Inv a f) (hN : N < 1000000) (k n : Int) (hk : (Lit.int .i64 k).wf = true) (A : Option Addr) (c : Nat) (b : List Int) (hC : Kd.C (Kd.int .u8) w A b.length b) (hc : b.length ≤ c) (hl : b.length ≤ 20000) (q : Int) (q0 : q ≠ 0) (q1 : q ≠ 1) (q2 : q ≠ 2) (q3 : q ≠ 3) (q4 : q ≠ 4) (q5 : q ≠ 5) :
    Calls Tryd.prog 24 #[.pointer (some ⟨p, 0, none⟩), .pointer (some ⟨pr, 0, none⟩), .agg #[.int .i64 q, .int .i64 k, .int .i64 n, .slice A b.length c]] w fun e w' => e = .returned (.bool true) ∧ Told p bA bF N pr w w' := by
  have e0 : (q == 0) = false := beq_eq_false_iff_ne.2 q0
  have e1 : (q == 1) = false := beq_eq_false_iff_ne.2 q1
  have e2 : (q == 2) = false := beq_eq_false_iff_ne.2 q2
  have e3 : (q == 3) = false := beq_eq_false_iff_ne.2 q3
  have e4 : (q == 4) = false := beq_eq_false_iff_ne.2 q4
  have e5 : (q == 5) = false := beq_eq_false_iff_ne.2 q5
  clear q0 q1 q2 q3 q4 q5
  have hb1 : Below w.heap.size w (w.alloc (boxC q k n A b.length c)) := (Below.refl w.heap.size w).alloc (Nat.le_refl _) _
  have hd1 : Below w.heap.size w (w.alloc (boxC q k n A b.length c)).drew := below_drew hb1
  have HX1 := Lib.hid (hx.below hb1)
  have HR1 := Lib.hid (hr.below hb1)
  have HX2 := Lib.hid (hx.below hd1)
  have HR2 := Lib.hid (hr.below hd1)
  have HK1 : Hid (Kept bA bF pr w (w.alloc (boxC q k n A b.length c))) := Kept.below hb1
  have HK2 : Hid (Kept bA bF pr w (w.alloc (boxC q k n A b.length c)).drew) := Kept.below hd1
  have HC1 := Lib.hid (Kd.C_below hC hb1)
  have HC2 := Lib.hid (Kd.C_below hC hd1)
  have hbk : (w.alloc (boxC q k n A b.length c)).drew.heap[w.heap.size]? = some (boxC q k n A b.length c) := blk_below (heap_alloc_new w _) (below_drew (Below.refl _ _))
  have b1 := blk_cell' hbk 1 rfl
  have b2 := blk_cell' hbk 2 rfl
  have b3 := blk_cell' hbk 3 rfl
  have hpr : w.heap.size ≠ pr := (Nat.ne_of_lt hr.lt).symm
  have HI := Lib.hid hi
  have HW := Lib.hid hk
  have HPR := Lib.hid hpr
  clear hx hr hi hk hC hbk hb1 hd1 hpr
  go_enter Tryd.func24, Tryd.ntmps24
  go_wp2
  go_ret
  exact ⟨rfl, _, _, HX1.out.mono (Nat.le_succ _), HR1.out, HI.out, HK1.out⟩
set_option maxRecDepth 100000 in
set_option maxHeartbeats 4000000 in
theorem told_cut {w : World} {p bA bF N pr : Nat} {a : Int → Option Int} {f : Int → Option (List Int)} (hx : BX w p bA bF N a f) (hr : RM w pr a f) (hi : Inv a f) (hN : N < 1000000) (k n : Int) (hk : (Lit.int .i64 k).wf = true) (A : Option Addr) (c : Nat) (b : List Int) (hC : Kd.C (Kd.int .u8) w A b.length b) (hc : b.length ≤ c) (hl : b.length ≤ 20000) :
    Calls Tryd.prog 24 #[.pointer (some ⟨p, 0, none⟩), .pointer (some ⟨pr, 0, none⟩), .agg #[.int .i64 3, .int .i64 k, .int .i64 n, .slice A b.length c]] w fun e w' => e = .returned (.bool true) ∧ Told p bA bF N pr w w' := by
  have hb1 : Below w.heap.size w (w.alloc (boxC 3 k n A b.length c)) := (Below.refl w.heap.size w).alloc (Nat.le_refl _) _
  have hd1 : Below w.heap.size w (w.alloc (boxC 3 k n A b.length c)).drew := below_drew hb1
  have HX1 := Lib.hid (hx.below hb1)
  have HR1 := Lib.hid (hr.below hb1)
  have HX2 := Lib.hid (hx.below hd1)
  have HR2 := Lib.hid (hr.below hd1)
  have HK1 : Hid (Kept bA bF pr w (w.alloc (boxC 3 k n A b.length c))) := Kept.below hb1
  have HK2 : Hid (Kept bA bF pr w (w.alloc (boxC 3 k n A b.length c)).drew) := Kept.below hd1
  have HC1 := Lib.hid (Kd.C_below hC hb1)
  have HC2 := Lib.hid (Kd.C_below hC hd1)
  have hbk : (w.alloc (boxC 3 k n A b.length c)).drew.heap[w.heap.size]? = some (boxC 3 k n A b.length c) := blk_below (heap_alloc_new w _) (below_drew (Below.refl _ _))
  have b1 := blk_cell' hbk 1 rfl
  have b2 := blk_cell' hbk 2 rfl
  have b3 := blk_cell' hbk 3 rfl
  have hpr : w.heap.size ≠ pr := (Nat.ne_of_lt hr.lt).symm
  have HI := Lib.hid hi
  have HW := Lib.hid hk
  have HPR := Lib.hid hpr
  clear hx hr hi hk hC hbk hb1 hd1 hpr
  go_enter Tryd.func24, Tryd.ntmps24
  go_wp2_with fail
  refine (cut_callsT HX1.out k).mono ?_
  rintro e w2 ⟨rfl, hX, hT⟩
  have hk2 : Kept bA bF pr _ _ := Kept.turns HX1.out hT
  have HX3 := Lib.hid hX
  have HR3 := Lib.hid (HR1.out.cells (hT.cells HX1.out.two))
  have HK3 := Lib.hid (HK1.out.trans hk2)
  have b13 := HK3.out
  have b14 : w2.cell? ⟨w.heap.size, 1, none⟩ = some (.int .i64 k) := hk2.ce (q := ⟨w.heap.size, 1, none⟩) (by exact blk_cell' (heap_alloc_new w _) 1 rfl) HPR.out
  clear b13 hX hT hk2
  go_wp2_with fail
  refine (rcut_calls HR3.out HI.out k).mono ?_
  rintro e w3 ⟨rfl, hR, hG⟩
  have HX4 := Lib.hid (HX3.out.but HR3.out hG)
  have HK4 := Lib.hid (HK3.out.trans (Kept.grown HR3.out hG))
  have HR4 := Lib.hid hR
  clear hR hG
  go_wp2
  go_ret
  exact ⟨rfl, _, _, HX4.out.mono (Nat.le_succ _), HR4.out, HI.out.cut k, HK4.out⟩
set_option maxRecDepth 100000 in
set_option maxHeartbeats 4000000 in
theorem told_bytes {w : World} {p bA bF N pr : Nat} {a : Int → Option Int} {f : Int → Option (List Int)} (hx : BX w p bA bF N a f) (hr : RM w pr a f) (hi : Inv a f) (hN : N < 1000000) (k n : Int) (hk : (Lit.int .i64 k).wf = true) (A : Option Addr) (c : Nat) (b : List Int) (hC : Kd.C (Kd.int .u8) w A b.length b) (hc : b.length ≤ c) (hl : b.length ≤ 20000) :
    Calls Tryd.prog 24 #[.pointer (some ⟨p, 0, none⟩), .pointer (some ⟨pr, 0, none⟩), .agg #[.int .i64 2, .int .i64 k, .int .i64 n, .slice A b.length c]] w fun e w' => e = .returned (.bool true) ∧ Told p bA bF N pr w w' := by
  cases hf : f k with
  | none =>
    have hb1 : Below w.heap.size w (w.alloc (boxC 2 k n A b.length c)) := (Below.refl w.heap.size w).alloc (Nat.le_refl _) _
    have hd1 : Below w.heap.size w (w.alloc (boxC 2 k n A b.length c)).drew := below_drew hb1
    have HX1 := Lib.hid (hx.below hb1)
    have HR1 := Lib.hid (hr.below hb1)
    have HX2 := Lib.hid (hx.below hd1)
    have HR2 := Lib.hid (hr.below hd1)
    have HK1 : Hid (Kept bA bF pr w (w.alloc (boxC 2 k n A b.length c))) := Kept.below hb1
    have HK2 : Hid (Kept bA bF pr w (w.alloc (boxC 2 k n A b.length c)).drew) := Kept.below hd1
    have HC1 := Lib.hid (Kd.C_below hC hb1)
    have HC2 := Lib.hid (Kd.C_below hC hd1)
    have hbk : (w.alloc (boxC 2 k n A b.length c)).drew.heap[w.heap.size]? = some (boxC 2 k n A b.length c) := blk_below (heap_alloc_new w _) (below_drew (Below.refl _ _))
    have b1 := blk_cell' hbk 1 rfl
    have b2 := blk_cell' hbk 2 rfl
    have b3 := blk_cell' hbk 3 rfl
    have hpr : w.heap.size ≠ pr := (Nat.ne_of_lt hr.lt).symm
    have HI := Lib.hid hi
    have HW := Lib.hid hk
    have HPR := Lib.hid hpr
    clear hx hr hi hk hC hbk hb1 hd1 hpr
    go_enter Tryd.func24, Tryd.ntmps24
    go_wp2_with fail
    refine (bytes_none HX1.out.bm k HW.out hf).mono ?_
    rintro e w2 ⟨rfl, rfl⟩
    go_wp2_with fail
    refine (rbytes_none HR1.out k hf).mono ?_
    rintro e w2 ⟨rfl, rfl⟩
    go_wp2_with fail
    refine (moraineref00_SameBytes.calls 1 none 0 [] none 0 [] true _ (Kd.C_nil _ _) (Nat.le_refl _) (Kd.C_nil _ _) (Nat.le_refl _) (by kernel_rfl)).mono ?_
    rintro e w3 ⟨rfl, ⟨nd, rfl⟩⟩
    have hb := pw_below_drewN (Below.refl (w.alloc (boxC 2 k n A b.length c)).heap.size (w.alloc (boxC 2 k n A b.length c))) nd
    have HX4 := Lib.hid (HX1.out.below hb)
    have HR4 := Lib.hid (HR1.out.below hb)
    have HK4 := Lib.hid (HK1.out.trans (Kept.below hb))
    clear hb
    go_wp2
    go_ret
    exact ⟨rfl, _, _, HX4.out.mono (Nat.le_succ _), HR4.out, HI.out, HK4.out⟩
  | some r =>
    have hb1 : Below w.heap.size w (w.alloc (boxC 2 k n A b.length c)) := (Below.refl w.heap.size w).alloc (Nat.le_refl _) _
    have hd1 : Below w.heap.size w (w.alloc (boxC 2 k n A b.length c)).drew := below_drew hb1
    have HX1 := Lib.hid (hx.below hb1)
    have HR1 := Lib.hid (hr.below hb1)
    have HX2 := Lib.hid (hx.below hd1)
    have HR2 := Lib.hid (hr.below hd1)
    have HK1 : Hid (Kept bA bF pr w (w.alloc (boxC 2 k n A b.length c))) := Kept.below hb1
    have HK2 : Hid (Kept bA bF pr w (w.alloc (boxC 2 k n A b.length c)).drew) := Kept.below hd1
    have HC1 := Lib.hid (Kd.C_below hC hb1)
    have HC2 := Lib.hid (Kd.C_below hC hd1)
    have hbk : (w.alloc (boxC 2 k n A b.length c)).drew.heap[w.heap.size]? = some (boxC 2 k n A b.length c) := blk_below (heap_alloc_new w _) (below_drew (Below.refl _ _))
    have b1 := blk_cell' hbk 1 rfl
    have b2 := blk_cell' hbk 2 rfl
    have b3 := blk_cell' hbk 3 rfl
    have hpr : w.heap.size ≠ pr := (Nat.ne_of_lt hr.lt).symm
    have HI := Lib.hid hi
    have HW := Lib.hid hk
    have HPR := Lib.hid hpr
    clear hx hr hi hk hC hbk hb1 hd1 hpr
    go_enter Tryd.func24, Tryd.ntmps24
    have hbd := HI.out.bdF k (by rw [hf]; simp)
    have HBD := Lib.hid hbd
    have b11 : (w.alloc (boxC 2 k n A b.length c)).cell? ⟨w.heap.size, 1, none⟩ = some (.int .i64 k) := blk_cell' (heap_alloc_new w _) 1 rfl
    have hl56 : r.length = 56 := by
      obtain ⟨DA, DF, mF, hB⟩ := HX1.out
      obtain ⟨u, _, A, c, _, _, h3, _⟩ := (hB.el k).2 r hf
      exact h3
    have H56 := Lib.hid hl56
    have HF := Lib.hid hf
    clear hbd hl56 hf
    go_wp2_with fail
    refine (bytes_some HX1.out.bm k HW.out r HF.out).mono ?_
    rintro e w2 ⟨v2, rfl, hR2, hB2⟩
    obtain ⟨A2, c2, rfl⟩ := Kd.R_slice hR2
    have HX3 := Lib.hid (HX1.out.below hB2)
    have HR3 := Lib.hid (HR1.out.below hB2)
    have HK3 := Lib.hid (HK1.out.trans (Kept.below hB2))
    have b13 : w2.cell? ⟨w.heap.size, 1, none⟩ = some (.int .i64 k) := pw_cell_below hB2 b11
    have HS2 := Lib.hid (Kd.R_reads' hR2)
    clear hR2 hB2
    go_wp2_with fail
    refine (rbytes_some HR3.out k HBD.out.1 HBD.out.2 r HF.out).mono ?_
    rintro e w3 ⟨v3, rfl, hR2, hB2⟩
    obtain ⟨A3, c3, rfl⟩ := Kd.R_slice hR2
    have HX4 := Lib.hid (HX3.out.below hB2)
    have HR4 := Lib.hid (HR3.out.below hB2)
    have HK4 := Lib.hid (HK3.out.trans (Kept.below hB2))
    have HS3 := Lib.hid (Kd.R_reads' hR2)
    have HC3 := Lib.hid (Kd.C_below HS2.out.2.2 hB2)
    clear hR2 hB2
    go_wp2_with fail
    refine (moraineref00_SameBytes.calls 57 A2 c2 r A3 c3 r true w3 HC3.out HS2.out.2.1 HS3.out.2.2 HS3.out.2.1 (by rw [same_eq r r (by rw [H56.out]; decide) 57 (by rw [H56.out]; decide)]; simp)).mono ?_
    rintro e w5 ⟨rfl, ⟨nd, rfl⟩⟩
    have hb := pw_below_drewN (Below.refl w3.heap.size w3) nd
    have HX5 := Lib.hid (HX4.out.below hb)
    have HR5 := Lib.hid (HR4.out.below hb)
    have HK5 := Lib.hid (HK4.out.trans (Kept.below hb))
    clear hb
    go_wp2
    go_ret
    exact ⟨rfl, _, _, HX5.out.mono (Nat.le_succ _), HR5.out, HI.out, HK5.out⟩
set_option maxRecDepth 100000 in
set_option maxHeartbeats 4000000 in
theorem told_place_none {w : World} {p bA bF N pr : Nat} {a : Int → Option Int} {f : Int → Option (List Int)} (hx : BX w p bA bF N a f) (hr : RM w pr a f) (hi : Inv a f) (hN : N < 1000000) (k n : Int) (hk : (Lit.int .i64 k).wf = true) (A : Option Addr) (c : Nat) (b : List Int) (hC : Kd.C (Kd.int .u8) w A b.length b) (hc : b.length ≤ c) (hl : b.length ≤ 20000) (hf : f k = none) :
    Calls Tryd.prog 24 #[.pointer (some ⟨p, 0, none⟩), .pointer (some ⟨pr, 0, none⟩), .agg #[.int .i64 4, .int .i64 k, .int .i64 n, .slice A b.length c]] w fun e w' => e = .returned (.bool true) ∧ Told p bA bF N pr w w' := by
  have HF := Lib.hid hf
  clear hf
  have hb1 : Below w.heap.size w (w.alloc (boxC 4 k n A b.length c)) := (Below.refl w.heap.size w).alloc (Nat.le_refl _) _
  have hd1 : Below w.heap.size w (w.alloc (boxC 4 k n A b.length c)).drew := below_drew hb1
  have HX1 := Lib.hid (hx.below hb1)
  have HR1 := Lib.hid (hr.below hb1)
  have HX2 := Lib.hid (hx.below hd1)
  have HR2 := Lib.hid (hr.below hd1)
  have HK1 : Hid (Kept bA bF pr w (w.alloc (boxC 4 k n A b.length c))) := Kept.below hb1
  have HK2 : Hid (Kept bA bF pr w (w.alloc (boxC 4 k n A b.length c)).drew) := Kept.below hd1
  have HC1 := Lib.hid (Kd.C_below hC hb1)
  have HC2 := Lib.hid (Kd.C_below hC hd1)
  have hbk : (w.alloc (boxC 4 k n A b.length c)).drew.heap[w.heap.size]? = some (boxC 4 k n A b.length c) := blk_below (heap_alloc_new w _) (below_drew (Below.refl _ _))
  have b1 := blk_cell' hbk 1 rfl
  have b2 := blk_cell' hbk 2 rfl
  have b3 := blk_cell' hbk 3 rfl
  have hpr : w.heap.size ≠ pr := (Nat.ne_of_lt hr.lt).symm
  have HI := Lib.hid hi
  have HW := Lib.hid hk
  have HPR := Lib.hid hpr
  clear hx hr hi hk hC hbk hb1 hd1 hpr
  go_enter Tryd.func24, Tryd.ntmps24
  go_wp2_with fail
  go_region_held3 (fun w' => w'.cell? ⟨w.heap.size, 1, none⟩ = some (.int .i64 k) ∧ w'.cell? ⟨w.heap.size, 2, none⟩ = some (.int .i64 n)) ((repeat' apply And.intro) <;> first | assumption | go_keep)
    (first | (go_at_call 13; refine (place_no HX2.out.bm k n HW.out HF.out).mono ?_; rintro e w7 ⟨rfl, rfl⟩) | (go_at_call 40; refine (rplace_no HR2.out HI.out k n (.inl HF.out)).mono ?_; rintro e w8 ⟨rfl, hb8⟩; have HX8 := Lib.hid (HX2.out.below hb8); have HR8 := Lib.hid (HR2.out.below hb8); have HK8 := Lib.hid (HK2.out.trans (Kept.below hb8)); have c81 := pw_cell_below hb8 b1; have c82 := pw_cell_below hb8 b2; clear hb8))
  all_goals
    go_wp2
    go_ret
    exact ⟨rfl, _, _, HX8.out.mono (Nat.le_succ _), HR8.out, HI.out, HK8.out⟩
set_option maxRecDepth 100000 in
set_option maxHeartbeats 4000000 in
theorem told_place_bad {w : World} {p bA bF N pr : Nat} {a : Int → Option Int} {f : Int → Option (List Int)} (hx : BX w p bA bF N a f) (hr : RM w pr a f) (hi : Inv a f) (hN : N < 1000000) (k n : Int) (hk : (Lit.int .i64 k).wf = true) (A : Option Addr) (c : Nat) (b : List Int) (hC : Kd.C (Kd.int .u8) w A b.length b) (hc : b.length ≤ c) (hl : b.length ≤ 20000) (r : List Int) (hf : f k = some r) (hn : n < 1 ∨ 65535 < n) :
    Calls Tryd.prog 24 #[.pointer (some ⟨p, 0, none⟩), .pointer (some ⟨pr, 0, none⟩), .agg #[.int .i64 4, .int .i64 k, .int .i64 n, .slice A b.length c]] w fun e w' => e = .returned (.bool true) ∧ Told p bA bF N pr w w' := by
  have HF := Lib.hid hf
  have HN := Lib.hid hn
  clear hf hn
  have hb1 : Below w.heap.size w (w.alloc (boxC 4 k n A b.length c)) := (Below.refl w.heap.size w).alloc (Nat.le_refl _) _
  have hd1 : Below w.heap.size w (w.alloc (boxC 4 k n A b.length c)).drew := below_drew hb1
  have HX1 := Lib.hid (hx.below hb1)
  have HR1 := Lib.hid (hr.below hb1)
  have HX2 := Lib.hid (hx.below hd1)
  have HR2 := Lib.hid (hr.below hd1)
  have HK1 : Hid (Kept bA bF pr w (w.alloc (boxC 4 k n A b.length c))) := Kept.below hb1
  have HK2 : Hid (Kept bA bF pr w (w.alloc (boxC 4 k n A b.length c)).drew) := Kept.below hd1
  have HC1 := Lib.hid (Kd.C_below hC hb1)
  have HC2 := Lib.hid (Kd.C_below hC hd1)
  have hbk : (w.alloc (boxC 4 k n A b.length c)).drew.heap[w.heap.size]? = some (boxC 4 k n A b.length c) := blk_below (heap_alloc_new w _) (below_drew (Below.refl _ _))
  have b1 := blk_cell' hbk 1 rfl
  have b2 := blk_cell' hbk 2 rfl
  have b3 := blk_cell' hbk 3 rfl
  have hpr : w.heap.size ≠ pr := (Nat.ne_of_lt hr.lt).symm
  have HI := Lib.hid hi
  have HW := Lib.hid hk
  have HPR := Lib.hid hpr
  clear hx hr hi hk hC hbk hb1 hd1 hpr
  go_enter Tryd.func24, Tryd.ntmps24
  go_wp2_with fail
  go_region_held3 (fun w' => w'.cell? ⟨w.heap.size, 1, none⟩ = some (.int .i64 k) ∧ w'.cell? ⟨w.heap.size, 2, none⟩ = some (.int .i64 n)) ((repeat' apply And.intro) <;> first | assumption | go_keep)
    (first | (go_at_call 13; refine (place_bad HX2.out.bm k n HW.out r HF.out HN.out).mono ?_; rintro e w7 ⟨rfl, rfl⟩) | (go_at_call 40; refine (rplace_no HR2.out HI.out k n (.inr HN.out)).mono ?_; rintro e w8 ⟨rfl, hb8⟩; have HX8 := Lib.hid (HX2.out.below hb8); have HR8 := Lib.hid (HR2.out.below hb8); have HK8 := Lib.hid (HK2.out.trans (Kept.below hb8)); have c81 := pw_cell_below hb8 b1; have c82 := pw_cell_below hb8 b2; clear hb8))
  all_goals
    go_wp2
    go_ret
    exact ⟨rfl, _, _, HX8.out.mono (Nat.le_succ _), HR8.out, HI.out, HK8.out⟩
set_option maxRecDepth 100000 in
set_option maxHeartbeats 4000000 in
theorem told_place_yes {w : World} {p bA bF N pr : Nat} {a : Int → Option Int} {f : Int → Option (List Int)} (hx : BX w p bA bF N a f) (hr : RM w pr a f) (hi : Inv a f) (hN : N < 1000000) (k n : Int) (hk : (Lit.int .i64 k).wf = true) (A : Option Addr) (c : Nat) (b : List Int) (hC : Kd.C (Kd.int .u8) w A b.length b) (hc : b.length ≤ c) (hl : b.length ≤ 20000) (r : List Int) (hf : f k = some r) (hn1 : 1 ≤ n) (hn2 : n ≤ 65535) :
    Calls Tryd.prog 24 #[.pointer (some ⟨p, 0, none⟩), .pointer (some ⟨pr, 0, none⟩), .agg #[.int .i64 4, .int .i64 k, .int .i64 n, .slice A b.length c]] w fun e w' => e = .returned (.bool true) ∧ Told p bA bF N pr w w' := by
  have HF := Lib.hid hf
  have HN1 := Lib.hid hn1
  have HN2 := Lib.hid hn2
  have HBD := Lib.hid (hi.bdF k (by rw [hf]; simp))
  clear hf hn1 hn2
  have hb1 : Below w.heap.size w (w.alloc (boxC 4 k n A b.length c)) := (Below.refl w.heap.size w).alloc (Nat.le_refl _) _
  have hd1 : Below w.heap.size w (w.alloc (boxC 4 k n A b.length c)).drew := below_drew hb1
  have HX1 := Lib.hid (hx.below hb1)
  have HR1 := Lib.hid (hr.below hb1)
  have HX2 := Lib.hid (hx.below hd1)
  have HR2 := Lib.hid (hr.below hd1)
  have HK1 : Hid (Kept bA bF pr w (w.alloc (boxC 4 k n A b.length c))) := Kept.below hb1
  have HK2 : Hid (Kept bA bF pr w (w.alloc (boxC 4 k n A b.length c)).drew) := Kept.below hd1
  have HC1 := Lib.hid (Kd.C_below hC hb1)
  have HC2 := Lib.hid (Kd.C_below hC hd1)
  have hbk : (w.alloc (boxC 4 k n A b.length c)).drew.heap[w.heap.size]? = some (boxC 4 k n A b.length c) := blk_below (heap_alloc_new w _) (below_drew (Below.refl _ _))
  have b1 := blk_cell' hbk 1 rfl
  have b2 := blk_cell' hbk 2 rfl
  have b3 := blk_cell' hbk 3 rfl
  have hpr : w.heap.size ≠ pr := (Nat.ne_of_lt hr.lt).symm
  have HI := Lib.hid hi
  have HW := Lib.hid hk
  have HPR := Lib.hid hpr
  clear hx hr hi hk hC hbk hb1 hd1 hpr
  go_enter Tryd.func24, Tryd.ntmps24
  go_wp2_with fail
  go_region_held3 (fun w' => w'.cell? ⟨w.heap.size, 1, none⟩ = some (.int .i64 k) ∧ w'.cell? ⟨w.heap.size, 2, none⟩ = some (.int .i64 n)) ((repeat' apply And.intro) <;> first | assumption | go_keep)
    (first | (go_at_call 13; refine (place_yesT HX2.out hN k n HW.out r HF.out HN1.out HN2.out).mono ?_; rintro e w7 ⟨rfl, hX, hT⟩; have hk7 : Kept bA bF pr _ _ := Kept.turns HX2.out hT; have HX7 := Lib.hid hX; have HR7 := Lib.hid (HR2.out.cells (hT.cells HX2.out.two)); have HK7 := Lib.hid (HK2.out.trans hk7); have c71 := hk7.ce (q := ⟨w.heap.size, 1, none⟩) b1 HPR.out; have c72 := hk7.ce (q := ⟨w.heap.size, 2, none⟩) b2 HPR.out; clear hX hT hk7) | (go_at_call 40; refine (rplace_yes HR7.out k n HBD.out.1 HBD.out.2 r HF.out HN1.out HN2.out).mono ?_; rintro e w8 ⟨rfl, hR, hG⟩; have hk8 : Kept bA bF pr _ _ := Kept.grown HR7.out hG; have HX8 := Lib.hid (HX7.out.but HR7.out hG); have HR8 := Lib.hid hR; have HK8 := Lib.hid (HK7.out.trans hk8); have c81 := hk8.ce (q := ⟨w.heap.size, 1, none⟩) c71 HPR.out; have c82 := hk8.ce (q := ⟨w.heap.size, 2, none⟩) c72 HPR.out; clear hR hG hk8))
  all_goals
    go_wp2
    go_ret
    exact ⟨rfl, _, _, HX8.out, HR8.out, HI.out.place HBD.out.1 HBD.out.2 HN1.out HN2.out, HK8.out⟩
set_option maxRecDepth 100000 in
set_option maxHeartbeats 4000000 in
theorem told_move_no {w : World} {p bA bF N pr : Nat} {a : Int → Option Int} {f : Int → Option (List Int)} (hx : BX w p bA bF N a f) (hr : RM w pr a f) (hi : Inv a f) (hN : N < 1000000) (k n : Int) (hk : (Lit.int .i64 k).wf = true) (A : Option Addr) (c : Nat) (b : List Int) (hC : Kd.C (Kd.int .u8) w A b.length b) (hc : b.length ≤ c) (hl : b.length ≤ 20000) (hn : n < 1 ∨ 65535 < n) :
    Calls Tryd.prog 24 #[.pointer (some ⟨p, 0, none⟩), .pointer (some ⟨pr, 0, none⟩), .agg #[.int .i64 5, .int .i64 k, .int .i64 n, .slice A b.length c]] w fun e w' => e = .returned (.bool true) ∧ Told p bA bF N pr w w' := by
  have HN := Lib.hid hn
  clear hn
  have hb1 : Below w.heap.size w (w.alloc (boxC 5 k n A b.length c)) := (Below.refl w.heap.size w).alloc (Nat.le_refl _) _
  have hd1 : Below w.heap.size w (w.alloc (boxC 5 k n A b.length c)).drew := below_drew hb1
  have HX1 := Lib.hid (hx.below hb1)
  have HR1 := Lib.hid (hr.below hb1)
  have HX2 := Lib.hid (hx.below hd1)
  have HR2 := Lib.hid (hr.below hd1)
  have HK1 : Hid (Kept bA bF pr w (w.alloc (boxC 5 k n A b.length c))) := Kept.below hb1
  have HK2 : Hid (Kept bA bF pr w (w.alloc (boxC 5 k n A b.length c)).drew) := Kept.below hd1
  have HC1 := Lib.hid (Kd.C_below hC hb1)
  have HC2 := Lib.hid (Kd.C_below hC hd1)
  have hbk : (w.alloc (boxC 5 k n A b.length c)).drew.heap[w.heap.size]? = some (boxC 5 k n A b.length c) := blk_below (heap_alloc_new w _) (below_drew (Below.refl _ _))
  have b1 := blk_cell' hbk 1 rfl
  have b2 := blk_cell' hbk 2 rfl
  have b3 := blk_cell' hbk 3 rfl
  have hpr : w.heap.size ≠ pr := (Nat.ne_of_lt hr.lt).symm
  have HI := Lib.hid hi
  have HW := Lib.hid hk
  have HPR := Lib.hid hpr
  clear hx hr hi hk hC hbk hb1 hd1 hpr
  go_enter Tryd.func24, Tryd.ntmps24
  go_wp2_with fail
  go_region_held3 (fun w' => w'.cell? ⟨w.heap.size, 1, none⟩ = some (.int .i64 k) ∧ w'.cell? ⟨w.heap.size, 2, none⟩ = some (.int .i64 n)) ((repeat' apply And.intro) <;> first | assumption | go_keep)
    (first | (go_at_call 16; refine (move_no HX2.out.bm k n HN.out).mono ?_; rintro e w7 ⟨rfl, hT⟩; have hk7 : Kept bA bF pr _ _ := Kept.no hT; have hb7 := hT.from_ (Nat.le_refl _) (fun _ h => h.elim); have HX7 := Lib.hid (HX2.out.below hb7); have HR7 := Lib.hid (HR2.out.below hb7); have HK7 := Lib.hid (HK2.out.trans hk7); have c71 := hk7.ce (q := ⟨w.heap.size, 1, none⟩) b1 HPR.out; have c72 := hk7.ce (q := ⟨w.heap.size, 2, none⟩) b2 HPR.out; clear hT hk7 hb7) | (go_at_call 41; refine (rmove_no HR7.out k n (.inr HN.out)).mono ?_; rintro e w8 ⟨rfl, rfl⟩))
  all_goals
    go_wp2
    go_ret
    exact ⟨rfl, _, _, HX7.out.mono (Nat.le_succ _), HR7.out, HI.out, HK7.out⟩
set_option maxRecDepth 100000 in
set_option maxHeartbeats 4000000 in
theorem told_move_low {w : World} {p bA bF N pr : Nat} {a : Int → Option Int} {f : Int → Option (List Int)} (hx : BX w p bA bF N a f) (hr : RM w pr a f) (hi : Inv a f) (hN : N < 1000000) (k n : Int) (hk : (Lit.int .i64 k).wf = true) (A : Option Addr) (c : Nat) (b : List Int) (hC : Kd.C (Kd.int .u8) w A b.length b) (hc : b.length ≤ c) (hl : b.length ≤ 20000) (hk1 : k < 1) (hn1 : 1 ≤ n) (hn2 : n ≤ 65535) :
    Calls Tryd.prog 24 #[.pointer (some ⟨p, 0, none⟩), .pointer (some ⟨pr, 0, none⟩), .agg #[.int .i64 5, .int .i64 k, .int .i64 n, .slice A b.length c]] w fun e w' => e = .returned (.bool true) ∧ Told p bA bF N pr w w' := by
  have HK0 := Lib.hid hk1
  have HN1 := Lib.hid hn1
  have HN2 := Lib.hid hn2
  have HMV : Hid (movF k n a = a) := by
    show _ = _
    funext j
    unfold movF
    rw [if_neg (fun e => by have := (hi.pos j k e).1; omega)]
  have HNO : Hid (∀ j, a j ≠ some k) := fun j e => by have := (hi.pos j k e).1; omega
  clear hk1 hn1 hn2
  have hb1 : Below w.heap.size w (w.alloc (boxC 5 k n A b.length c)) := (Below.refl w.heap.size w).alloc (Nat.le_refl _) _
  have hd1 : Below w.heap.size w (w.alloc (boxC 5 k n A b.length c)).drew := below_drew hb1
  have HX1 := Lib.hid (hx.below hb1)
  have HR1 := Lib.hid (hr.below hb1)
  have HX2 := Lib.hid (hx.below hd1)
  have HR2 := Lib.hid (hr.below hd1)
  have HK1 : Hid (Kept bA bF pr w (w.alloc (boxC 5 k n A b.length c))) := Kept.below hb1
  have HK2 : Hid (Kept bA bF pr w (w.alloc (boxC 5 k n A b.length c)).drew) := Kept.below hd1
  have HC1 := Lib.hid (Kd.C_below hC hb1)
  have HC2 := Lib.hid (Kd.C_below hC hd1)
  have hbk : (w.alloc (boxC 5 k n A b.length c)).drew.heap[w.heap.size]? = some (boxC 5 k n A b.length c) := blk_below (heap_alloc_new w _) (below_drew (Below.refl _ _))
  have b1 := blk_cell' hbk 1 rfl
  have b2 := blk_cell' hbk 2 rfl
  have b3 := blk_cell' hbk 3 rfl
  have hpr : w.heap.size ≠ pr := (Nat.ne_of_lt hr.lt).symm
  have HI := Lib.hid hi
  have HW := Lib.hid hk
  have HPR := Lib.hid hpr
  clear hx hr hi hk hC hbk hb1 hd1 hpr
  go_enter Tryd.func24, Tryd.ntmps24
  go_wp2_with fail
  go_region_held3 (fun w' => w'.cell? ⟨w.heap.size, 1, none⟩ = some (.int .i64 k) ∧ w'.cell? ⟨w.heap.size, 2, none⟩ = some (.int .i64 n)) ((repeat' apply And.intro) <;> first | assumption | go_keep)
    (first | (go_at_call 16; refine (move_yesT HX2.out hN k n HN1.out HN2.out).mono ?_; rintro e w7 ⟨ss, rfl, hnd, hsl, hmem, hX, hT⟩; have hk7 : Kept bA bF pr _ _ := Kept.turns HX2.out hT; have HX7 := Lib.hid hX; have HR7 := Lib.hid (HR2.out.cells (hT.cells HX2.out.two)); have HK7 := Lib.hid (HK2.out.trans hk7); have c71 := hk7.ce (q := ⟨w.heap.size, 1, none⟩) b1 HPR.out; have c72 := hk7.ce (q := ⟨w.heap.size, 2, none⟩) b2 HPR.out; have HSS : Hid (ss.Nodup ∧ ∀ j, j ∈ ss ↔ a j = some k) := ⟨hnd, hmem⟩; clear hX hT hk7 hnd hsl hmem; have hs0 : ss = [] := List.eq_nil_iff_forall_not_mem.2 (fun j hj => HNO.out j ((HSS.out.2 j).1 hj)); subst hs0; rw [HMV.out] at HX7) | (go_at_call 41; refine (rmove_no HR7.out k n (.inl HK0.out)).mono ?_; rintro e w8 ⟨rfl, rfl⟩))
  all_goals
    go_wp2
    go_ret
    exact ⟨rfl, _, _, HX7.out.mono (Nat.le_succ _), HR7.out, HI.out, HK7.out⟩
set_option maxRecDepth 100000 in
set_option maxHeartbeats 4000000 in
theorem told_move_yes {w : World} {p bA bF N pr : Nat} {a : Int → Option Int} {f : Int → Option (List Int)} (hx : BX w p bA bF N a f) (hr : RM w pr a f) (hi : Inv a f) (hN : N < 1000000) (k n : Int) (hk : (Lit.int .i64 k).wf = true) (A : Option Addr) (c : Nat) (b : List Int) (hC : Kd.C (Kd.int .u8) w A b.length b) (hc : b.length ≤ c) (hl : b.length ≤ 20000) (hk1 : 1 ≤ k) (hn1 : 1 ≤ n) (hn2 : n ≤ 65535) :
    Calls Tryd.prog 24 #[.pointer (some ⟨p, 0, none⟩), .pointer (some ⟨pr, 0, none⟩), .agg #[.int .i64 5, .int .i64 k, .int .i64 n, .slice A b.length c]] w fun e w' => e = .returned (.bool true) ∧ Told p bA bF N pr w w' := by
  have HK0 := Lib.hid hk1
  have HN1 := Lib.hid hn1
  have HN2 := Lib.hid hn2
  clear hk1 hn1 hn2
  have hb1 : Below w.heap.size w (w.alloc (boxC 5 k n A b.length c)) := (Below.refl w.heap.size w).alloc (Nat.le_refl _) _
  have hd1 : Below w.heap.size w (w.alloc (boxC 5 k n A b.length c)).drew := below_drew hb1
  have HX1 := Lib.hid (hx.below hb1)
  have HR1 := Lib.hid (hr.below hb1)
  have HX2 := Lib.hid (hx.below hd1)
  have HR2 := Lib.hid (hr.below hd1)
  have HK1 : Hid (Kept bA bF pr w (w.alloc (boxC 5 k n A b.length c))) := Kept.below hb1
  have HK2 : Hid (Kept bA bF pr w (w.alloc (boxC 5 k n A b.length c)).drew) := Kept.below hd1
  have HC1 := Lib.hid (Kd.C_below hC hb1)
  have HC2 := Lib.hid (Kd.C_below hC hd1)
  have hbk : (w.alloc (boxC 5 k n A b.length c)).drew.heap[w.heap.size]? = some (boxC 5 k n A b.length c) := blk_below (heap_alloc_new w _) (below_drew (Below.refl _ _))
  have b1 := blk_cell' hbk 1 rfl
  have b2 := blk_cell' hbk 2 rfl
  have b3 := blk_cell' hbk 3 rfl
  have hpr : w.heap.size ≠ pr := (Nat.ne_of_lt hr.lt).symm
  have HI := Lib.hid hi
  have HW := Lib.hid hk
  have HPR := Lib.hid hpr
  clear hx hr hi hk hC hbk hb1 hd1 hpr
  go_enter Tryd.func24, Tryd.ntmps24
  go_wp2_with fail
  go_region_held3 (fun w' => w'.cell? ⟨w.heap.size, 1, none⟩ = some (.int .i64 k) ∧ w'.cell? ⟨w.heap.size, 2, none⟩ = some (.int .i64 n)) ((repeat' apply And.intro) <;> first | assumption | go_keep)
    (first | (go_at_call 16; refine (move_yesT HX2.out hN k n HN1.out HN2.out).mono ?_; rintro e w7 ⟨ss, rfl, hnd, hsl, hmem, hX, hT⟩; have hk7 : Kept bA bF pr _ _ := Kept.turns HX2.out hT; have HX7 := Lib.hid hX; have HR7 := Lib.hid (HR2.out.cells (hT.cells HX2.out.two)); have HK7 := Lib.hid (HK2.out.trans hk7); have c71 := hk7.ce (q := ⟨w.heap.size, 1, none⟩) b1 HPR.out; have c72 := hk7.ce (q := ⟨w.heap.size, 2, none⟩) b2 HPR.out; have HSS : Hid (ss.Nodup ∧ ∀ j, j ∈ ss ↔ a j = some k) := ⟨hnd, hmem⟩; clear hX hT hk7 hnd hsl hmem) | (go_at_call 41; refine (rmove_yes HR7.out HI.out k n HK0.out HN1.out HN2.out).mono ?_; rintro e w8 ⟨tt, rfl, hnd, hmem, hR, hG⟩; have hk8 : Kept bA bF pr _ _ := Kept.grown HR7.out hG; have HX8 := Lib.hid (HX7.out.but HR7.out hG); have HR8 := Lib.hid hR; have HK8 := Lib.hid (HK7.out.trans hk8); have c81 := hk8.ce (q := ⟨w.heap.size, 1, none⟩) c71 HPR.out; have c82 := hk8.ce (q := ⟨w.heap.size, 2, none⟩) c72 HPR.out; rw [nd_len15 hnd HSS.out.1 (fun x => (hmem x).trans (HSS.out.2 x).symm)]; clear hR hG hk8 hnd hmem))
  all_goals
    go_wp2
    go_ret
    exact ⟨rfl, _, _, HX8.out.mono (Nat.le_succ _), HR8.out, HI.out.move HN1.out HN2.out, HK8.out⟩
end Go.Proofs.YtlkhlmckgpjopaaDoor.Given

/- told: Put on both maps; by hand. -/
namespace Go.Proofs.YtlkhlmckgpjopaaDoor.Given
open Go.RowKit Go.Maps Go.Sort Go.Shelf Go.Proofs.YtlkhlmckgpjopaaDoorW.PrintWords Go.Proofs.YtlkhlmckgpjopaaDoorW.PrintLast Go.Proofs.YtlkhlmckgpjopaaDoorW.PrintMore Go.Proofs.YtlkhlmckgpjopaaDoor.Base
set_option linter.unusedVariables false
set_option linter.unusedSimpArgs false
theorem copyB_eq (b : List Int) (h : b.length ≤ 1000000) : moraineref00_CopyBytes.f b = some b := by
  unfold moraineref00_CopyBytes.f
  simp
  omega
set_option maxRecDepth 100000 in
set_option maxHeartbeats 4000000 in
theorem told_put_bad {w : World} {p bA bF N pr : Nat} {a : Int → Option Int} {f : Int → Option (List Int)} (hx : BX w p bA bF N a f) (hr : RM w pr a f) (hi : Inv a f) (hN : N < 1000000) (k n : Int) (hk : (Lit.int .i64 k).wf = true) (A : Option Addr) (c : Nat) (b : List Int) (hC : Kd.C (Kd.int .u8) w A b.length b) (hc : b.length ≤ c) (hl : b.length ≤ 20000) (hbad : k < 0 ∨ 828 ≤ k ∨ b.length ≠ 56) :
    Calls Tryd.prog 24 #[.pointer (some ⟨p, 0, none⟩), .pointer (some ⟨pr, 0, none⟩), .agg #[.int .i64 0, .int .i64 k, .int .i64 n, .slice A b.length c]] w fun e w' => e = .returned (.bool true) ∧ Told p bA bF N pr w w' := by
  have HBAD := Lib.hid hbad
  clear hbad
  have hb1 : Below w.heap.size w (w.alloc (boxC 0 k n A b.length c)) := (Below.refl w.heap.size w).alloc (Nat.le_refl _) _
  have hd1 : Below w.heap.size w (w.alloc (boxC 0 k n A b.length c)).drew := below_drew hb1
  have HX1 := Lib.hid (hx.below hb1)
  have HR1 := Lib.hid (hr.below hb1)
  have HX2 := Lib.hid (hx.below hd1)
  have HR2 := Lib.hid (hr.below hd1)
  have HK1 : Hid (Kept bA bF pr w (w.alloc (boxC 0 k n A b.length c))) := Kept.below hb1
  have HK2 : Hid (Kept bA bF pr w (w.alloc (boxC 0 k n A b.length c)).drew) := Kept.below hd1
  have HC1 := Lib.hid (Kd.C_below hC hb1)
  have HC2 := Lib.hid (Kd.C_below hC hd1)
  have hbk : (w.alloc (boxC 0 k n A b.length c)).drew.heap[w.heap.size]? = some (boxC 0 k n A b.length c) := blk_below (heap_alloc_new w _) (below_drew (Below.refl _ _))
  have b1 := blk_cell' hbk 1 rfl
  have b2 := blk_cell' hbk 2 rfl
  have b3 := blk_cell' hbk 3 rfl
  have hpr : w.heap.size ≠ pr := (Nat.ne_of_lt hr.lt).symm
  have HI := Lib.hid hi
  have HW := Lib.hid hk
  have HPR := Lib.hid hpr
  clear hx hr hi hk hC hbk hb1 hd1 hpr
  go_enter Tryd.func24, Tryd.ntmps24
  have b10 : (w.alloc (boxC 0 k n A b.length c)).cell? ⟨w.heap.size, 3, none⟩ = some (.slice A b.length c) := blk_cell' (heap_alloc_new w _) 3 rfl
  have b11 : (w.alloc (boxC 0 k n A b.length c)).cell? ⟨w.heap.size, 1, none⟩ = some (.int .i64 k) := blk_cell' (heap_alloc_new w _) 1 rfl
  have HL := Lib.hid hl
  have HCC := Lib.hid hc
  have hcp := moraineref00_CopyBytes.calls A c b b (w.alloc (boxC 0 k n A b.length c)) HC1.out hc (copyB_eq b (by omega))
  skip
  have HCP := Lib.hid hcp
  clear hcp hl hc b1 b2 b3 HX2 HR2 HK2 HC2
  go_wp2_with fail
  refine HCP.out.mono ?_
  rintro e w2 ⟨v2, rfl, hR2, hB2⟩
  obtain ⟨A2, c2, rfl⟩ := Kd.R_slice hR2
  have hD2 : Below (w.alloc (boxC 0 k n A b.length c)).heap.size (w.alloc (boxC 0 k n A b.length c)) w2.drew := below_drew hB2
  have HX3 := Lib.hid (HX1.out.below hD2)
  have HR3 := Lib.hid (HR1.out.below hD2)
  have HK3 := Lib.hid (HK1.out.trans (Kept.below hD2))
  have HC3 := Lib.hid (Kd.C_below HC1.out hD2)
  have HS3 := Lib.hid (Kd.C_drew (Kd.R_reads' hR2).2.2)
  have HSC := Lib.hid (Kd.R_reads' hR2).2.1
  have b1 := pw_cell_below hD2 b11
  have b3 := pw_cell_below hD2 b10
  clear hR2 hB2 hD2 b10 b11 HX1 HR1 HK1 HC1 HCP
  skip
  go_wp2_with fail
  go_region_held3 (fun w' => w'.cell? ⟨w.heap.size, 1, none⟩ = some (.int .i64 k) ∧ w'.cell? ⟨w.heap.size, 3, none⟩ = some (.slice A b.length c)) ((repeat' apply And.intro) <;> first | assumption | go_keep)
    (first | (go_at_call 10; refine (put_bad2 p k A2 b.length c2 (by have := HL.out; omega) HBAD.out).mono ?_; rintro e w7 ⟨rfl, rfl⟩) | (go_at_call 36; refine (rput_bad pr k A b.length c (by have := HL.out; omega) HBAD.out).mono ?_; rintro e w8 ⟨rfl, rfl⟩) | (go_at_call 18; have hsb := moraineref00_SameBytes.calls (b.length + 1) A2 c2 b A c b true w2.drew HS3.out HSC.out HC3.out HCC.out (by rw [same_eq b b (by have := HL.out; omega) _ (Nat.lt_succ_self _)]; simp); skip; refine hsb.mono ?_; clear hsb; rintro e w9 ⟨rfl, hdr9⟩; have hb9 : Below w2.drew.heap.size w2.drew w9 := (by obtain ⟨nd, rfl⟩ := hdr9; exact pw_below_drewN (Below.refl w2.drew.heap.size w2.drew) nd); have HX9 := Lib.hid (HX3.out.below hb9); have HR9 := Lib.hid (HR3.out.below hb9); have HK9 := Lib.hid (HK3.out.trans (Kept.below hb9)); have c91 := pw_cell_below hb9 b1; have c93 := pw_cell_below hb9 b3; clear hb9 hdr9))
  all_goals
    go_wp2
    go_ret
    exact ⟨rfl, _, _, HX9.out.mono (Nat.le_succ _), HR9.out, HI.out, HK9.out⟩
set_option maxRecDepth 100000 in
set_option maxHeartbeats 4000000 in
theorem told_put_zero {w : World} {p bA bF N pr : Nat} {a : Int → Option Int} {f : Int → Option (List Int)} (hx : BX w p bA bF N a f) (hr : RM w pr a f) (hi : Inv a f) (hN : N < 1000000) (k n : Int) (hk : (Lit.int .i64 k).wf = true) (A : Option Addr) (c : Nat) (b : List Int) (hC : Kd.C (Kd.int .u8) w A b.length b) (hc : b.length ≤ c) (hl : b.length ≤ 20000) (hb56 : b.length = 56) (hz : tl b b.length = 0) (hk0 : 0 ≤ k) (hk1 : k < 828) :
    Calls Tryd.prog 24 #[.pointer (some ⟨p, 0, none⟩), .pointer (some ⟨pr, 0, none⟩), .agg #[.int .i64 0, .int .i64 k, .int .i64 n, .slice A 56 c]] w fun e w' => e = .returned (.bool true) ∧ Told p bA bF N pr w w' := by
  have H56 := Lib.hid hb56
  have HZ := Lib.hid hz
  have HK0 := Lib.hid hk0
  have HK1a := Lib.hid hk1
  have HNZ : Hid (bits_Nought.f b = some true) := by show _ = _; unfold bits_Nought.f; rw [decide_eq_true hz]
  clear hb56 hz hk0 hk1
  have hb1 : Below w.heap.size w (w.alloc (boxC 0 k n A 56 c)) := (Below.refl w.heap.size w).alloc (Nat.le_refl _) _
  have hd1 : Below w.heap.size w (w.alloc (boxC 0 k n A 56 c)).drew := below_drew hb1
  have HX1 := Lib.hid (hx.below hb1)
  have HR1 := Lib.hid (hr.below hb1)
  have HX2 := Lib.hid (hx.below hd1)
  have HR2 := Lib.hid (hr.below hd1)
  have HK1 : Hid (Kept bA bF pr w (w.alloc (boxC 0 k n A 56 c))) := Kept.below hb1
  have HK2 : Hid (Kept bA bF pr w (w.alloc (boxC 0 k n A 56 c)).drew) := Kept.below hd1
  have HC1 := Lib.hid (Kd.C_below hC hb1)
  have HC2 := Lib.hid (Kd.C_below hC hd1)
  have hbk : (w.alloc (boxC 0 k n A 56 c)).drew.heap[w.heap.size]? = some (boxC 0 k n A 56 c) := blk_below (heap_alloc_new w _) (below_drew (Below.refl _ _))
  have b1 := blk_cell' hbk 1 rfl
  have b2 := blk_cell' hbk 2 rfl
  have b3 := blk_cell' hbk 3 rfl
  have hpr : w.heap.size ≠ pr := (Nat.ne_of_lt hr.lt).symm
  have HI := Lib.hid hi
  have HW := Lib.hid hk
  have HPR := Lib.hid hpr
  clear hx hr hi hk hC hbk hb1 hd1 hpr
  go_enter Tryd.func24, Tryd.ntmps24
  have b10 : (w.alloc (boxC 0 k n A 56 c)).cell? ⟨w.heap.size, 3, none⟩ = some (.slice A 56 c) := blk_cell' (heap_alloc_new w _) 3 rfl
  have b11 : (w.alloc (boxC 0 k n A 56 c)).cell? ⟨w.heap.size, 1, none⟩ = some (.int .i64 k) := blk_cell' (heap_alloc_new w _) 1 rfl
  have HL := Lib.hid hl
  have HCC := Lib.hid hc
  have hcp := moraineref00_CopyBytes.calls A c b b (w.alloc (boxC 0 k n A 56 c)) HC1.out hc (copyB_eq b (by omega))
  rw [H56.out] at hcp
  have HCP := Lib.hid hcp
  clear hcp hl hc b1 b2 b3 HX2 HR2 HK2 HC2
  go_wp2_with fail
  refine HCP.out.mono ?_
  rintro e w2 ⟨v2, rfl, hR2, hB2⟩
  obtain ⟨A2, c2, rfl⟩ := Kd.R_slice hR2
  have hD2 : Below (w.alloc (boxC 0 k n A 56 c)).heap.size (w.alloc (boxC 0 k n A 56 c)) w2.drew := below_drew hB2
  have HX3 := Lib.hid (HX1.out.below hD2)
  have HR3 := Lib.hid (HR1.out.below hD2)
  have HK3 := Lib.hid (HK1.out.trans (Kept.below hD2))
  have HC3 := Lib.hid (Kd.C_below HC1.out hD2)
  have HS3 := Lib.hid (Kd.C_drew (Kd.R_reads' hR2).2.2)
  have HSC := Lib.hid (Kd.R_reads' hR2).2.1
  have b1 := pw_cell_below hD2 b11
  have b3 := pw_cell_below hD2 b10
  clear hR2 hB2 hD2 b10 b11 HX1 HR1 HK1 HC1 HCP
  rw [H56.out]
  go_wp2_with fail
  go_region_held3 (fun w' => w'.cell? ⟨w.heap.size, 1, none⟩ = some (.int .i64 k) ∧ w'.cell? ⟨w.heap.size, 3, none⟩ = some (.slice A 56 c)) ((repeat' apply And.intro) <;> first | assumption | go_keep)
    (first | (go_at_call 10; refine (put_zeroT HX3.out k HK0.out HK1a.out A2 c2 b H56.out (by have := HSC.out; rw [H56.out] at this; exact this) HS3.out HNZ.out).mono ?_; rintro e w7 ⟨rfl, hX, hT⟩; have hk7 : Kept bA bF pr _ _ := Kept.turns HX3.out hT; have HX7 := Lib.hid hX; have HR7 := Lib.hid (HR3.out.cells (hT.cells HX3.out.two)); have HK7 := Lib.hid (HK3.out.trans hk7); have c71 := hk7.ce (q := ⟨w.heap.size, 1, none⟩) b1 HPR.out; have c73 := hk7.ce (q := ⟨w.heap.size, 3, none⟩) b3 HPR.out; have HC7 := Lib.hid (hk7.c8 HC3.out); have HS7 := Lib.hid (hk7.c8 HS3.out); clear hX hT hk7) | (go_at_call 36; refine (rput_all HR7.out k HK0.out HK1a.out A c b H56.out (by have := HCC.out; rw [H56.out] at this; exact this) HC7.out).mono ?_; rintro e w8 ⟨rfl, hR, hG⟩; have hk8 : Kept bA bF pr _ _ := Kept.grown HR7.out hG; have HX8 := Lib.hid (HX7.out.but HR7.out hG); have HR8 := Lib.hid hR; have HK8 := Lib.hid (HK7.out.trans hk8); have c81 := hk8.ce (q := ⟨w.heap.size, 1, none⟩) c71 HPR.out; have c83 := hk8.ce (q := ⟨w.heap.size, 3, none⟩) c73 HPR.out; have HC8 := Lib.hid (hk8.c8 HC7.out); have HS8 := Lib.hid (hk8.c8 HS7.out); rw [if_pos HZ.out] at HR8; clear hR hG hk8) | (go_at_call 18; have hsb := moraineref00_SameBytes.calls (b.length + 1) A2 c2 b A c b true w8 HS8.out HSC.out HC8.out HCC.out (by rw [same_eq b b (by have := HL.out; omega) _ (Nat.lt_succ_self _)]; simp); rw [H56.out] at hsb; refine hsb.mono ?_; clear hsb; rintro e w9 ⟨rfl, hdr9⟩; have hb9 : Below w8.heap.size w8 w9 := (by obtain ⟨nd, rfl⟩ := hdr9; exact pw_below_drewN (Below.refl w8.heap.size w8) nd); have HX9 := Lib.hid (HX8.out.below hb9); have HR9 := Lib.hid (HR8.out.below hb9); have HK9 := Lib.hid (HK8.out.trans (Kept.below hb9)); have c91 := pw_cell_below hb9 c81; have c93 := pw_cell_below hb9 c83; clear hb9 hdr9))
  all_goals
    go_wp2
    go_ret
    exact ⟨rfl, _, _, HX9.out.mono (Nat.le_succ _), HR9.out, HI.out.put HK0.out HK1a.out _, HK9.out⟩
set_option maxRecDepth 100000 in
set_option maxHeartbeats 4000000 in
theorem told_put_some {w : World} {p bA bF N pr : Nat} {a : Int → Option Int} {f : Int → Option (List Int)} (hx : BX w p bA bF N a f) (hr : RM w pr a f) (hi : Inv a f) (hN : N < 1000000) (k n : Int) (hk : (Lit.int .i64 k).wf = true) (A : Option Addr) (c : Nat) (b : List Int) (hC : Kd.C (Kd.int .u8) w A b.length b) (hc : b.length ≤ c) (hl : b.length ≤ 20000) (hb56 : b.length = 56) (hz : ¬ tl b b.length = 0) (hk0 : 0 ≤ k) (hk1 : k < 828) :
    Calls Tryd.prog 24 #[.pointer (some ⟨p, 0, none⟩), .pointer (some ⟨pr, 0, none⟩), .agg #[.int .i64 0, .int .i64 k, .int .i64 n, .slice A 56 c]] w fun e w' => e = .returned (.bool true) ∧ Told p bA bF N pr w w' := by
  have H56 := Lib.hid hb56
  have HZ := Lib.hid hz
  have HK0 := Lib.hid hk0
  have HK1a := Lib.hid hk1
  have HNZ : Hid (bits_Nought.f b = some false) := by show _ = _; unfold bits_Nought.f; rw [decide_eq_false hz]
  clear hb56 hz hk0 hk1
  have hb1 : Below w.heap.size w (w.alloc (boxC 0 k n A 56 c)) := (Below.refl w.heap.size w).alloc (Nat.le_refl _) _
  have hd1 : Below w.heap.size w (w.alloc (boxC 0 k n A 56 c)).drew := below_drew hb1
  have HX1 := Lib.hid (hx.below hb1)
  have HR1 := Lib.hid (hr.below hb1)
  have HX2 := Lib.hid (hx.below hd1)
  have HR2 := Lib.hid (hr.below hd1)
  have HK1 : Hid (Kept bA bF pr w (w.alloc (boxC 0 k n A 56 c))) := Kept.below hb1
  have HK2 : Hid (Kept bA bF pr w (w.alloc (boxC 0 k n A 56 c)).drew) := Kept.below hd1
  have HC1 := Lib.hid (Kd.C_below hC hb1)
  have HC2 := Lib.hid (Kd.C_below hC hd1)
  have hbk : (w.alloc (boxC 0 k n A 56 c)).drew.heap[w.heap.size]? = some (boxC 0 k n A 56 c) := blk_below (heap_alloc_new w _) (below_drew (Below.refl _ _))
  have b1 := blk_cell' hbk 1 rfl
  have b2 := blk_cell' hbk 2 rfl
  have b3 := blk_cell' hbk 3 rfl
  have hpr : w.heap.size ≠ pr := (Nat.ne_of_lt hr.lt).symm
  have HI := Lib.hid hi
  have HW := Lib.hid hk
  have HPR := Lib.hid hpr
  clear hx hr hi hk hC hbk hb1 hd1 hpr
  go_enter Tryd.func24, Tryd.ntmps24
  have b10 : (w.alloc (boxC 0 k n A 56 c)).cell? ⟨w.heap.size, 3, none⟩ = some (.slice A 56 c) := blk_cell' (heap_alloc_new w _) 3 rfl
  have b11 : (w.alloc (boxC 0 k n A 56 c)).cell? ⟨w.heap.size, 1, none⟩ = some (.int .i64 k) := blk_cell' (heap_alloc_new w _) 1 rfl
  have HL := Lib.hid hl
  have HCC := Lib.hid hc
  have hcp := moraineref00_CopyBytes.calls A c b b (w.alloc (boxC 0 k n A 56 c)) HC1.out hc (copyB_eq b (by omega))
  rw [H56.out] at hcp
  have HCP := Lib.hid hcp
  clear hcp hl hc b1 b2 b3 HX2 HR2 HK2 HC2
  go_wp2_with fail
  refine HCP.out.mono ?_
  rintro e w2 ⟨v2, rfl, hR2, hB2⟩
  obtain ⟨A2, c2, rfl⟩ := Kd.R_slice hR2
  have hD2 : Below (w.alloc (boxC 0 k n A 56 c)).heap.size (w.alloc (boxC 0 k n A 56 c)) w2.drew := below_drew hB2
  have HX3 := Lib.hid (HX1.out.below hD2)
  have HR3 := Lib.hid (HR1.out.below hD2)
  have HK3 := Lib.hid (HK1.out.trans (Kept.below hD2))
  have HC3 := Lib.hid (Kd.C_below HC1.out hD2)
  have HS3 := Lib.hid (Kd.C_drew (Kd.R_reads' hR2).2.2)
  have HSC := Lib.hid (Kd.R_reads' hR2).2.1
  have b1 := pw_cell_below hD2 b11
  have b3 := pw_cell_below hD2 b10
  clear hR2 hB2 hD2 b10 b11 HX1 HR1 HK1 HC1 HCP
  rw [H56.out]
  go_wp2_with fail
  go_region_held3 (fun w' => w'.cell? ⟨w.heap.size, 1, none⟩ = some (.int .i64 k) ∧ w'.cell? ⟨w.heap.size, 3, none⟩ = some (.slice A 56 c)) ((repeat' apply And.intro) <;> first | assumption | go_keep)
    (first | (go_at_call 10; refine (put_someT HX3.out hN k HK0.out HK1a.out A2 c2 b H56.out (by have := HSC.out; rw [H56.out] at this; exact this) HS3.out HNZ.out).mono ?_; rintro e w7 ⟨rfl, hX, hT⟩; have hk7 : Kept bA bF pr _ _ := Kept.turns HX3.out hT; have HX7 := Lib.hid hX; have HR7 := Lib.hid (HR3.out.cells (hT.cells HX3.out.two)); have HK7 := Lib.hid (HK3.out.trans hk7); have c71 := hk7.ce (q := ⟨w.heap.size, 1, none⟩) b1 HPR.out; have c73 := hk7.ce (q := ⟨w.heap.size, 3, none⟩) b3 HPR.out; have HC7 := Lib.hid (hk7.c8 HC3.out); have HS7 := Lib.hid (hk7.c8 HS3.out); clear hX hT hk7) | (go_at_call 36; refine (rput_all HR7.out k HK0.out HK1a.out A c b H56.out (by have := HCC.out; rw [H56.out] at this; exact this) HC7.out).mono ?_; rintro e w8 ⟨rfl, hR, hG⟩; have hk8 : Kept bA bF pr _ _ := Kept.grown HR7.out hG; have HX8 := Lib.hid (HX7.out.but HR7.out hG); have HR8 := Lib.hid hR; have HK8 := Lib.hid (HK7.out.trans hk8); have c81 := hk8.ce (q := ⟨w.heap.size, 1, none⟩) c71 HPR.out; have c83 := hk8.ce (q := ⟨w.heap.size, 3, none⟩) c73 HPR.out; have HC8 := Lib.hid (hk8.c8 HC7.out); have HS8 := Lib.hid (hk8.c8 HS7.out); rw [if_neg HZ.out] at HR8; clear hR hG hk8) | (go_at_call 18; have hsb := moraineref00_SameBytes.calls (b.length + 1) A2 c2 b A c b true w8 HS8.out HSC.out HC8.out HCC.out (by rw [same_eq b b (by have := HL.out; omega) _ (Nat.lt_succ_self _)]; simp); rw [H56.out] at hsb; refine hsb.mono ?_; clear hsb; rintro e w9 ⟨rfl, hdr9⟩; have hb9 : Below w8.heap.size w8 w9 := (by obtain ⟨nd, rfl⟩ := hdr9; exact pw_below_drewN (Below.refl w8.heap.size w8) nd); have HX9 := Lib.hid (HX8.out.below hb9); have HR9 := Lib.hid (HR8.out.below hb9); have HK9 := Lib.hid (HK8.out.trans (Kept.below hb9)); have c91 := pw_cell_below hb9 c81; have c93 := pw_cell_below hb9 c83; clear hb9 hdr9))
  all_goals
    go_wp2
    go_ret
    exact ⟨rfl, _, _, HX9.out, HR9.out, HI.out.put HK0.out HK1a.out _, HK9.out⟩
/-- A call on both maps: they answer alike. -/
theorem told_calls {w : World} {p bA bF N pr : Nat} {a : Int → Option Int} {f : Int → Option (List Int)} (hx : BX w p bA bF N a f) (hr : RM w pr a f) (hi : Inv a f) (hN : N < 1000000) (q k n : Int) (hk : (Lit.int .i64 k).wf = true) (A : Option Addr) (c : Nat) (b : List Int) (hC : Kd.C (Kd.int .u8) w A b.length b) (hc : b.length ≤ c) (hl : b.length ≤ 20000) :
    Calls Tryd.prog 24 #[.pointer (some ⟨p, 0, none⟩), .pointer (some ⟨pr, 0, none⟩), .agg #[.int .i64 q, .int .i64 k, .int .i64 n, .slice A b.length c]] w fun e w' => e = .returned (.bool true) ∧ Told p bA bF N pr w w' := by
  by_cases q0 : q = 0
  · subst q0
    by_cases hbad : k < 0 ∨ 828 ≤ k ∨ b.length ≠ 56
    · exact told_put_bad hx hr hi hN k n hk A c b hC hc hl hbad
    · have h56 : b.length = 56 := by omega
      by_cases hz : tl b b.length = 0
      · have := told_put_zero hx hr hi hN k n hk A c b hC hc hl h56 hz (by omega) (by omega)
        rwa [← h56] at this
      · have := told_put_some hx hr hi hN k n hk A c b hC hc hl h56 hz (by omega) (by omega)
        rwa [← h56] at this
  by_cases q1 : q = 1
  · subst q1; exact told_at hx hr hi hN k n hk A c b hC hc hl
  by_cases q2 : q = 2
  · subst q2; exact told_bytes hx hr hi hN k n hk A c b hC hc hl
  by_cases q3 : q = 3
  · subst q3; exact told_cut hx hr hi hN k n hk A c b hC hc hl
  by_cases q4 : q = 4
  · subst q4
    cases hf : f k with
    | none => exact told_place_none hx hr hi hN k n hk A c b hC hc hl hf
    | some r =>
      by_cases hn : n < 1 ∨ 65535 < n
      · exact told_place_bad hx hr hi hN k n hk A c b hC hc hl r hf hn
      · exact told_place_yes hx hr hi hN k n hk A c b hC hc hl r hf (by omega) (by omega)
  by_cases q5 : q = 5
  · subst q5
    by_cases hn : n < 1 ∨ 65535 < n
    · exact told_move_no hx hr hi hN k n hk A c b hC hc hl hn
    · by_cases hk1 : k < 1
      · exact told_move_low hx hr hi hN k n hk A c b hC hc hl hk1 (by omega) (by omega)
      · exact told_move_yes hx hr hi hN k n hk A c b hC hc hl (by omega) (by omega) (by omega)
  exact told_else hx hr hi hN k n hk A c b hC hc hl q q0 q1 q2 q3 q4 q5
end Go.Proofs.YtlkhlmckgpjopaaDoor.Given
