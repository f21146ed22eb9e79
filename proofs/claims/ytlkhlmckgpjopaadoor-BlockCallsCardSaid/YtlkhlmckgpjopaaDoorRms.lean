/- Rms: GivRm, GivRm2, GivRm3, GivRm4, GivRm5. -/
import Derived.Test.YtlkhlmckgpjopaaDoorMoves
import Derived.Lib.SliceRun
/- The reference's map (moraineref15.Map): its state, told by the same two functions; by hand. -/
namespace Go.Proofs.YtlkhlmckgpjopaaDoor.Given
open Go.RowKit Go.Maps Go.Sort Go.Shelf Go.Proofs.YtlkhlmckgpjopaaDoorW.PrintWords Go.Proofs.YtlkhlmckgpjopaaDoorW.PrintLast Go.Proofs.YtlkhlmckgpjopaaDoorW.PrintMore Go.Proofs.YtlkhlmckgpjopaaDoor.Base
set_option linter.unusedVariables false
set_option linter.unusedSimpArgs false
/-- What a slot of New says. -/
def SlotOf (w : World) (u : Value) : Option (List Int) → Prop
  | none => u = .slice none 0 0
  | some b => Byt56 w u b
structure RW (w : World) (pr : Nat) (cs : Array Value) (a : Int → Option Int) (f : Int → Option (List Int)) : Prop where
  hp : w.heap[pr]? = some (.cells cs 72 (0, 0))
  sz : cs.size = 1656
  at_ : ∀ k : Nat, k < 828 → cs[k]? = some (.int .i64 ((a (k : Int)).getD 0))
  new : ∀ k : Nat, k < 828 → ∃ u, cs[828 + k]? = some u ∧ SlotOf w u (f (k : Int))
def RM (w : World) (pr : Nat) (a : Int → Option Int) (f : Int → Option (List Int)) : Prop := ∃ cs, RW w pr cs a f
/-- What holds of both maps' states. -/
structure Inv (a : Int → Option Int) (f : Int → Option (List Int)) : Prop where
  bdA : ∀ k, a k ≠ none → 0 ≤ k ∧ k < 828
  bdF : ∀ k, f k ≠ none → 0 ≤ k ∧ k < 828
  pos : ∀ k v, a k = some v → 1 ≤ v ∧ v ≤ 65535
  no : ∀ k, f k ≠ none → a k = none
theorem slot_len {w : World} {u : Value} {o : Option (List Int)} (h : SlotOf w u o) : ∃ A n c, u = .slice A n c ∧ ((n : Int) == 0) = o.isNone ∧ n ≤ 56 := by
  cases o with
  | none => exact ⟨none, 0, 0, h, rfl, by omega⟩
  | some b =>
    obtain ⟨A, c, rfl, h1, h2, h3⟩ := h
    exact ⟨A, b.length, c, rfl, by rw [beq_eq_false_iff_ne.2 (by omega)]; rfl, by omega⟩
set_option maxHeartbeats 1000000 in
theorem address_calls {w : World} {pr : Nat} {a : Int → Option Int} {f : Int → Option (List Int)} (h : RM w pr a f) (hi : Inv a f) (k : Int) :
    Calls Tryd.prog 37 #[.pointer (some ⟨pr, 0, none⟩), .int .i64 k] w fun e w' => e = .returned (.int .i64 ((a k).getD 0)) ∧ w = w' := by
  by_cases h0 : k < 0
  · have ha : a k = none := by cases hq : a k with
      | none => rfl
      | some v => have := hi.bdA k (by rw [hq]; simp); omega
    have d0 : decide (k < 0) = true := decide_eq_true h0
    rw [ha]
    go_enter Tryd.func37, Tryd.ntmps37
    go_wp2
    go_ret
    exact ⟨rfl, rfl⟩
  · have d0 : decide (k < 0) = false := decide_eq_false h0
    by_cases h1 : 828 ≤ k
    · have ha : a k = none := by cases hq : a k with
        | none => rfl
        | some v => have := hi.bdA k (by rw [hq]; simp); omega
      have d1 : decide (828 ≤ k) = true := decide_eq_true h1
      rw [ha]
      go_enter Tryd.func37, Tryd.ntmps37
      go_wp2
      go_ret
      exact ⟨rfl, rfl⟩
    · have d1 : decide (828 ≤ k) = false := decide_eq_false h1
      obtain ⟨cs, hR⟩ := h
      obtain ⟨n, rfl⟩ := Int.eq_ofNat_of_zero_le (show 0 ≤ k by omega)
      have hc : w.cell? ⟨pr, n, none⟩ = some (.int .i64 ((a (n : Int)).getD 0)) := (blk_cell hR.hp n).trans (hR.at_ n (by omega))
      obtain ⟨v, hv⟩ : ∃ v, (a (n : Int)).getD 0 = v := ⟨_, rfl⟩
      rw [hv] at hc ⊢
      have hn : (n : Int) < 828 := by omega
      clear hR hv h0 h1
      go_enter Tryd.func37, Tryd.ntmps37
      go_wp2
      go_ret
      exact ⟨rfl, rfl⟩
theorem grown_set (W : World) (b k : Nat) (v : Value) : W.grownBy (W.setCell ⟨b, k, none⟩ v) (some b) :=
  ⟨rfl, rfl, rfl, by simp [World.setCell], fun i _ hne => Below.heap_setCell W ⟨b, k, none⟩ v i (fun e => hne (by rw [e]))⟩
theorem blk_thaw {w : World} {g : Nat} {t : TypeId} {cs : Array Value} (h : w.heap[g]? = some (.cells cs t (0, 0))) (k : Nat) : w.frozen? ⟨g, k, none⟩ = false := by simp [World.frozen?, h]
/-- A slice of bytes is as it was, where no byte lies in the block that turned. -/
theorem C_but {w w1 : World} {pr : Nat} {cs : Array Value} {t : TypeId} (hp : w.heap[pr]? = some (.cells cs t (0, 0))) (hno : ∀ (i : Nat) (x : Int), cs[i]? ≠ some (Value.int .u8 x)) (hg : w.grownBy w1 (some pr)) {A : Option Addr} {n : Nat} {xs : List Int} (h : Kd.C (Kd.int .u8) w A n xs) : Kd.C (Kd.int .u8) w1 A n xs := by
  rcases Nat.eq_zero_or_pos n with h0 | h0
  · subst h0
    exact ⟨h.1, h.2.1, fun hn => absurd hn (by omega)⟩
  · obtain ⟨b, off, rfl, hcl⟩ := addr_of_C h h0
    refine Kd.C_of_reads (d := (0 : Int)) (h1 := fun _ => rfl) ⟨h.1, h.2.1, fun _ => ⟨_, rfl, fun j hj => ?_⟩⟩
    rw [addr_add]
    have hj' := hcl j hj
    by_cases e : b = pr
    · subst e
      exact absurd ((blk_cell hp (off + j)).symm.trans hj') (hno _ _)
    · rw [← hj']
      refine cell_block (p := ⟨b, off + j, none⟩) ?_
      cases hb : w.heap[b]? with
      | none => unfold World.cell? at hj'; rw [hb] at hj'; simp at hj'
      | some o => rw [← hb]; exact hg.block b (Array.getElem?_eq_some_iff.1 hb).1 (fun q => e (Option.some.inj q))
theorem RW.no8 {w : World} {pr : Nat} {cs : Array Value} {a : Int → Option Int} {f : Int → Option (List Int)} (h : RW w pr cs a f) (i : Nat) (x : Int) : cs[i]? ≠ some (Value.int .u8 x) := by
  intro hi
  by_cases h0 : i < 828
  · rw [h.at_ i h0] at hi; cases hi
  · by_cases h1 : i < 1656
    · obtain ⟨u, hu, hs⟩ := h.new (i - 828) (by omega)
      rw [show 828 + (i - 828) = i by omega, hi] at hu
      cases hu
      obtain ⟨A, n, c, e, _⟩ := slot_len hs
      cases e
    · rw [Array.getElem?_eq_none (by rw [h.sz]; omega)] at hi; cases hi
theorem SlotOf.but {w w1 : World} {pr : Nat} {cs : Array Value} {a : Int → Option Int} {f : Int → Option (List Int)} (h : RW w pr cs a f) (hg : w.grownBy w1 (some pr)) {u : Value} {o : Option (List Int)} (hs : SlotOf w u o) : SlotOf w1 u o := by
  cases o with
  | none => exact hs
  | some b =>
    obtain ⟨A, c, rfl, h1, h2, h3⟩ := hs
    exact ⟨A, c, rfl, h1, h2, C_but h.hp h.no8 hg h3⟩
theorem RW.setA {w : World} {pr : Nat} {cs : Array Value} {a : Int → Option Int} {f : Int → Option (List Int)} (h : RW w pr cs a f) {k : Nat} (hk : k < 828) (v : Option Int) : RW (w.setCell ⟨pr, k, none⟩ (.int .i64 (v.getD 0))) pr (cs.setIfInBounds k (.int .i64 (v.getD 0))) (setF a (k : Int) v) f where
  hp := blk_put h.hp k _ rfl
  sz := by rw [Array.size_setIfInBounds]; exact h.sz
  at_ := fun j hj => by
    rw [Array.getElem?_setIfInBounds]
    unfold setF
    by_cases e : k = j
    · subst e; rw [if_pos rfl, if_pos (by rw [h.sz]; omega), if_pos rfl]
    · rw [if_neg e, if_neg (by omega)]; exact h.at_ j hj
  new := fun j hj => by
    obtain ⟨u, hu, hs⟩ := h.new j hj
    refine ⟨u, ?_, hs.but h (grown_set _ _ _ _)⟩
    rw [Array.getElem?_setIfInBounds, if_neg (by omega)]
    exact hu
theorem RW.setN {w : World} {pr : Nat} {cs : Array Value} {a : Int → Option Int} {f : Int → Option (List Int)} (h : RW w pr cs a f) {k : Nat} (hk : k < 828) {u : Value} {o : Option (List Int)} (hu : SlotOf w u o) : RW (w.setCell ⟨pr, 828 + k, none⟩ u) pr (cs.setIfInBounds (828 + k) u) a (setF f (k : Int) o) where
  hp := blk_put h.hp (828 + k) _ rfl
  sz := by rw [Array.size_setIfInBounds]; exact h.sz
  at_ := fun j hj => by
    rw [Array.getElem?_setIfInBounds, if_neg (by omega)]
    exact h.at_ j hj
  new := fun j hj => by
    rw [Array.getElem?_setIfInBounds]
    unfold setF
    by_cases e : k = j
    · subst e
      rw [if_pos rfl, if_pos (by rw [h.sz]; omega), if_pos rfl]
      exact ⟨u, rfl, hu.but h (grown_set _ _ _ _)⟩
    · rw [if_neg (by omega), if_neg (by omega)]
      obtain ⟨u', hu', hs⟩ := h.new j hj
      exact ⟨u', hu', hs.but h (grown_set _ _ _ _)⟩
theorem RM.cells {w w1 : World} {pr : Nat} {a : Int → Option Int} {f : Int → Option (List Int)} (h : RM w pr a f) (hk : Cells w w1) : RM w1 pr a f := by
  obtain ⟨cs, hR⟩ := h
  refine ⟨cs, (hk _ _ _ _ hR.hp).trans hR.hp, hR.sz, hR.at_, fun j hj => ?_⟩
  obtain ⟨u, hu, hs⟩ := hR.new j hj
  refine ⟨u, hu, ?_⟩
  cases hf : f (j : Int) with
  | none => rw [hf] at hs; exact hs
  | some b => rw [hf] at hs; exact hs.kept hk
theorem RM.below {w w1 : World} {pr : Nat} {a : Int → Option Int} {f : Int → Option (List Int)} (h : RM w pr a f) (hb : Below w.heap.size w w1) : RM w1 pr a f := h.cells (Cells.of_below hb)
/-- The map's own state is as it was, where the reference's block turned. -/
theorem BM.but {w w1 : World} {base p N pr : Nat} {a a1 : Int → Option Int} {f f1 : Int → Option (List Int)} (h : BM w base p N a f) (hr : RM w pr a1 f1) (hg : w.grownBy w1 (some pr)) : BM w1 base p N a f := by
  obtain ⟨bA, bF, DA, DF, mF, hB⟩ := h
  obtain ⟨cs, hR⟩ := hr
  have hpr : p ≠ pr := fun e => by
    have h1 := hB.hp
    rw [e, hR.hp] at h1
    injection h1 with h1
    injection h1 with _ h1
    exact absurd h1 (by decide)
  have hm : ∀ {b n : Nat} {D : DataW Value}, w.ownsMap Tryd.prog 3 tokR b n D → some b ≠ some pr := fun {b n D} o e => by
    obtain ⟨es, ck, hb, _⟩ := o
    rw [Option.some.inj e, hR.hp] at hb
    cases hb
  refine ⟨bA, bF, DA, DF, mF, (hg.block p (Array.getElem?_eq_some_iff.1 hB.hp).1 (fun e => hpr (Option.some.inj e))).trans hB.hp, hB.bp, hB.ba, hB.bf, hB.ne, hB.oA.kept hg (hm hB.oA), hB.hA, hB.oF.kept hg (hm hB.oF), hB.hF, fun k => ⟨(hB.el k).1, fun r hr => ?_⟩⟩
  obtain ⟨u, hu, A, c, rfl, h1, h2, h3⟩ := (hB.el k).2 r hr
  exact ⟨_, hu, A, c, rfl, h1, h2, C_but hR.hp hR.no8 hg h3⟩
end Go.Proofs.YtlkhlmckgpjopaaDoor.Given

/- The reference's map: Bytes, Place, Cut, Move; by hand. -/
namespace Go.Proofs.YtlkhlmckgpjopaaDoor.Given
open Go.RowKit Go.Maps Go.Sort Go.Shelf Go.Proofs.YtlkhlmckgpjopaaDoorW.PrintWords Go.Proofs.YtlkhlmckgpjopaaDoorW.PrintLast Go.Proofs.YtlkhlmckgpjopaaDoorW.PrintMore Go.Proofs.YtlkhlmckgpjopaaDoor.Base
set_option linter.unusedVariables false
set_option linter.unusedSimpArgs false
set_option maxHeartbeats 1000000 in
theorem rbytes_none {w : World} {pr : Nat} {a : Int → Option Int} {f : Int → Option (List Int)} (h : RM w pr a f) (k : Int) (hf : f k = none) :
    Calls Tryd.prog 38 #[.pointer (some ⟨pr, 0, none⟩), .int .i64 k] w fun e w' => e = .returned (.tuple #[.slice none 0 0, .bool false]) ∧ w = w' := by
  by_cases h0 : k < 0
  · have d0 : decide (k < 0) = true := decide_eq_true h0
    go_enter Tryd.func38, Tryd.ntmps38
    go_wp2
    go_ret2
    exact ⟨rfl, rfl⟩
  · have d0 : decide (k < 0) = false := decide_eq_false h0
    by_cases h1 : 828 ≤ k
    · have d1 : decide (828 ≤ k) = true := decide_eq_true h1
      go_enter Tryd.func38, Tryd.ntmps38
      go_wp2
      go_ret2
      exact ⟨rfl, rfl⟩
    · have d1 : decide (828 ≤ k) = false := decide_eq_false h1
      obtain ⟨cs, hR⟩ := h
      obtain ⟨n, rfl⟩ := Int.eq_ofNat_of_zero_le (show 0 ≤ k by omega)
      obtain ⟨u, hu, hs⟩ := hR.new n (by omega)
      rw [hf] at hs
      obtain rfl : u = .slice none 0 0 := hs
      have hc : w.cell? ⟨pr, 828 + n, none⟩ = some (.slice none 0 0) := (blk_cell hR.hp (828 + n)).trans hu
      have hn : (n : Int) < 828 := by omega
      clear hR hu h0 h1
      go_enter Tryd.func38, Tryd.ntmps38
      go_wp2
      go_ret2
      exact ⟨rfl, rfl⟩
set_option maxHeartbeats 1000000 in
theorem rbytes_some {w : World} {pr : Nat} {a : Int → Option Int} {f : Int → Option (List Int)} (h : RM w pr a f) (k : Int) (h0 : 0 ≤ k) (h1 : k < 828) (b : List Int) (hf : f k = some b) :
    Calls Tryd.prog 38 #[.pointer (some ⟨pr, 0, none⟩), .int .i64 k] w fun e w' => ∃ v0 : Value, e = .returned (.tuple #[v0, .bool true]) ∧ Kd.R (Kd.int .u8) 5 w' w.heap.size (fun _ => True) v0 b ∧ Below w.heap.size w w' := by
  have d0 : decide (k < 0) = false := decide_eq_false (by omega)
  have d1 : decide (828 ≤ k) = false := decide_eq_false (by omega)
  obtain ⟨cs, hR⟩ := h
  obtain ⟨n, rfl⟩ := Int.eq_ofNat_of_zero_le h0
  obtain ⟨u, hu, hs⟩ := hR.new n (by omega)
  rw [hf] at hs
  obtain ⟨A, c, rfl, g1, g2, g3⟩ := hs
  have hc : w.cell? ⟨pr, 828 + n, none⟩ = some (.slice A b.length c) := (blk_cell hR.hp (828 + n)).trans hu
  have hcb := moraineref00_CopyBytes.calls A c b b w g3 g1 (by unfold moraineref00_CopyBytes.f; simp; omega)
  rw [g2] at hc hcb
  have HCB := Lib.hid hcb
  clear hR hu hcb g1 g2 g3 hf
  go_enter Tryd.func38, Tryd.ntmps38
  go_wp2_with fail
  refine HCB.out.mono ?_
  rintro e w1 ⟨v0, rfl, hR, hB⟩
  go_wp2
  go_ret2
  exact ⟨v0, rfl, hR, hB⟩
set_option maxHeartbeats 2000000 in
theorem rplace_no {w : World} {pr : Nat} {a : Int → Option Int} {f : Int → Option (List Int)} (h : RM w pr a f) (hi : Inv a f) (k to_ : Int) (hno : f k = none ∨ to_ < 1 ∨ 65535 < to_) :
    Calls Tryd.prog 40 #[.pointer (some ⟨pr, 0, none⟩), .int .i64 k, .int .i64 to_] w fun e w' => e = .returned (.int .i64 28) ∧ Below w.heap.size w w' := by
  cases hf : f k with
  | none =>
    have HB := Lib.hid (rbytes_none h k hf)
    clear h hi hno
    go_enter Tryd.func40, Tryd.ntmps40
    go_wp2_with fail
    refine HB.out.mono ?_
    rintro e w1 ⟨rfl, rfl⟩
    go_wp2
    go_ret
    exact ⟨rfl, Below.refl _ _⟩
  | some b =>
    have hb := hi.bdF k (by rw [hf]; simp)
    have HB := Lib.hid (rbytes_some h k hb.1 hb.2 b hf)
    have hno2 : to_ < 1 ∨ 65535 < to_ := hno.resolve_left (by rw [hf]; simp)
    clear h hi hno hb hf
    by_cases h1 : to_ < 1
    · have d1 : decide (to_ < 1) = true := decide_eq_true h1
      clear hno2
      go_enter Tryd.func40, Tryd.ntmps40
      go_wp2_with fail
      refine HB.out.mono ?_
      rintro e w1 ⟨v0, rfl, hR, hB⟩
      go_wp2
      go_ret
      exact ⟨rfl, hB⟩
    · have d1 : decide (to_ < 1) = false := decide_eq_false h1
      have d2 : decide (65535 < to_) = true := decide_eq_true (by omega)
      clear hno2
      go_enter Tryd.func40, Tryd.ntmps40
      go_wp2_with fail
      refine HB.out.mono ?_
      rintro e w1 ⟨v0, rfl, hR, hB⟩
      go_wp2
      go_ret
      exact ⟨rfl, hB⟩
set_option maxHeartbeats 2000000 in
theorem rplace_yes {w : World} {pr : Nat} {a : Int → Option Int} {f : Int → Option (List Int)} (h : RM w pr a f) (k to_ : Int) (h0 : 0 ≤ k) (h1 : k < 828) (b : List Int) (hf : f k = some b) (ht1 : 1 ≤ to_) (ht2 : to_ ≤ 65535) :
    Calls Tryd.prog 40 #[.pointer (some ⟨pr, 0, none⟩), .int .i64 k, .int .i64 to_] w fun e w' => e = .returned (.int .i64 0) ∧ RM w' pr (setF a k (some to_)) (setF f k none) ∧ w.grownBy w' (some pr) := by
  have HB := Lib.hid (rbytes_some h k h0 h1 b hf)
  have HR := Lib.hid h
  obtain ⟨n, rfl⟩ := Int.eq_ofNat_of_zero_le h0
  have hn : (n : Int) < 828 := h1
  have d1 : decide (to_ < 1) = false := decide_eq_false (by omega)
  have d2 : decide (65535 < to_) = false := decide_eq_false (by omega)
  clear h hf h1
  go_enter Tryd.func40, Tryd.ntmps40
  go_wp2_with fail
  refine HB.out.mono ?_
  rintro e w1 ⟨v0, rfl, hR, hB⟩
  obtain ⟨cs, hR1⟩ := HR.out.below hB
  have hg1 : Hid (w.grownBy w1 (some pr)) := (grown_of_below hB none).but _
  have hR2 := hR1.setA (k := n) (by omega) (some to_)
  have hR3 := hR2.setN (k := n) (by omega) (u := .slice none 0 0) (o := none) rfl
  have HR3 := Lib.hid hR3
  have hs2 := grown_set w1 pr n (.int .i64 to_)
  have HG2 : Hid (w.grownBy (w1.setCell ⟨pr, n, none⟩ (.int .i64 to_)) (some pr)) := hg1.out.trans hs2
  have HG3 : Hid (w.grownBy ((w1.setCell ⟨pr, n, none⟩ (.int .i64 to_)).setCell ⟨pr, 828 + n, none⟩ (.slice none 0 0)) (some pr)) := HG2.out.trans (grown_set _ _ _ _)
  have c1 : w1.cell? ⟨pr, n, none⟩ = some (.int .i64 ((a (n : Int)).getD 0)) := (blk_cell hR1.hp n).trans (hR1.at_ n (by omega))
  have z1 := blk_thaw hR1.hp n
  obtain ⟨u, hu, _⟩ := hR2.new n (by omega)
  have c2 : (w1.setCell ⟨pr, n, none⟩ (.int .i64 to_)).cell? ⟨pr, 828 + n, none⟩ = some u := (blk_cell hR2.hp (828 + n)).trans hu
  have z2 : (w1.setCell ⟨pr, n, none⟩ (.int .i64 to_)).frozen? ⟨pr, 828 + n, none⟩ = false := blk_thaw hR2.hp (828 + n)
  clear hR hB hR1 hR2 hR3 hs2 hu hg1
  go_wp2
  go_ret
  exact ⟨rfl, ⟨_, HR3.out⟩, HG3.out⟩
end Go.Proofs.YtlkhlmckgpjopaaDoor.Given

/- The reference's map: Cut, Move; by hand. -/
namespace Go.Proofs.YtlkhlmckgpjopaaDoor.Given
open Go.RowKit Go.Maps Go.Sort Go.Shelf Go.Proofs.YtlkhlmckgpjopaaDoorW.PrintWords Go.Proofs.YtlkhlmckgpjopaaDoorW.PrintLast Go.Proofs.YtlkhlmckgpjopaaDoorW.PrintMore Go.Proofs.YtlkhlmckgpjopaaDoor.Base
set_option linter.unusedVariables false
set_option linter.unusedSimpArgs false
def cutJ {β : Type} (n j : Int) (m : Int → Option β) : Int → Option β := fun k => if n ≤ k ∧ k < j then none else m k
theorem cutJ_start {β : Type} {n j : Int} {m : Int → Option β} (hb : ∀ k, m k ≠ none → 0 ≤ k ∧ k < 828) (hj : (j = n ∧ 0 ≤ n) ∨ (j = 0 ∧ n < 0)) : cutJ n j m = m := by
  funext k
  unfold cutJ
  by_cases e : n ≤ k ∧ k < j
  · rw [if_pos e]
    cases hm : m k with
    | none => rfl
    | some v => have := hb k (by rw [hm]; simp); omega
  · rw [if_neg e]
theorem cutJ_step {β : Type} {n j : Int} {m : Int → Option β} (hn : n ≤ j) : setF (cutJ n j m) j none = cutJ n (j + 1) m := by
  funext k
  unfold setF cutJ
  by_cases e : k = j
  · subst e; rw [if_pos rfl, if_pos (by omega)]
  · rw [if_neg e]
    by_cases h : n ≤ k ∧ k < j
    · rw [if_pos h, if_pos (by omega)]
    · rw [if_neg h, if_neg (by omega)]
theorem cutJ_end {β : Type} {n j : Int} {m : Int → Option β} (hb : ∀ k, m k ≠ none → 0 ≤ k ∧ k < 828) (hj : 828 ≤ j) : cutJ n j m = cutF n m := by
  funext k
  unfold cutJ cutF
  by_cases e : n ≤ k
  · rw [if_pos e]
    by_cases h : k < j
    · rw [if_pos ⟨e, h⟩]
    · rw [if_neg (by omega)]
      cases hm : m k with
      | none => rfl
      | some v => have := hb k (by rw [hm]; simp); omega
  · rw [if_neg e, if_neg (by omega)]
set_option maxHeartbeats 4000000 in
set_option maxRecDepth 100000 in
theorem rcut_calls {w : World} {pr : Nat} {a : Int → Option Int} {f : Int → Option (List Int)} (h : RM w pr a f) (hi : Inv a f) (n : Int) :
    Calls Tryd.prog 39 #[.pointer (some ⟨pr, 0, none⟩), .int .i64 n] w fun e w' => e = .returned (.tuple #[]) ∧ RM w' pr (cutF n a) (cutF n f) ∧ w.grownBy w' (some pr) := by
  have HI := Lib.hid hi
  have HR := Lib.hid h
  clear h hi
  go_enter Tryd.func39, Tryd.ntmps39
  go_wp2
  all_goals
    go_loopw [4] (fun i wr => ∃ (j : Int), 0 ≤ j ∧ n ≤ j ∧ i = .int .i64 j ∧ Hid (RM wr pr (cutJ n j a) (cutJ n j f)) ∧ Hid (w.grownBy wr (some pr))) (fun i _ => (828 - intOf i).toNat)
    case atStart => exact ⟨max n 0, by omega, by omega, rfl, by rw [cutJ_start HI.out.bdA (by omega), cutJ_start HI.out.bdF (by omega)]; exact HR, World.grownBy.refl _ _⟩
    case round =>
      obtain ⟨j, hj0, hjn, rfl, HM, HG⟩ := hrel
      by_cases hlt : j < 828
      · obtain ⟨m, rfl⟩ := Int.eq_ofNat_of_zero_le hj0
        obtain ⟨cs, hR1⟩ := HM.out
        have hR2 := hR1.setA (k := m) (by omega) none
        have hR3 := hR2.setN (k := m) (by omega) (u := .slice none 0 0) (o := none) rfl
        have c1 : wr.cell? ⟨pr, m, none⟩ = some (.int .i64 ((cutJ n (m : Int) a (m : Int)).getD 0)) := (blk_cell hR1.hp m).trans (hR1.at_ m (by omega))
        have z1 := blk_thaw hR1.hp m
        obtain ⟨u, hu, _⟩ := hR2.new m (by omega)
        have c2 : (wr.setCell ⟨pr, m, none⟩ (.int .i64 0)).cell? ⟨pr, 828 + m, none⟩ = some u := (blk_cell hR2.hp (828 + m)).trans hu
        have z2 : (wr.setCell ⟨pr, m, none⟩ (.int .i64 0)).frozen? ⟨pr, 828 + m, none⟩ = false := blk_thaw hR2.hp (828 + m)
        rw [cutJ_step hjn, cutJ_step hjn] at hR3
        have HR3 := Lib.hid hR3
        have HG3 : Hid (w.grownBy ((wr.setCell ⟨pr, m, none⟩ (.int .i64 0)).setCell ⟨pr, 828 + m, none⟩ (.slice none 0 0)) (some pr)) := (HG.out.trans (grown_set _ _ _ _)).trans (grown_set _ _ _ _)
        clear hR1 hR2 hR3 hu
        go_wp2
        go_roundw
        case rel => exact ⟨(m : Int) + 1, by omega, by omega, rfl, ⟨_, HR3.out⟩, HG3⟩
        case measure => simp [intOf]; omega
      · have hd : decide (j < 828) = false := decide_eq_false hlt
        have HM2 : Hid (RM wr pr (cutF n a) (cutF n f)) := by
          have := HM.out
          rw [cutJ_end HI.out.bdA (by omega), cutJ_end HI.out.bdF (by omega)] at this
          exact this
        go_wp2
        go_end0
        exact ⟨rfl, HM2.out, HG.out⟩
def movJ (fr to_ j : Int) (a : Int → Option Int) : Int → Option Int := fun k => if k < j ∧ a k = some fr then some to_ else a k
theorem movJ_zero {fr to_ : Int} {a : Int → Option Int} (hb : ∀ k, a k ≠ none → 0 ≤ k ∧ k < 828) : movJ fr to_ 0 a = a := by
  funext k
  unfold movJ
  by_cases e : k < 0 ∧ a k = some fr
  · have := hb k (by rw [e.2]; simp); omega
  · rw [if_neg e]
theorem movJ_at {fr to_ j : Int} {a : Int → Option Int} : movJ fr to_ j a j = a j := by
  unfold movJ
  rw [if_neg (by omega)]
theorem movJ_yes {fr to_ j : Int} {a : Int → Option Int} (h : a j = some fr) : setF (movJ fr to_ j a) j (some to_) = movJ fr to_ (j + 1) a := by
  funext k
  unfold setF movJ
  by_cases e : k = j
  · subst e; rw [if_pos rfl, if_pos ⟨by omega, h⟩]
  · rw [if_neg e]
    by_cases q : k < j ∧ a k = some fr
    · rw [if_pos q, if_pos ⟨by omega, q.2⟩]
    · rw [if_neg q, if_neg (fun r => q ⟨by omega, r.2⟩)]
theorem movJ_no {fr to_ j : Int} {a : Int → Option Int} (h : a j ≠ some fr) : movJ fr to_ j a = movJ fr to_ (j + 1) a := by
  funext k
  unfold movJ
  by_cases q : k < j ∧ a k = some fr
  · rw [if_pos q, if_pos ⟨by omega, q.2⟩]
  · rw [if_neg q, if_neg (fun r => by
      by_cases e : k = j
      · subst e; exact h r.2
      · exact q ⟨by omega, r.2⟩)]
theorem movJ_end {fr to_ : Int} {a : Int → Option Int} (hb : ∀ k, a k ≠ none → 0 ≤ k ∧ k < 828) : movJ fr to_ 828 a = movF fr to_ a := by
  funext k
  unfold movJ movF
  by_cases e : a k = some fr
  · rw [if_pos e, if_pos ⟨(hb k (by rw [e]; simp)).2, e⟩]
  · rw [if_neg e, if_neg (fun r => e r.2)]
set_option maxHeartbeats 1000000 in
theorem rmove_no {w : World} {pr : Nat} {a : Int → Option Int} {f : Int → Option (List Int)} (h : RM w pr a f) (fr to_ : Int) (hno : fr < 1 ∨ to_ < 1 ∨ 65535 < to_) :
    Calls Tryd.prog 41 #[.pointer (some ⟨pr, 0, none⟩), .int .i64 fr, .int .i64 to_] w fun e w' => e = .returned (.int .i64 0) ∧ w = w' := by
  by_cases h1 : 1 ≤ fr
  · have d1 : decide (1 ≤ fr) = true := decide_eq_true h1
    by_cases h2 : 1 ≤ to_
    · have d2 : decide (1 ≤ to_) = true := decide_eq_true h2
      have d3 : decide (to_ ≤ 65535) = false := decide_eq_false (by omega)
      go_enter Tryd.func41, Tryd.ntmps41
      go_wp2
      refine wp_loop_rounds 1 ?_
      rw [rounds_succ]
      go_wp2
      go_ret
      exact ⟨rfl, rfl⟩
    · have d2 : decide (1 ≤ to_) = false := decide_eq_false h2
      go_enter Tryd.func41, Tryd.ntmps41
      go_wp2
      refine wp_loop_rounds 1 ?_
      rw [rounds_succ]
      go_wp2
      go_ret
      exact ⟨rfl, rfl⟩
  · have d1 : decide (1 ≤ fr) = false := decide_eq_false h1
    go_enter Tryd.func41, Tryd.ntmps41
    go_wp2
    refine wp_loop_rounds 1 ?_
    rw [rounds_succ]
    go_wp2
    go_ret
    exact ⟨rfl, rfl⟩
set_option maxHeartbeats 4000000 in
set_option maxRecDepth 100000 in
theorem rmove_yes {w : World} {pr : Nat} {a : Int → Option Int} {f : Int → Option (List Int)} (h : RM w pr a f) (hi : Inv a f) (fr to_ : Int) (hf : 1 ≤ fr) (h1 : 1 ≤ to_) (h2 : to_ ≤ 65535) :
    Calls Tryd.prog 41 #[.pointer (some ⟨pr, 0, none⟩), .int .i64 fr, .int .i64 to_] w fun e w' => ∃ ss : List Int, e = .returned (.int .i64 (ss.length : Int)) ∧ ss.Nodup ∧ (∀ j, j ∈ ss ↔ a j = some fr) ∧ RM w' pr (movF fr to_ a) f ∧ w.grownBy w' (some pr) := by
  have HI := Lib.hid hi
  have HR : Hid (RM w pr (movJ fr to_ 0 a) f) := by show RM w pr (movJ fr to_ 0 a) f; rw [movJ_zero hi.bdA]; exact h
  have d1 : decide (1 ≤ fr) = true := decide_eq_true hf
  have d2 : decide (1 ≤ to_) = true := decide_eq_true h1
  have d3 : decide (to_ ≤ 65535) = true := decide_eq_true h2
  clear h hi
  go_enter Tryd.func41, Tryd.ntmps41
  go_wp2
  go_loopw [7, 8] (fun c i wr => ∃ (j : Nat) (ss : List Int), j ≤ 828 ∧ ss.length ≤ j ∧ c = .int .i64 (ss.length : Int) ∧ i = .int .i64 j ∧ Hid (RM wr pr (movJ fr to_ j a) f) ∧ Hid (w.grownBy wr (some pr)) ∧ Hid (ss.Nodup ∧ ∀ k, k ∈ ss ↔ (k < (j : Int) ∧ a k = some fr))) (fun _ i _ => (828 - intOf i).toNat)
  case atStart => exact ⟨0, [], by omega, by simp, rfl, rfl, HR, World.grownBy.refl _ _, List.nodup_nil, fun k => ⟨fun q => by simp at q, fun q => by have := HI.out.bdA k (by rw [q.2]; simp); omega⟩⟩
  case round =>
    clear HR
    obtain ⟨j, ss, hj, hsj, rfl, rfl, HM, HG, HS⟩ := hrel
    by_cases hlt : j < 828
    · obtain ⟨cs, hR1⟩ := HM.out
      have hlt2 : (j : Int) < 828 := by omega
      have c1 : wr.cell? ⟨pr, j, none⟩ = some (.int .i64 ((movJ fr to_ (j : Int) a (j : Int)).getD 0)) := (blk_cell hR1.hp j).trans (hR1.at_ j hlt)
      rw [movJ_at] at c1
      have z1 := blk_thaw hR1.hp j
      have hsl : (ss.length : Int) ≤ 828 := by omega
      by_cases hq : a (j : Int) = some fr
      · rw [hq] at c1
        have c2 : wr.cell? ⟨pr, j, none⟩ = some (.int .i64 fr) := c1
        have hR2 := hR1.setA (k := j) hlt (some to_)
        rw [movJ_yes hq] at hR2
        have HR2 := Lib.hid hR2
        have HG2 : Hid (w.grownBy (wr.setCell ⟨pr, j, none⟩ (.int .i64 to_)) (some pr)) := HG.out.trans (grown_set _ _ _ _)
        have hff : (fr == fr) = true := by simp
        have HQ := Lib.hid hq
        clear c1 hR1 hR2 hq
        go_wp2
        go_roundw
        case rel => exact ⟨j + 1, ss ++ [(j : Int)], by omega, by simp; omega, by simp, by simp, ⟨_, HR2.out⟩, HG2, List.nodup_append.2 ⟨HS.out.1, by simp, fun x hx y hy e => by rw [List.mem_singleton] at hy; subst e; subst hy; have := ((HS.out.2 _).1 hx).1; omega⟩, fun k => by
          rw [List.mem_append, HS.out.2, List.mem_singleton]
          constructor
          · rintro (q | rfl)
            · exact ⟨by omega, q.2⟩
            · exact ⟨by omega, HQ.out⟩
          · rintro ⟨q1, q2⟩
            by_cases e : k = (j : Int)
            · exact .inr e
            · exact .inl ⟨by omega, q2⟩⟩
        case measure => simp [intOf]; omega
      · obtain ⟨v, hv⟩ : ∃ v, (a (j : Int)).getD 0 = v := ⟨_, rfl⟩
        rw [hv] at c1
        have hne : (v == fr) = false := beq_eq_false_iff_ne.2 (fun e => by
          cases hx : a (j : Int) with
          | none => rw [hx] at hv; simp at hv; omega
          | some y => rw [hx] at hv hq; simp at hv; exact hq (by rw [hv, e]))
        have HQ := Lib.hid hq
        have HM2 : Hid (RM wr pr (movJ fr to_ ((j : Int) + 1) a) f) := by have := HM.out; rw [movJ_no hq] at this; exact this
        clear hR1 hv hq
        go_wp2
        go_roundw
        case rel => exact ⟨j + 1, ss, by omega, by omega, rfl, by simp, HM2, HG, HS.out.1, fun k => by
          rw [HS.out.2]
          constructor
          · rintro ⟨q1, q2⟩; exact ⟨by omega, q2⟩
          · rintro ⟨q1, q2⟩
            by_cases e : k = (j : Int)
            · rw [e] at q2; exact absurd q2 HQ.out
            · exact ⟨by omega, q2⟩⟩
        case measure => simp [intOf]; omega
    · obtain rfl : j = 828 := by omega
      have hm : ∀ k, k ∈ ss ↔ a k = some fr := fun k => by
        rw [HS.out.2]
        exact ⟨fun q => q.2, fun q => ⟨(HI.out.bdA k (by rw [q]; simp)).2, q⟩⟩
      have HM2 : Hid (RM wr pr (movF fr to_ a) f) := by
        have := HM.out
        rw [show (((828 : Nat)) : Int) = 828 from rfl, movJ_end HI.out.bdA] at this
        exact this
      have HMM := Lib.hid hm
      clear hm
      go_wp2
      go_ret
      exact ⟨ss, rfl, HS.out.1, HMM.out, HM2.out, HG.out⟩
end Go.Proofs.YtlkhlmckgpjopaaDoor.Given

/- The reference's map: Put; by hand. -/
namespace Go.Proofs.YtlkhlmckgpjopaaDoor.Given
open Go.RowKit Go.Maps Go.Sort Go.Shelf Go.Proofs.YtlkhlmckgpjopaaDoorW.PrintWords Go.Proofs.YtlkhlmckgpjopaaDoorW.PrintLast Go.Proofs.YtlkhlmckgpjopaaDoorW.PrintMore Go.Proofs.YtlkhlmckgpjopaaDoor.Base
set_option linter.unusedVariables false
set_option linter.unusedSimpArgs false
set_option maxHeartbeats 1000000 in
theorem rput_bad {w : World} (pr : Nat) (k : Int) (A : Option Addr) (n c : Nat) (hn : n ≤ 9223372036854775807) (h : k < 0 ∨ 828 ≤ k ∨ n ≠ 56) :
    Calls Tryd.prog 36 #[.pointer (some ⟨pr, 0, none⟩), .int .i64 k, .slice A n c] w fun e w' => e = .returned (.int .i64 28) ∧ w = w' := by
  by_cases h0 : k < 0
  · have d0 : decide (k < 0) = true := decide_eq_true h0
    go_enter Tryd.func36, Tryd.ntmps36
    go_wp2
    go_ret
    exact ⟨rfl, rfl⟩
  · have d0 : decide (k < 0) = false := decide_eq_false h0
    by_cases h1 : 828 ≤ k
    · have d1 : decide (828 ≤ k) = true := decide_eq_true h1
      go_enter Tryd.func36, Tryd.ntmps36
      go_wp2
      go_ret
      exact ⟨rfl, rfl⟩
    · have d1 : decide (828 ≤ k) = false := decide_eq_false h1
      have hn2 : ((n : Int) != 56) = true := bne_iff_ne.2 (by omega)
      clear h h0 h1
      go_enter Tryd.func36, Tryd.ntmps36
      go_wp2
      go_ret
      exact ⟨rfl, rfl⟩
set_option maxHeartbeats 2000000 in
theorem rnought_calls (A : Option Addr) (c : Nat) (b : List Int) (w : World) (hC : Kd.C (Kd.int .u8) w A b.length b) (hl : b.length ≤ 1000000) :
    Calls Tryd.prog 53 #[.slice A b.length c] w fun e w' => e = .returned (.bool (decide (tl b b.length = 0))) ∧ w = w' := by
  have HC := Lib.hid hC
  clear hC
  go_enter Tryd.func53, Tryd.ntmps53
  go_wp2
  go_loopw [3] (fun i wr => ∃ (j : Nat), j ≤ b.length ∧ i = .int .i64 j ∧ Hid (∀ q, q < j → b.getD q 0 = 0) ∧ w = wr) (fun i _ => (1000000 - intOf i).toNat)
  case atStart => exact ⟨0, by omega, rfl, fun q h => absurd h (by omega), rfl⟩
  case round =>
    obtain ⟨j, hj, rfl, HZ, rfl⟩ := hrel
    have hll : (b.length : Int) ≤ 1000000 := by omega
    rcases Nat.lt_or_ge j b.length with hlt | hge
    · have hlt2 : (j : Int) < (b.length : Int) := by omega
      obtain ⟨g0, o0, rfl, hcell⟩ := addr_of_C HC.out (by omega)
      have hcj := hcell j hlt
      obtain ⟨x, hx⟩ : ∃ x, b.getD j 0 = x := ⟨_, rfl⟩
      rw [hx] at hcj
      by_cases h0 : x = 0
      · subst h0
        have HZ2 : Hid (∀ q, q < j + 1 → b.getD q 0 = 0) := fun q hq => by
          by_cases e : q = j
          · subst e; exact hx
          · exact HZ.out q (by omega)
        clear hcell hx
        go_wp2
        go_roundw
        case rel => first | exact ⟨j + 1, by omega, by simp, HZ2, rfl⟩ | exact ⟨j + 1, by omega, by simp, HZ2, trivial⟩
        case measure => simp [intOf]; omega
      · have hne : (x != 0) = true := bne_iff_ne.2 h0
        have hres : decide (tl b b.length = 0) = false := decide_eq_false (fun e => h0 (by rw [← hx]; exact (tl_zero b b.length).1 e j hlt))
        have HRES := Lib.hid hres
        clear hcell hx h0 hres
        go_wp2
        go_ret
        exact ⟨congrArg (fun z => Ending.returned (.bool z)) HRES.out.symm, rfl⟩
    · obtain rfl : j = b.length := by omega
      have hres : decide (tl b b.length = 0) = true := decide_eq_true ((tl_zero b b.length).2 HZ.out)
      have HRES := Lib.hid hres
      clear hres
      go_wp2
      go_ret
      exact ⟨congrArg (fun z => Ending.returned (.bool z)) HRES.out.symm, rfl⟩
set_option maxHeartbeats 4000000 in
set_option maxRecDepth 100000 in
theorem rput_all {w : World} {pr : Nat} {a : Int → Option Int} {f : Int → Option (List Int)} (h : RM w pr a f) (k : Int) (h0 : 0 ≤ k) (h1 : k < 828) (A : Option Addr) (c : Nat) (b : List Int) (hb : b.length = 56) (hc : 56 ≤ c) (hC : Kd.C (Kd.int .u8) w A b.length b) :
    Calls Tryd.prog 36 #[.pointer (some ⟨pr, 0, none⟩), .int .i64 k, .slice A 56 c] w fun e w' => e = .returned (.int .i64 0) ∧ RM w' pr (setF a k none) (setF f k (if tl b b.length = 0 then none else some b)) ∧ w.grownBy w' (some pr) := by
  obtain ⟨n, rfl⟩ := Int.eq_ofNat_of_zero_le h0
  have hn : (n : Int) < 828 := h1
  have d0 : decide ((n : Int) < 0) = false := decide_eq_false (by omega)
  have d1 : decide (828 ≤ (n : Int)) = false := decide_eq_false (by omega)
  obtain ⟨cs, hR1⟩ := h
  have hR2 := hR1.setA (k := n) (by omega) none
  have hR3 := hR2.setN (k := n) (by omega) (u := .slice none 0 0) (o := none) rfl
  have c1 : w.cell? ⟨pr, n, none⟩ = some (.int .i64 ((a (n : Int)).getD 0)) := (blk_cell hR1.hp n).trans (hR1.at_ n (by omega))
  have z1 := blk_thaw hR1.hp n
  obtain ⟨u, hu, _⟩ := hR2.new n (by omega)
  have c2 : (w.setCell ⟨pr, n, none⟩ (.int .i64 0)).cell? ⟨pr, 828 + n, none⟩ = some u := (blk_cell hR2.hp (828 + n)).trans hu
  have z2 : (w.setCell ⟨pr, n, none⟩ (.int .i64 0)).frozen? ⟨pr, 828 + n, none⟩ = false := blk_thaw hR2.hp (828 + n)
  obtain ⟨w3, hw3⟩ : ∃ w3, (w.setCell ⟨pr, n, none⟩ (.int .i64 0)).setCell ⟨pr, 828 + n, none⟩ (.slice none 0 0) = w3 := ⟨_, rfl⟩
  have hg3 : w.grownBy w3 (some pr) := by rw [← hw3]; exact (grown_set _ _ _ _).trans (grown_set _ _ _ _)
  have HR3 : Hid (RW w3 pr _ _ _) := Lib.hid (hw3 ▸ hR3)
  have HG3 := Lib.hid hg3
  have HC3 := Lib.hid (C_but hR1.hp hR1.no8 hg3 hC)
  have hno := rnought_calls A c b w3 HC3.out (by omega)
  rw [hb] at hno
  have HNO := Lib.hid hno
  have H56 := Lib.hid hb
  clear hR1 hR2 hR3 hu hg3 hC hno hb h1
  go_enter Tryd.func36, Tryd.ntmps36
  go_wp2_with fail
  refine HNO.out.mono ?_
  rintro e w4 ⟨rfl, rfl⟩
  by_cases hz : tl b 56 = 0
  · rw [decide_eq_true hz]
    have HZ : Hid (tl b b.length = 0) := by show _ = _; rw [H56.out]; exact hz
    clear hz
    go_wp2
    go_ret
    refine ⟨rfl, ?_, HG3.out⟩
    first
      | exact ⟨_, HR3.out⟩
      | (rw [if_pos HZ.out]; exact ⟨_, HR3.out⟩)
  · rw [decide_eq_false hz]
    have HZ : Hid (¬ tl b b.length = 0) := by show ¬ _; rw [H56.out]; exact hz
    clear hz
    have hd3 : Below w3.heap.size w3 w3.drew := below_drew (Below.refl _ _)
    obtain ⟨cs3, hR3d⟩ : RM w3.drew pr _ _ := RM.below ⟨_, HR3.out⟩ hd3
    obtain ⟨u3, hu3, hs3⟩ := hR3d.new n (by omega)
    have hu3' : u3 = .slice none 0 0 := by
      unfold setF at hs3
      rw [if_pos rfl] at hs3
      exact hs3
    subst hu3'
    have c4 : w3.drew.cell? ⟨pr, 828 + n, none⟩ = some (.slice none 0 0) := (blk_cell hR3d.hp (828 + n)).trans hu3
    have z4 : w3.drew.frozen? ⟨pr, 828 + n, none⟩ = false := blk_thaw hR3d.hp (828 + n)
    have HC4 := Lib.hid (Kd.C_below HC3.out hd3)
    have HR4 := Lib.hid hR3d
    have HG4 : Hid (w.grownBy w3.drew (some pr)) := HG3.out.trans ((grown_of_below hd3 none).but _)
    clear hR3d hu3 hs3 hd3
    go_wp2_with fail
    go_region_held3 (fun w' => w'.frozen? ⟨pr, 828 + n, none⟩ = false) (first | exact z4 | exact z5 | exact z6 | go_keep)
      (first | (go_at_call 35; have hcl := moraineref00_CopyBytes.calls A c b b w3.drew HC4.out (by rw [H56.out]; exact hc) (by unfold moraineref00_CopyBytes.f; rw [H56.out]; simp); rw [H56.out] at hcl; refine hcl.mono ?_; clear hcl; rintro e w5 ⟨v5, rfl, hR, hb⟩; obtain ⟨A5, cc5, rfl⟩ := Kd.R_slice hR; have HR5 := Lib.hid hR; obtain ⟨cs5, hq5⟩ := RM.below ⟨_, HR4.out⟩ hb; have HQ5 := Lib.hid hq5; have HG5 : Hid (w.grownBy w5 (some pr)) := HG4.out.trans ((grown_of_below hb none).but _); have c5 : w5.cell? ⟨pr, 828 + n, none⟩ = some (.slice none 0 0) := pw_cell_below hb c4; have z5 : w5.frozen? ⟨pr, 828 + n, none⟩ = false := blk_thaw hq5.hp (828 + n); have z6 : (w5.setCell ⟨pr, 828 + n, none⟩ (.slice A5 b.length cc5)).frozen? ⟨pr, 828 + n, none⟩ = false := blk_thaw (blk_put hq5.hp (828 + n) _ rfl) (828 + n); clear hR hb hq5))
    all_goals
      have hR6 := HQ5.out.setN (k := n) (by omega) (o := some b) (byt_of_R HR5.out H56.out)
      rw [setF_setF] at hR6
      have HR6 := Lib.hid hR6
      have HG6 : Hid (w.grownBy (w5.setCell ⟨pr, 828 + n, none⟩ (.slice A5 b.length cc5)) (some pr)) := HG5.out.trans (grown_set _ _ _ _)
      clear hR6
      go_wp2
      go_ret
      refine ⟨rfl, ?_, HG6.out⟩
      first
        | exact ⟨_, HR6.out⟩
        | (rw [if_neg HZ.out]; exact ⟨_, HR6.out⟩)
end Go.Proofs.YtlkhlmckgpjopaaDoor.Given

/- The reference's map: Fresh, There; by hand. -/
namespace Go.Proofs.YtlkhlmckgpjopaaDoor.Given
open Go.RowKit Go.Maps Go.Sort Go.Shelf Go.Proofs.YtlkhlmckgpjopaaDoorW.PrintWords Go.Proofs.YtlkhlmckgpjopaaDoorW.PrintLast Go.Proofs.YtlkhlmckgpjopaaDoorW.PrintMore Go.Proofs.YtlkhlmckgpjopaaDoor.Base
set_option linter.unusedVariables false
set_option linter.unusedSimpArgs false
theorem infoInt : (Tryd.prog.info? 3).map (fun i => (i.zero, i.size, i.bytes)) = some (some (.int .i64 0), (Kd.int .i64).sz, 8) := by kernel_rfl
/-- The numbers below j of which p holds. -/
def selJ (p : Int → Bool) (j : Nat) : List Int := ((List.range j).filter fun (i : Nat) => p (i : Int)).map fun (i : Nat) => (i : Int)
theorem selJ_yes {p : Int → Bool} {j : Nat} (h : p (j : Int) = true) : selJ p (j + 1) = selJ p j ++ [(j : Int)] := by
  unfold selJ
  rw [List.range_succ, List.filter_append, List.map_append]
  simp [List.filter_cons, h]
theorem selJ_no {p : Int → Bool} {j : Nat} (h : p (j : Int) = false) : selJ p (j + 1) = selJ p j := by
  unfold selJ
  rw [List.range_succ, List.filter_append, List.map_append]
  simp [List.filter_cons, h]
theorem selJ_len (p : Int → Bool) (j : Nat) : (selJ p j).length ≤ j := by
  unfold selJ
  rw [List.length_map]
  exact Nat.le_trans (List.length_filter_le _ _) (by simp)
theorem selJ_rises {p : Int → Bool} {Q : Int → Prop} (hpq : ∀ k, p k = true ↔ Q k) (hb : ∀ k, Q k → 0 ≤ k ∧ k < 828) : Rises (selJ p 828) Q := by
  refine ⟨?_, fun x => ?_⟩
  · unfold selJ
    refine List.pairwise_map.2 ((List.pairwise_lt_range.filter _).imp ?_)
    intro i j h
    omega
  · unfold selJ
    rw [List.mem_map]
    constructor
    · rintro ⟨i, hi, rfl⟩
      rw [List.mem_filter] at hi
      exact (hpq _).1 hi.2
    · intro hq
      have := hb x hq
      refine ⟨x.toNat, List.mem_filter.2 ⟨List.mem_range.2 (by omega), ?_⟩, by omega⟩
      rw [show ((x.toNat : Nat) : Int) = x by omega]
      exact (hpq _).2 hq
set_option maxHeartbeats 4000000 in
set_option maxRecDepth 100000 in
theorem rfresh_calls {w : World} {pr : Nat} {a : Int → Option Int} {f : Int → Option (List Int)} (h : RM w pr a f) (hi : Inv a f) :
    Calls Tryd.prog 42 #[.pointer (some ⟨pr, 0, none⟩)] w fun e w' => ∃ A c L, e = .returned (.slice A L.length c) ∧ L.length ≤ c ∧ L.length ≤ 828 ∧ Kd.C (Kd.int .i64) w' A L.length L ∧ Rises L (fun k => f k ≠ none) ∧ Below w.heap.size w w' := by
  have HM := Lib.hid h
  have HI := Lib.hid hi
  have HB0 := Lib.hid (Below.refl w.heap.size w)
  obtain ⟨P, hP⟩ : ∃ P : Int → Bool, P = (fun k => (f k).isSome) := ⟨_, rfl⟩
  have HP := Lib.hid hP
  clear h hi hP
  go_enter Tryd.func42, Tryd.ntmps42
  go_wp2_with (first | ((with_reducible refine gate_dst (N := 5) rfl ?_); refine Kd.R_lit (Kd.int .i64) (w0 := w) w.heap.size 3 ?hg (N := 5) ?hd (xs := ([] : List Int)) (inner := []) (ok := fun _ => True) (okp := fun _ => True) ?hr ?hp (fun _ hk => hk) trivial (Below.refl _ _) (Nat.le_refl _) (by simp) ?_; (case hd => rfl); (case hg => rfl); (case hr => first | (go_simp; done) | (go_simp; rfl)); (case hp => exact (Reps.none _ _)); intro v3 w3 hR3 hB3 _ _; have HR3 := Lib.hid hR3; have HB3 := Lib.hid hB3; clear hR3 hB3))
  go_loopw [3, 4] (fun v i wr => ∃ (j : Nat), j ≤ 828 ∧ i = .int .i64 j ∧ Hid (Kd.R (Kd.int .i64) 3 wr w.heap.size (fun _ => True) v (selJ P j)) ∧ Hid (Below w.heap.size w wr)) (fun _ i _ => (828 - intOf i).toNat)
  case atStart => exact ⟨0, by omega, rfl, (show selJ P 0 = [] from rfl) ▸ HR3, HB3⟩
  case round =>
    clear HR3 HB3
    rename_i v8 _
    obtain ⟨j, hj, rfl, HR, HB⟩ := hrel
    rcases Nat.lt_or_ge j 828 with hlt | hge
    · have hlt2 : (j : Int) < 828 := by omega
      have hlen : Hid ((selJ P j).length ≤ 828) := by have := selJ_len P j; show _ ≤ _; omega
      obtain ⟨cs, hR1⟩ := HM.out.below HB.out
      obtain ⟨u, hu, hs⟩ := hR1.new j hlt
      obtain ⟨A, n, c, rfl, hn, hn56⟩ := slot_len hs
      have hc := (blk_cell hR1.hp (828 + j)).trans hu
      cases hf : f (j : Int) with
      | none =>
        rw [hf] at hn
        have hn0 : n = 0 := by have : ((n : Int) == 0) = true := hn; have := beq_iff_eq.1 this; omega
        subst hn0
        have HY : Hid (selJ P (j + 1) = selJ P j) := selJ_no (by rw [HP.out]; simp [hf])
        clear hR1 hu hs hf hn
        go_wp2
        go_roundw
        case rel => exact ⟨j + 1, by omega, by simp, by rw [HY.out]; exact HR, HB⟩
        case measure => simp [intOf]; omega
      | some b =>
        rw [hf] at hn
        have hn0 : n ≠ 0 := by have : ((n : Int) == 0) = false := hn; have := beq_eq_false_iff_ne.1 this; omega
        have d0 : decide ((0 : Int) < (n : Int)) = true := decide_eq_true (by omega)
        have hnb : (n : Int) ≤ 56 := by omega
        have HY : Hid (selJ P (j + 1) = selJ P j ++ [(j : Int)]) := selJ_yes (by rw [HP.out]; simp [hf])
        clear hR1 hu hs hf hn
        go_wp2_with (first | ((with_reducible refine gate_builtin (b := .append) (xs := #[.tmp 18, .tmp 20]) rfl ?_); at_builtin; refine Kd.R_append (Kd.int .i64) (w0 := w) w.heap.size rfl (.tmp 18) (.tmp 20) 22 3 (.int .i64 0) 8 rfl Tryd.underlying22 infoInt rfl (by decide) (by omega) _ (selJ P j) (j : Int) [.int .i64 (j : Int)] (fun _ => True) (fun _ => False) rfl rfl ?aP (fun _ hk => hk.elim) ?aF ?aO ?aB ?aS ?aL ?_; (case aP => exact rfl); (case aB => exact HB.out); (case aF => exact (fun _ _ => trivial)); (case aO => exact HR.out); (case aS => exact HB.out.size); (case aL => have := hlen.out; omega); intro v18 w18 ho hb hg hat; have HR18 := Lib.hid ho; have HB18 := Lib.hid hb; clear ho hb hg hat))
        go_roundw
        case rel => exact ⟨j + 1, by omega, by simp, by rw [HY.out]; exact HR18, HB18⟩
        case measure => simp [intOf]; omega
    · obtain rfl : j = 828 := by omega
      obtain ⟨A, c, rfl⟩ := Kd.R_slice HR.out
      have hrr := Kd.R_reads' HR.out
      have HRR := Lib.hid hrr
      have HB2 := HB
      clear hrr
      go_wp2
      go_ret
      refine ⟨A, c, selJ P 828, rfl, HRR.out.2.1, selJ_len P 828, HRR.out.2.2, ?_, HB2.out⟩
      exact selJ_rises (fun k => by rw [HP.out]; cases hf : f k <;> simp [hf]) (fun k hk => HI.out.bdF k hk)
set_option maxHeartbeats 4000000 in
set_option maxRecDepth 100000 in
theorem rthere_calls {w : World} {pr : Nat} {a : Int → Option Int} {f : Int → Option (List Int)} (h : RM w pr a f) (hi : Inv a f) :
    Calls Tryd.prog 43 #[.pointer (some ⟨pr, 0, none⟩)] w fun e w' => ∃ A c L, e = .returned (.slice A L.length c) ∧ L.length ≤ c ∧ L.length ≤ 828 ∧ Kd.C (Kd.int .i64) w' A L.length L ∧ Rises L (fun k => a k ≠ none ∨ f k ≠ none) ∧ Below w.heap.size w w' := by
  have HM := Lib.hid h
  have HI := Lib.hid hi
  have HB0 := Lib.hid (Below.refl w.heap.size w)
  obtain ⟨P, hP⟩ : ∃ P : Int → Bool, P = (fun k => (a k).isSome || (f k).isSome) := ⟨_, rfl⟩
  have HP := Lib.hid hP
  clear h hi hP
  go_enter Tryd.func43, Tryd.ntmps43
  go_wp2_with (first | ((with_reducible refine gate_dst (N := 5) rfl ?_); refine Kd.R_lit (Kd.int .i64) (w0 := w) w.heap.size 3 ?hg (N := 5) ?hd (xs := ([] : List Int)) (inner := []) (ok := fun _ => True) (okp := fun _ => True) ?hr ?hp (fun _ hk => hk) trivial (Below.refl _ _) (Nat.le_refl _) (by simp) ?_; (case hd => rfl); (case hg => rfl); (case hr => first | (go_simp; done) | (go_simp; rfl)); (case hp => exact (Reps.none _ _)); intro v3 w3 hR3 hB3 _ _; have HR3 := Lib.hid hR3; have HB3 := Lib.hid hB3; clear hR3 hB3))
  go_loopw [3, 4] (fun v i wr => ∃ (j : Nat), j ≤ 828 ∧ i = .int .i64 j ∧ Hid (Kd.R (Kd.int .i64) 3 wr w.heap.size (fun _ => True) v (selJ P j)) ∧ Hid (Below w.heap.size w wr)) (fun _ i _ => (828 - intOf i).toNat)
  case atStart => exact ⟨0, by omega, rfl, (show selJ P 0 = [] from rfl) ▸ HR3, HB3⟩
  case round =>
    clear HR3 HB3
    rename_i v8 _
    obtain ⟨j, hj, rfl, HR, HB⟩ := hrel
    rcases Nat.lt_or_ge j 828 with hlt | hge
    · have hlt2 : (j : Int) < 828 := by omega
      have hlen : Hid ((selJ P j).length ≤ 828) := by have := selJ_len P j; show _ ≤ _; omega
      obtain ⟨cs, hR1⟩ := HM.out.below HB.out
      obtain ⟨u, hu, hs⟩ := hR1.new j hlt
      obtain ⟨A, n, c, rfl, hn, hn56⟩ := slot_len hs
      have hc := (blk_cell hR1.hp (828 + j)).trans hu
      have hc2 := (blk_cell hR1.hp j).trans (hR1.at_ j hlt)
      cases hf : f (j : Int) with
      | none =>
        rw [hf] at hn
        have hn0 : n = 0 := by have : ((n : Int) == 0) = true := hn; have := beq_iff_eq.1 this; omega
        subst hn0
        cases ha : a (j : Int) with
        | none =>
          rw [ha] at hc2
          have hc3 : wr.cell? ⟨pr, j, none⟩ = some (.int .i64 0) := hc2
          have HY : Hid (selJ P (j + 1) = selJ P j) := selJ_no (by rw [HP.out]; simp [hf, ha])
          clear hR1 hu hs hf hn ha hc2
          go_wp2
          go_roundw
          case rel => exact ⟨j + 1, by omega, by simp, by rw [HY.out]; exact HR, HB⟩
          case measure => simp [intOf]; omega
        | some x =>
          rw [ha] at hc2
          have hc3 : wr.cell? ⟨pr, j, none⟩ = some (.int .i64 x) := hc2
          have hx := (HI.out.pos (j : Int) x ha).1
          have d1 : decide ((0 : Int) < x) = true := decide_eq_true (by omega)
          have HY : Hid (selJ P (j + 1) = selJ P j ++ [(j : Int)]) := selJ_yes (by rw [HP.out]; simp [hf, ha])
          clear hR1 hu hs hf hn ha hc2 hx
          go_wp2_with (first | ((with_reducible refine gate_builtin (b := .append) (xs := #[.tmp 27, .tmp 29]) rfl ?_); at_builtin; refine Kd.R_append (Kd.int .i64) (w0 := w) w.heap.size rfl (.tmp 27) (.tmp 29) 22 3 (.int .i64 0) 8 rfl Tryd.underlying22 infoInt rfl (by decide) (by omega) _ (selJ P j) (j : Int) [.int .i64 (j : Int)] (fun _ => True) (fun _ => False) rfl rfl ?aP (fun _ hk => hk.elim) ?aF ?aO ?aB ?aS ?aL ?_; (case aP => exact rfl); (case aB => exact HB.out); (case aF => exact (fun _ _ => trivial)); (case aO => exact HR.out); (case aS => exact HB.out.size); (case aL => have := hlen.out; omega); intro v18 w18 ho hb hg hat; have HR18 := Lib.hid ho; have HB18 := Lib.hid hb; clear ho hb hg hat))
          go_roundw
          case rel => exact ⟨j + 1, by omega, by simp, by rw [HY.out]; exact HR18, HB18⟩
          case measure => simp [intOf]; omega
      | some b =>
        rw [hf] at hn
        have hn0 : n ≠ 0 := by have : ((n : Int) == 0) = false := hn; have := beq_eq_false_iff_ne.1 this; omega
        have d0 : decide ((0 : Int) < (n : Int)) = true := decide_eq_true (by omega)
        have hnb : (n : Int) ≤ 56 := by omega
        have HY : Hid (selJ P (j + 1) = selJ P j ++ [(j : Int)]) := selJ_yes (by rw [HP.out]; simp [hf])
        clear hR1 hu hs hf hn hc2
        go_wp2_with (first | ((with_reducible refine gate_builtin (b := .append) (xs := #[.tmp 27, .tmp 29]) rfl ?_); at_builtin; refine Kd.R_append (Kd.int .i64) (w0 := w) w.heap.size rfl (.tmp 27) (.tmp 29) 22 3 (.int .i64 0) 8 rfl Tryd.underlying22 infoInt rfl (by decide) (by omega) _ (selJ P j) (j : Int) [.int .i64 (j : Int)] (fun _ => True) (fun _ => False) rfl rfl ?aP (fun _ hk => hk.elim) ?aF ?aO ?aB ?aS ?aL ?_; (case aP => exact rfl); (case aB => exact HB.out); (case aF => exact (fun _ _ => trivial)); (case aO => exact HR.out); (case aS => exact HB.out.size); (case aL => have := hlen.out; omega); intro v18 w18 ho hb hg hat; have HR18 := Lib.hid ho; have HB18 := Lib.hid hb; clear ho hb hg hat))
        go_roundw
        case rel => exact ⟨j + 1, by omega, by simp, by rw [HY.out]; exact HR18, HB18⟩
        case measure => simp [intOf]; omega
    · obtain rfl : j = 828 := by omega
      obtain ⟨A, c, rfl⟩ := Kd.R_slice HR.out
      have hrr := Kd.R_reads' HR.out
      have HRR := Lib.hid hrr
      have HB2 := HB
      clear hrr
      go_wp2
      go_ret
      refine ⟨A, c, selJ P 828, rfl, HRR.out.2.1, selJ_len P 828, HRR.out.2.2, ?_, HB2.out⟩
      exact selJ_rises (fun k => by rw [HP.out]; cases hf : f k <;> cases ha : a k <;> simp [hf, ha]) (fun k hk => hk.elim (HI.out.bdA k) (HI.out.bdF k))
end Go.Proofs.YtlkhlmckgpjopaaDoor.Given
