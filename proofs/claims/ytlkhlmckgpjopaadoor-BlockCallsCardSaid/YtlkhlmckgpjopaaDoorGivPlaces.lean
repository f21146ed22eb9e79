/- What BlockPlaces' walk wants: a rising list within bounds is short; by hand. -/
import Derived.Test.YtlkhlmckgpjopaaDoorGivPuts
namespace Go.Proofs.YtlkhlmckgpjopaaDoor.Given
open Go.RowKit Go.Maps Go.Sort Go.Shelf Go.Proofs.YtlkhlmckgpjopaaDoorW.PrintWords Go.Proofs.YtlkhlmckgpjopaaDoorW.PrintLast Go.Proofs.YtlkhlmckgpjopaaDoorW.PrintMore Go.Proofs.YtlkhlmckgpjopaaDoor.Base
set_option linter.unusedVariables false
set_option linter.unusedSimpArgs false
theorem rising_short : ∀ (L : List Int) (lo hi : Int), L.Pairwise (· < ·) → (∀ x ∈ L, lo ≤ x ∧ x < hi) → lo ≤ hi → (L.length : Int) ≤ hi - lo
  | [], lo, hi, _, _, h => by simp; omega
  | x :: L, lo, hi, h1, h2, h => by
    rw [List.pairwise_cons] at h1
    have hx := h2 x (by simp)
    have := rising_short L (x + 1) hi h1.2 (fun y hy => ⟨by have := h1.1 y hy; omega, (h2 y (by simp [hy])).2⟩) (by omega)
    rw [List.length_cons]
    omega
set_option maxRecDepth 100000 in
set_option maxHeartbeats 2000000 in
/-- Put: no block's number, or no block's bytes. -/
theorem put_bad2 {w : World} (p : Nat) (k : Int) (A : Option Addr) (n c : Nat) (hn : n ≤ 9223372036854775807) (h : k < 0 ∨ 828 ≤ k ∨ n ≠ 56) :
    Calls Tryd.prog 10 #[.pointer (some ⟨p, 0, none⟩), .int .i64 k, .slice A n c] w fun e w' => e = .returned (.int .i64 28) ∧ w = w' := by
  by_cases h0 : k < 0
  · go_enter Tryd.func10, Tryd.ntmps10
    go_wp2
    go_ret
    exact ⟨rfl, rfl⟩
  · have d0 : decide (k < 0) = false := decide_eq_false h0
    by_cases h1 : 828 ≤ k
    · have d1 : decide (828 ≤ k) = true := decide_eq_true h1
      clear h0
      go_enter Tryd.func10, Tryd.ntmps10
      go_wp2
      go_ret
      exact ⟨rfl, rfl⟩
    · have d1 : decide (828 ≤ k) = false := decide_eq_false h1
      have hn : ((n : Int) != 56) = true := bne_iff_ne.2 (by omega)
      clear h h0 h1
      go_enter Tryd.func10, Tryd.ntmps10
      go_wp2
      go_ret
      exact ⟨rfl, rfl⟩
/-- The blocks of cells are as they were. -/
def Cells (w w1 : World) : Prop := ∀ (b : Nat) (cs : Array Value) (t : Nat) (z : Nat × Nat), w.heap[b]? = some (.cells cs t z) → w1.heap[b]? = w.heap[b]?
theorem Cells.refl (w : World) : Cells w w := fun _ _ _ _ _ => rfl
theorem Cells.trans {w w1 w2 : World} (h : Cells w w1) (k : Cells w1 w2) : Cells w w2 := fun b cs t z e => (k b cs t z ((h b cs t z e).trans e)).trans (h b cs t z e)
theorem Cells.of_below {w w1 : World} (h : Below w.heap.size w w1) : Cells w w1 := fun b cs t z e => (blk_below (o := .cells cs t z) e h).trans e.symm
theorem Cells.C {k : IntKind} {w w1 : World} {A : Option Addr} {n : Nat} {xs : List Int} (hk : Cells w w1) (h : Kd.C (Kd.int k) w A n xs) : Kd.C (Kd.int k) w1 A n xs := by
  refine ⟨h.1, h.2.1, fun hn => ?_⟩
  obtain ⟨ad, e, hc⟩ := h.2.2 hn
  refine ⟨ad, e, fun j p hj => ?_⟩
  obtain ⟨c, hs, hr, hcell⟩ := hc j p hj
  refine ⟨c, hs, hr, fun i u hu => ?_⟩
  have h0 := hcell i u hu
  rw [← h0]
  refine cell_block ?_
  rw [addr_block]
  unfold World.cell? at h0
  rw [addr_block] at h0
  cases hb : w.heap[ad.block]? with
  | none => rw [hb] at h0; simp at h0
  | some o =>
    cases o with
    | cells cs t z => rw [hk _ cs t z hb]; exact hb
    | _ => rw [hb] at h0; simp at h0
set_option maxRecDepth 100000 in
set_option maxHeartbeats 2000000 in
/-- Place: a new block is at an address. -/
theorem place_yesC {w : World} {base p N : Nat} {a : Int → Option Int} {f : Int → Option (List Int)} (h : BM w base p N a f) (hN : N < 1000000) (k to_ : Int) (hk : (Lit.int .i64 k).wf = true) (r : List Int) (hr : f k = some r) (h1 : 1 ≤ to_) (h2 : to_ ≤ 65535) :
    Calls Tryd.prog 13 #[.pointer (some ⟨p, 0, none⟩), .int .i64 k, .int .i64 to_] w fun e w' => e = .returned (.int .i64 0) ∧ BM w' base p (N + 1) (setF a k (some to_)) (setF f k none) ∧ Below base w w' ∧ Cells w w' := by
  obtain ⟨bA, bF, DA, DF, mF, hB⟩ := h
  have c0 : w.cell? ⟨p, 1, none⟩ = some (.map (some bF)) := (blk_cell hB.hp 1).trans rfl
  have hu := Tryd.underlying61
  obtain ⟨u, hu1, _⟩ := (hB.el k).2 r hr
  have HB := Lib.hid hB
  have HK := Lib.hid hk
  have HV : Hid ((mF k).getD (.slice none 0 0) = u ∧ (mF k).isSome = true) := by show _ ∧ _; rw [hu1]; exact ⟨rfl, rfl⟩
  have HBE := Lib.hid (Below.refl base w)
  clear hB hk hu1 hr
  go_enter Tryd.func13, Tryd.ntmps13
  go_wp2_with (first | (at_lookup; refine wp_look_ok _ rfl _ _ 59 rfl 3 30 law3 Tryd.underlying59 (zeroS _) bF N DF _ rfl HB.out.oF HB.out.hF k rfl (keyOf_int_mk Tryd.underlying3 HK.out) ?_; rw [HV.out.1, HV.out.2]) | (go_at_call 26; refine (addr_yes to_ _ h1 h2).mono ?_; rintro e w1 ⟨rfl, rfl⟩) | (at_delete; refine wp_del _ rfl _ _ 59 3 rfl 30 law3 Tryd.underlying59 bF N DF _ rfl HB.out.oF HB.out.hF k rfl (keyOf_int_mk Tryd.underlying3 HK.out) ?_; intro w2 D2 ho2 hh2 hg2; have HB2 := Lib.hid (HB.out.turnF (Nat.le_refl _) hg2 ho2 hh2 (el_del HB.out.el k)); have HX2 : Hid (Cells w w2) := map_cells HB.out.oF hg2; have HE2 : Hid (Below base w w2) := HBE.out.grown hg2 (Nat.le_trans HB.out.bp (Nat.le_of_lt (blk_lt HB.out.hp))) (fun q e => by cases e; exact HB.out.bf); have c02 : w2.cell? ⟨p, 0, none⟩ = some (.map (some bA)) := (blk_cell HB2.out.hp 0).trans rfl; clear ho2 hh2 hg2) | (at_mapUpdate; refine wp_upd _ rfl _ _ _ 57 rfl 3 3 law3 Tryd.underlying57 bA N DA _ rfl HB2.out.oA HB2.out.hA (by unfold maxLen; omega) k (.int .i64 to_) rfl rfl (keyOf_int_mk Tryd.underlying3 HK.out) ?_; intro w3 D3 ho3 hh3 hg3; have HB3 := Lib.hid (HB2.out.turnA (Nat.le_succ _) hg3 ho3 (hA_set (a := a) (k := k) (v := some to_) hh3 (fun j => rfl))); have HX3 : Hid (Cells w w3) := HX2.out.trans (map_cells HB2.out.oA hg3); have HE3 : Hid (Below base w w3) := HE2.out.grown hg3 (Nat.le_trans HB2.out.bp (Nat.le_of_lt (blk_lt HB2.out.hp))) (fun q e => by cases e; exact HB2.out.ba); clear ho3 hh3 hg3))
  go_ret
  exact ⟨rfl, ⟨_, _, _, _, _, HB3.out⟩, HE3.out, HX3.out⟩
/-- No block is both at an address and new; each new one has a number of its kind. -/
structure Apart (a : Int → Option Int) (f : Int → Option (List Int)) : Prop where
  no : ∀ k, f k ≠ none → a k = none
  bd : ∀ k, f k ≠ none → 0 ≤ k ∧ k < 828
theorem Apart.start (a : Int → Option Int) : Apart a (fun _ => none) := ⟨fun k h => absurd rfl h, fun k h => absurd rfl h⟩
theorem Apart.put {a : Int → Option Int} {f : Int → Option (List Int)} (h : Apart a f) (k : Int) (h0 : 0 ≤ k) (h1 : k < 828) (v : Option (List Int)) : Apart (setF a k none) (setF f k v) := by
  refine ⟨fun j hj => ?_, fun j hj => ?_⟩
  · unfold setF at hj ⊢
    by_cases e : j = k
    · rw [if_pos e]
    · rw [if_neg e] at hj ⊢; exact h.no j hj
  · unfold setF at hj
    by_cases e : j = k
    · subst e; exact ⟨h0, h1⟩
    · rw [if_neg e] at hj; exact h.bd j hj
/-- Behind i placings of the new blocks L. -/
structure Placed (L : List Int) (P : Int → Prop) (i : Nat) (a : Int → Option Int) (f : Int → Option (List Int)) : Prop where
  fr : ∀ k, f k ≠ none ↔ k ∈ L.drop i
  at_ : ∀ j, j < i → j < L.length → a (L.getD j 0) = some (100 + (j : Int))
  th : ∀ k, (a k ≠ none ∨ f k ≠ none) ↔ P k
  no : ∀ k, f k ≠ none → a k = none
theorem Placed.step {L : List Int} {P : Int → Prop} {i : Nat} {a : Int → Option Int} {f : Int → Option (List Int)} (h : Placed L P i a f) (hi : i < L.length) (hu : L.Pairwise (· < ·)) : Placed L P (i + 1) (setF a (L.getD i 0) (some (100 + (i : Int)))) (setF f (L.getD i 0) none) := by
  obtain ⟨x, hx⟩ : ∃ x, L.getD i 0 = x := ⟨_, rfl⟩
  have hx' : L[i] = x := by rw [← hx]; simp [hi]
  have hd : L.drop i = x :: L.drop (i + 1) := by rw [← hx']; exact List.drop_eq_getElem_cons hi
  have hu2 : (x :: L.drop (i + 1)).Pairwise (· < ·) := hd ▸ hu.sublist (List.drop_sublist i L)
  have hxn : x ∉ L.drop (i + 1) := fun k => by have := (List.pairwise_cons.1 hu2).1 x k; omega
  have hxf : f x ≠ none := (h.fr x).2 (by rw [hd]; simp)
  rw [hx]
  refine ⟨fun k => ?_, fun j hj hl => ?_, fun k => ?_, fun k hk => ?_⟩
  · unfold setF
    by_cases e : k = x
    · subst e; rw [if_pos rfl]; exact ⟨fun q => absurd rfl q, fun q => absurd q hxn⟩
    · rw [if_neg e, h.fr k, hd, List.mem_cons]; exact ⟨fun q => q.resolve_left e, .inr⟩
  · unfold setF
    by_cases e : j = i
    · subst e; rw [hx, if_pos rfl]
    · have hne : L.getD j 0 ≠ x := by
        have e1 : L.getD j 0 = L[j] := by simp [hl]
        have := (List.pairwise_iff_getElem.1 hu) j i hl hi (by omega)
        rw [e1]; omega
      rw [if_neg hne]; exact h.at_ j (by omega) hl
  · rw [← h.th k]
    unfold setF
    by_cases e : k = x
    · subst e; rw [if_pos rfl, if_pos rfl]; exact ⟨fun _ => .inr hxf, fun _ => .inl (by simp)⟩
    · rw [if_neg e, if_neg e]
  · unfold setF at hk ⊢
    by_cases e : k = x
    · rw [if_pos e] at hk; exact absurd rfl hk
    · rw [if_neg e] at hk ⊢; exact h.no k hk
end Go.Proofs.YtlkhlmckgpjopaaDoor.Given
