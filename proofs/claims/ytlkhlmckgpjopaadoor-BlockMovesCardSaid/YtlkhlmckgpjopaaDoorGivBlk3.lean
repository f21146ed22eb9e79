/- block.Map: Place: by hand. -/
import Derived.Test.YtlkhlmckgpjopaaDoorGivBlk2
namespace Go.Proofs.YtlkhlmckgpjopaaDoor.Given
open Go.RowKit Go.Maps Go.Proofs.YtlkhlmckgpjopaaDoorW.PrintWords Go.Proofs.YtlkhlmckgpjopaaDoorW.PrintLast Go.Proofs.YtlkhlmckgpjopaaDoorW.PrintMore Go.Proofs.YtlkhlmckgpjopaaDoor.Base
set_option linter.unusedVariables false
set_option linter.unusedSimpArgs false
theorem wf_i {k : Int} (h0 : 0 ≤ k) (h1 : k ≤ 4611686018427387904) : (Lit.int .i64 k).wf = true := WalkArith.wf_i64 (by omega)
theorem el_del {w : World} {mF : Int → Option Value} {f : Int → Option (List Int)} (h : ∀ k, (f k = none → mF k = none) ∧ ∀ r, f k = some r → ∃ u, mF k = some u ∧ Byt56 w u r) (k : Int) : ∀ j, (setF f k none j = none → (if j = k then none else mF j) = none) ∧ ∀ r, setF f k none j = some r → ∃ u, (if j = k then none else mF j) = some u ∧ Byt56 w u r := by
  intro j
  unfold setF
  by_cases e : j = k
  · rw [if_pos e, if_pos e]; exact ⟨fun _ => rfl, fun r h => by cases h⟩
  · rw [if_neg e, if_neg e]; exact h j
theorem el_put {w : World} {mF : Int → Option Value} {f : Int → Option (List Int)} (h : ∀ k, (f k = none → mF k = none) ∧ ∀ r, f k = some r → ∃ u, mF k = some u ∧ Byt56 w u r) (k : Int) (u : Value) (r : List Int) (hu : Byt56 w u r) : ∀ j, (setF f k (some r) j = none → (if j = k then some u else mF j) = none) ∧ ∀ r1, setF f k (some r) j = some r1 → ∃ v, (if j = k then some u else mF j) = some v ∧ Byt56 w v r1 := by
  intro j
  unfold setF
  by_cases e : j = k
  · rw [if_pos e, if_pos e]; exact ⟨fun h => by (cases h), fun r1 h => by cases h; exact ⟨u, rfl, hu⟩⟩
  · rw [if_neg e, if_neg e]; exact h j
theorem hA_set {DA : DataW Value} {a : Int → Option Int} {k : Int} {v : Option Int} {m : Int → Option Value} (h : Holds DA m) (e : ∀ j, m j = if j = k then v.map (Value.int .i64) else (a j).map (Value.int .i64)) : Holds DA (fun j => (setF a k v j).map (Value.int .i64)) := by
  rw [map_set]
  have : m = fun j => if j = k then v.map (Value.int .i64) else (a j).map (Value.int .i64) := funext e
  rwa [← this]
theorem addr_yes (n : Int) (w : World) (h1 : 1 ≤ n) (h2 : n ≤ 65535) : Calls Tryd.prog 26 #[.int .i64 n] w fun e w' => e = .returned (.bool true) ∧ w = w' := by
  go_enter Tryd.func26, Tryd.ntmps26
  go_wp2
  go_ret
  exact ⟨rfl, rfl⟩
theorem addr_no (n : Int) (w : World) (h : n < 1 ∨ 65535 < n) : Calls Tryd.prog 26 #[.int .i64 n] w fun e w' => e = .returned (.bool false) ∧ w = w' := by
  rcases h with h | h
  · have h' : decide (1 ≤ n) = false := decide_eq_false (by omega)
    go_enter Tryd.func26, Tryd.ntmps26
    go_wp2
    go_ret
    exact ⟨rfl, rfl⟩
  · have h' : 1 ≤ n := by omega
    have h'' : decide (n ≤ 65535) = false := decide_eq_false (by omega)
    go_enter Tryd.func26, Tryd.ntmps26
    go_wp2
    go_ret
    exact ⟨rfl, rfl⟩
set_option maxRecDepth 100000 in
set_option maxHeartbeats 2000000 in
/-- Place: a new block is at an address. -/
theorem place_yes {w : World} {base p N : Nat} {a : Int → Option Int} {f : Int → Option (List Int)} (h : BM w base p N a f) (hN : N < 1000000) (k to_ : Int) (hk : (Lit.int .i64 k).wf = true) (r : List Int) (hr : f k = some r) (h1 : 1 ≤ to_) (h2 : to_ ≤ 65535) :
    Calls Tryd.prog 13 #[.pointer (some ⟨p, 0, none⟩), .int .i64 k, .int .i64 to_] w fun e w' => e = .returned (.int .i64 0) ∧ BM w' base p (N + 1) (setF a k (some to_)) (setF f k none) ∧ Below base w w' := by
  obtain ⟨bA, bF, DA, DF, mF, hB⟩ := h
  have c0 : w.cell? ⟨p, 1, none⟩ = some (.map (some bF)) := (blk_cell hB.hp 1).trans rfl
  have hu := Tryd.underlying61
  obtain ⟨u, hu1, _⟩ := (hB.el k).2 r hr
  have HB := Lib.hid hB
  have HK := Lib.hid hk
  have HV : Hid ((mF k).getD (.slice none 0 0) = u ∧ (mF k).isSome = true) := by show _ ∧ _; rw [hu1]; exact ⟨rfl, rfl⟩
  have HBE := Lib.hid (Below.refl base w)
  clear hB hk hu1 hr
  go_enter Tryd.func13, Tryd.ntmps13
  go_wp2_with (first | (at_lookup; refine wp_look_ok _ rfl _ _ 59 rfl 3 30 law3 Tryd.underlying59 (zeroS _) bF N DF _ rfl HB.out.oF HB.out.hF k rfl (keyOf_int_mk Tryd.underlying3 HK.out) ?_; rw [HV.out.1, HV.out.2]) | (go_at_call 26; refine (addr_yes to_ _ h1 h2).mono ?_; rintro e w1 ⟨rfl, rfl⟩) | (at_delete; refine wp_del _ rfl _ _ 59 3 rfl 30 law3 Tryd.underlying59 bF N DF _ rfl HB.out.oF HB.out.hF k rfl (keyOf_int_mk Tryd.underlying3 HK.out) ?_; intro w2 D2 ho2 hh2 hg2; have HB2 := Lib.hid (HB.out.turnF (Nat.le_refl _) hg2 ho2 hh2 (el_del HB.out.el k)); have HE2 : Hid (Below base w w2) := HBE.out.grown hg2 (Nat.le_trans HB.out.bp (Nat.le_of_lt (blk_lt HB.out.hp))) (fun q e => by cases e; exact HB.out.bf); have c02 : w2.cell? ⟨p, 0, none⟩ = some (.map (some bA)) := (blk_cell HB2.out.hp 0).trans rfl; clear ho2 hh2 hg2) | (at_mapUpdate; refine wp_upd _ rfl _ _ _ 57 rfl 3 3 law3 Tryd.underlying57 bA N DA _ rfl HB2.out.oA HB2.out.hA (by unfold maxLen; omega) k (.int .i64 to_) rfl rfl (keyOf_int_mk Tryd.underlying3 HK.out) ?_; intro w3 D3 ho3 hh3 hg3; have HB3 := Lib.hid (HB2.out.turnA (Nat.le_succ _) hg3 ho3 (hA_set (a := a) (k := k) (v := some to_) hh3 (fun j => rfl))); have HE3 : Hid (Below base w w3) := HE2.out.grown hg3 (Nat.le_trans HB2.out.bp (Nat.le_of_lt (blk_lt HB2.out.hp))) (fun q e => by cases e; exact HB2.out.ba); clear ho3 hh3 hg3))
  go_ret
  exact ⟨rfl, ⟨_, _, _, _, _, HB3.out⟩, HE3.out⟩
set_option maxRecDepth 100000 in
set_option maxHeartbeats 2000000 in
theorem place_no {w : World} {base p N : Nat} {a : Int → Option Int} {f : Int → Option (List Int)} (h : BM w base p N a f) (k to_ : Int) (hk : (Lit.int .i64 k).wf = true) (hr : f k = none) :
    Calls Tryd.prog 13 #[.pointer (some ⟨p, 0, none⟩), .int .i64 k, .int .i64 to_] w fun e w' => e = .returned (.int .i64 28) ∧ w = w' := by
  obtain ⟨bA, bF, DA, DF, mF, hB⟩ := h
  have c0 : w.cell? ⟨p, 1, none⟩ = some (.map (some bF)) := (blk_cell hB.hp 1).trans rfl
  have hu := Tryd.underlying61
  have hu1 := (hB.el k).1 hr
  have HB := Lib.hid hB
  have HK := Lib.hid hk
  have HV : Hid ((mF k).getD (.slice none 0 0) = .slice none 0 0 ∧ (mF k).isSome = false) := by show _ ∧ _; rw [hu1]; exact ⟨rfl, rfl⟩
  clear hB hk hu1 hr
  go_enter Tryd.func13, Tryd.ntmps13
  go_wp2_with (first | (at_lookup; refine wp_look_ok _ rfl _ _ 59 rfl 3 30 law3 Tryd.underlying59 (zeroS _) bF N DF _ rfl HB.out.oF HB.out.hF k rfl (keyOf_int_mk Tryd.underlying3 HK.out) ?_; rw [HV.out.1, HV.out.2]))
  go_ret
  exact ⟨rfl, rfl⟩
end Go.Proofs.YtlkhlmckgpjopaaDoor.Given
