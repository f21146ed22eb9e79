/- tree.met of a root alone: by hand. -/
import Derived.Test.YtfkkhobbmcepmaaDoorGivRoot2
namespace Go.Proofs.YtfkkhobbmcepmaaDoor.Given
open Go.RowKit Go.Shelf Go.Maps Go.Proofs.YtfkkhobbmcepmaaDoorW.PrintWords Go.Proofs.YtfkkhobbmcepmaaDoorW.PrintLast Go.Proofs.YtfkkhobbmcepmaaDoorW.PrintMore Go.Proofs.YtfkkhobbmcepmaaDoor.Base
set_option linter.unusedVariables false
set_option linter.unusedSimpArgs false
attribute [local go_sem] Oper.semAt_some
theorem int_slice {w : World} {base : Nat} {v : Value} {L : List Int} (h : w.ownsRow base 3 1 v L.length (encs (Value.int .i64) L)) : ∃ A c, v = .slice A L.length c ∧ L.length ≤ c ∧ Kd.C (Kd.int .i64) w A L.length L :=
  Kd.R_reads (Kd.R_of_own (h1 := fun _ => rfl) (ok := fun _ => True) h (fun _ _ => trivial))
theorem back_calls (w : World) : Calls Tryd.prog 43 #[.slice none 0 0] w fun e w' => e = .returned (.func (.func 52) #[] #[.pointer (some ⟨w.heap.size, 0, none⟩)]) ∧ w' = w.alloc (.cells #[.slice none 0 0] 48) := by
  go_enter Tryd.func43, Tryd.ntmps43
  go_wp2
  go_ret
  exact ⟨rfl, rfl⟩
theorem back1 (n l B : Nat) (W : World) (h : W.cell? ⟨B, 0, none⟩ = some (.slice none 0 0)) :
    CallsIn Fence.wide n Tryd.prog 52 #[.func (.yield l) #[] #[], .pointer (some ⟨B, 0, none⟩)] W fun e W' => (∃ v, e = .returned v) ∧ W = W' := by
  refine callsIn_of_wp Tryd.func52 rfl trivial ?_ rfl
  simp only [Tryd.ntmps52, List.size_toArray, List.length_cons, List.length_nil, Nat.reduceAdd, Nat.reduceSub, Array.replicate_succ, Array.replicate_zero, List.push_toArray, List.append_toArray, List.nil_append, List.cons_append]
  gi_wp2
  refine wpIn_loop_rounds 1 ?_
  rw [roundsIn_succ]
  gi_wp2
  go_end0
  exact ⟨⟨_, rfl⟩, rfl⟩
theorem back_stops (n B : Nat) (Kp : World → World → Prop) (w : World) (h : w.cell? ⟨B, 0, none⟩ = some (.slice none 0 0)) :
    SeqStopsK Fence.wide n Tryd.prog 52 #[.pointer (some ⟨B, 0, none⟩)] (fun x : Empty => (#[] : Array Value)) Kp (fun ys => ys = []) (fun pre => False) 0 w := fun l J Jx W hW hJ hJx hY hJ0 => by
  refine (back1 n l B W (pw_cell_below hW h)).mono ?_
  rintro e W' ⟨hv, rfl⟩
  exact ⟨hv, .inl ⟨_, rfl, hJ0⟩⟩
theorem lawI : Keyed Tryd.prog 3 := int_keyed Tryd.underlying3
def tok (v : Value) : DataW Value := .held v
def tokR (v : Value) : Option (DataW Value × List MemPlace) := some (tok v, [])
theorem tokR_of {v u : Value} {ps : List MemPlace} (h : tokR v = some (tok u, ps)) : v = u := by
  unfold tokR at h
  injection h with h
  have := congrArg Prod.fst h
  injection this
theorem zeroB (w : World) : (zeroValue 4).run Tryd.prog w = .ok (.bool false) w := by kernel_rfl
theorem look0 {w : World} {b n : Nat} (hown : w.ownsMap Tryd.prog 3 tokR b n (.map [])) (k : Int) (hk : (Lit.int .i64 k).wf = true) : (Instr.lookup 52 (.map (some b)) (.int .i64 k) false).run Tryd.prog w = .ok (.bool false) w := by
  obtain ⟨v, ps, hrun, hv⟩ := hown.lookup lawI Tryd.underlying52 (zeroB w) (zd := tok (.bool false)) (zp := []) rfl (keyOf_int_mk Tryd.underlying3 hk)
  rw [atKey_of_not_has (by simp [has_eq])] at hv
  rw [hrun, tokR_of hv]
set_option maxRecDepth 100000 in
set_option maxHeartbeats 4000000 in
theorem met_calls (p : Nat) (wd : World) (hR : Root p wd) : Calls Tryd.prog 31 #[treeV p] wd fun e w' => ∃ g c, e = .returned (.slice (some ⟨g, 0, none⟩) 1 c) ∧ w'.cell? ⟨g, 0, none⟩ = some (.int .i64 0) ∧ Below wd.heap.size wd w' := by
  obtain ⟨i0, hi, hz0, hz1, hz2⟩ := info_parts infoInt1
  have hmm := @run_makeMap Tryd.prog
  have kR := Lib.hid hR
  refine (callsIn_wide (n := 3)).1 ?_
  refine callsIn_of_wp_marks Tryd.func31 rfl trivial ?_ rfl
  simp only [Tryd.ntmps31, List.size_toArray, List.length_cons, List.length_nil, Nat.reduceAdd, Nat.reduceSub, Array.replicate_succ, Array.replicate_zero, List.push_toArray, List.append_toArray, List.nil_append, List.cons_append]
  have hT := (((Boxed.new wd 34 (.slice (some ⟨p, 0, none⟩) 1 1)).alloc (.map #[] 0)).alloc (.cells #[.int .i64 0] 3)).alloc (.cells #[.slice (some ⟨wd.heap.size + 2, 0, none⟩) 1 1] 24)
  have hM : ((((wd.alloc (.cells #[.slice (some ⟨p, 0, none⟩) 1 1] 34)).alloc (.map #[] 0)).alloc (.cells #[.int .i64 0] 3)).alloc (.cells #[.slice (some ⟨wd.heap.size + 2, 0, none⟩) 1 1] 24)).ownsMap Tryd.prog 3 tokR (wd.heap.size + 1) 0 (.map []) := by
    have := ((World.ownsMap_made (wd.alloc (.cells #[.slice (some ⟨p, 0, none⟩) 1 1] 34)) Tryd.prog 3 tokR).alloc (.cells #[.int .i64 0] 3)).alloc (.cells #[.slice (some ⟨wd.heap.size + 2, 0, none⟩) 1 1] 24)
    rw [World.size_alloc] at this
    exact this
  have hA := (Boxed.new ((wd.alloc (.cells #[.slice (some ⟨p, 0, none⟩) 1 1] 34)).alloc (.map #[] 0)) 3 (.int .i64 0)).alloc (.cells #[.slice (some ⟨wd.heap.size + 2, 0, none⟩) 1 1] 24)
  have hX := Boxed.new (((wd.alloc (.cells #[.slice (some ⟨p, 0, none⟩) 1 1] 34)).alloc (.map #[] 0)).alloc (.cells #[.int .i64 0] 3)) 24 (.slice (some ⟨wd.heap.size + 2, 0, none⟩) 1 1)
  have hB0 : Below wd.heap.size wd ((((wd.alloc (.cells #[.slice (some ⟨p, 0, none⟩) 1 1] 34)).alloc (.map #[] 0)).alloc (.cells #[.int .i64 0] 3)).alloc (.cells #[.slice (some ⟨wd.heap.size + 2, 0, none⟩) 1 1] 24)) := (((((Below.refl _ wd).alloc (Nat.le_refl _) _).alloc (by simp) _).alloc (by simp; omega) _).alloc (by simp; omega) _)
  simp only [World.size_alloc] at hA hX
  gi_wp2
  obtain ⟨W0, hW0⟩ : ∃ W0, ((((wd.alloc (.cells #[.slice (some ⟨p, 0, none⟩) 1 1] 34)).alloc (.map #[] 0)).alloc (.cells #[.int .i64 0] 3)).alloc (.cells #[.slice (some ⟨wd.heap.size + 2, 0, none⟩) 1 1] 24)) = W0 := ⟨_, rfl⟩
  rw [hW0] at hT hM hA hX hB0
  have e1 : wd.heap.size + 1 + 1 = wd.heap.size + 2 := rfl
  rw [show ((((wd.alloc (.cells #[.slice (some ⟨p, 0, none⟩) 1 1] 34)).alloc (.map #[] 0)).alloc (.cells #[.int .i64 0] 3)).alloc (.cells #[.slice (some ⟨wd.heap.size + 1 + 1, 0, none⟩) 1 1] 24)) = W0 from hW0]
  have hR0 := kR.out.below hB0
  have hset := grownBy_setCell' W0 (wd.heap.size + 1 + 1 + 1) (.slice (some ⟨wd.heap.size + 2, 0, none⟩) 0 1)
  have hX1 := hX.set (.slice (some ⟨wd.heap.size + 2, 0, none⟩) 0 1)
  obtain ⟨W1, hW1⟩ : ∃ W1, W0.setCell ⟨wd.heap.size + 1 + 1 + 1, 0, none⟩ (.slice (some ⟨wd.heap.size + 2, 0, none⟩) 0 1) = W1 := ⟨_, rfl⟩
  rw [hW1] at hX1 hset
  have hM1 := hM.kept hset (fun e => by have := Option.some.inj e; omega)
  have hT1 := hT.kept hset (fun e => by have := Option.some.inj e; omega)
  have hB1 := hB0.grown hset hB0.size (fun k e => by cases e; omega)
  have hR1 : Root p W1 := (hset.block p (Array.getElem?_eq_some_iff.1 hR0).1 (fun e => by have := Option.some.inj e; have := (Array.getElem?_eq_some_iff.1 hR).1; omega)).trans hR0
  have lk := look0 hM1 0 (by decide)
  have cx := hX.cell
  have fx := hX.frozen
  have ca := hA.cell
  clear hmm hW0
  refine wpIn_loop_rounds 2 ?_
  rw [roundsIn_succ]
  gi_wp2_with (first
    | (gi_at_mapUpdate; refine wpListIn_mapUpdate_own _ rfl _ _ _ 52 rfl 3 4 lawI Tryd.underlying52 tokR (wd.heap.size + 1) 0 (.map []) rfl hM1 (by unfold maxLen; omega) _ (.bool true) (.int .i64 0) rfl rfl (keyOf_int_mk Tryd.underlying3 (by decide)) (tok (.bool true)) [] rfl ?_; intro W2 hM2 hg2; have hX2 := hX1.kept hg2 (fun e => by have := Option.some.inj e; omega); have hT2 := hT1.kept hg2 (fun e => by have := Option.some.inj e; omega); have hB2 := hB1.grown hg2 hB1.size (fun k e => by cases e; omega); have hR2 : Root p W2 := (hg2.block p (Array.getElem?_eq_some_iff.1 hR1).1 (fun e => by have := Option.some.inj e; have := (Array.getElem?_eq_some_iff.1 hR).1; omega)).trans hR1)
    | (gi_at_builtin; refine wpListIn_append_own _ rfl _ _ 24 rfl wd.heap.size 3 i0 (.int .i64 0) 1 8 Tryd.underlying24 hi hz0 hz1 hz2 rfl (by decide) _ _ _ rfl (World.ownsRow_nil _ _ _ _) ⟨W2.heap.size, 0, none⟩ 1 1 [.int .i64 0] rfl rfl (cell_one_new _ _ _) (by simp [Value.oneCell']) (by unfold maxLen; omega) (by omega) (by have := hB2.size; simp; omega) ?_; intro v' W3 hown3 hg3 _; obtain ⟨g', cap', rfl⟩ := ownsRow_succ hown3; have hb3 : Below W2.heap.size W2 W3 := ((Below.refl _ W2).alloc (Nat.le_refl _) (.cells #[.int .i64 0] 3)).grown hg3 (by simp) (fun k e => by cases e); have hX3 : Boxed W3 _ _ _ := blk_below hX2 hb3; have hT3 : Boxed W3 _ _ _ := blk_below hT2 hb3; have hR3 := hR2.below hb3; have hB3 := hB2.trans (hb3.mono hB2.size); have ct := hT3.cell; have c3 : W3.cell? ⟨p, 3, none⟩ = some (.slice none 0 0) := hR3.at_ 3 rfl)
    | (refine ⟨trivial, ?_⟩; gi_at_call 43; refine (callsIn_wide.2 (back_calls _)).mono ?_; rintro e w' ⟨rfl, rfl⟩))
  have hb4 : Below W3.heap.size W3 (W3.alloc (.cells #[.slice none 0 0] 48)) := (Below.refl _ W3).alloc (Nat.le_refl _) _
  have hX4 := blk_below hX3 hb4
  have hB4 := hB3.trans (hb4.mono hB3.size)
  have hO4 := hown3.kept (grown_of_below hb4 none) (.inr (by simp [Value.ownBlock]))
  have cB : (W3.alloc (.cells #[.slice none 0 0] 48)).cell? ⟨W3.heap.size, 0, none⟩ = some (.slice none 0 0) := (blk_cell (blk_new W3 _) 0).trans rfl
  obtain ⟨B, hBe⟩ : ∃ B, W3.heap.size = B := ⟨_, rfl⟩
  obtain ⟨W4, hW4⟩ : ∃ W4, W3.alloc (.cells #[.slice none 0 0] 48) = W4 := ⟨_, rfl⟩
  rw [hW4] at hb4 hX4 hB4 hO4 cB ⊢
  rw [hBe] at cB
  refine wpIn_rangeFunc_ownG (w0 := W4) rfl (by decide) (gf := 52) (lb := #[.pointer (some ⟨B, 0, none⟩)]) (by rw [← hBe]; rfl) trivial (enters_of Tryd.func52 (by kernel_rfl) rfl)
    (back_stops 2 B (fun _ _ => True) W4 cB) (fun _ _ => trivial) (fun W l o o' hl hw _ _ => trivial) (Below.refl _ _) (fun x => x.elim)
    (fun (pre : List Empty) W => Below wd.heap.size wd W ∧ Boxed W (wd.heap.size + 1 + 1 + 1) 24 (.slice (some ⟨wd.heap.size + 2, 0, none⟩) 0 1) ∧ W.ownsRow wd.heap.size 3 1 (.slice (some ⟨g', 0, none⟩) 1 cap') 1 [.int .i64 0])
    (fun _ _ _ => False) (fun pre W W' row hs hg hr => ?own) (fun _ _ _ _ _ hs _ _ => hs) ⟨hB4, hX4, hO4⟩ (fun x => x.elim) (fun l x => x.elim) (fun l pre x => x.elim) ?done ?stop
  case own =>
    refine ⟨hs.1.grown hg hs.1.size (fun k e => by have := (hr k e).1; have := hB4.size; omega), hs.2.1.kept hg (fun e => by have := (hr _ e.symm).1; have := (Array.getElem?_eq_some_iff.1 hX4).1; omega), hs.2.2.kept hg (.inr fun e => ?_)⟩
    obtain ⟨_, o, ho, hoc⟩ := hr _ e.symm
    rcases hs.2.2.2 with ⟨e1, _⟩ | ⟨g, cap, cur, e1, _, hgb, _⟩
    · cases e1
    · have : g' = g := by injection e1 with e2; injection e2 with e3; injection e3
      subst this
      rw [hgb] at ho
      cases ho
      cases hoc
  case done =>
    rintro D ys W hD rfl ⟨hB5, hX5, hO5⟩ hK
    have cx5 := hX5.cell
    gi_wp2
    rw [roundsIn_succ]
    gi_wp2
    have hO6 := ownsRow_putObj hO5 (.deferred none) hK rfl
    obtain ⟨A, c, e2, _, hC⟩ := int_slice (L := [0]) hO6
    have e3 : A = some ⟨g', 0, none⟩ := by injection e2 with e2; exact e2.symm
    subst e3
    obtain ⟨b, off, e4, hcl⟩ := addr_of_C hC (by decide)
    have hcl0 := hcl 0 (by decide)
    injection e4 with e4
    injection e4 with e5 e6
    subst e5
    subst e6
    refine ⟨by simp, .inl ⟨_, _, rfl, run_takeDeferred hK, ?_⟩⟩
    exact ⟨_, results_tmp rfl _ _ _, _, _, rfl, hcl0, hB5.trans (belowK_b (w := wd) (Nat.le_refl _) W D _ _ (Nat.le_trans hB4.size hD) hK rfl rfl)⟩
  case stop =>
    rintro D c pre W _ _ h _
    exact h.elim
end Go.Proofs.YtfkkhobbmcepmaaDoor.Given
