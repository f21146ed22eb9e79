/- need.There: by hand. -/
import Derived.Test.YtfkkhobbmcepmaaDoorGivChunk
namespace Go.Proofs.YtfkkhobbmcepmaaDoor.Given
open Go.RowKit Go.Shelf Go.Proofs.YtfkkhobbmcepmaaDoorW.PrintWords Go.Proofs.YtfkkhobbmcepmaaDoorW.PrintLast Go.Proofs.YtfkkhobbmcepmaaDoorW.PrintMore Go.Proofs.YtfkkhobbmcepmaaDoor.Base
set_option linter.unusedVariables false
set_option linter.unusedSimpArgs false
attribute [local go_sem] Oper.semAt_some
theorem infoInt1 : (Tryd.prog.info? 3).map (fun i => (i.zero, i.size, i.bytes)) = some (some (.int .i64 0), 1, 8) := by kernel_rfl
/-- Is it all noughts? -/
def nb (l : List Int) : Bool := decide (tl l l.length = 0)
def chk (b : List Int) (k : Nat) : List Int := (b.drop (56 * k)).take 56
/-- The places of the chunks that aren't noughts. -/
def th (b : List Int) (pre : List Nat) : List Int := ((List.range pre.length).filter fun j => !nb (chk b (pre.getD j 0))).map fun (j : Nat) => (j : Int)
theorem th_snoc (b : List Int) (pre : List Nat) (x : Nat) : th b (pre ++ [x]) = th b pre ++ if nb (chk b x) = true then [] else [(pre.length : Int)] := by
  unfold th
  rw [List.length_append, List.length_singleton, List.range_succ, List.filter_append, List.map_append]
  congr 1
  · congr 1
    refine List.filter_congr fun j hj => ?_
    rw [List.mem_range] at hj
    rw [List.getD_eq_getElem?_getD, List.getD_eq_getElem?_getD, List.getElem?_append_left hj]
  · have e : (pre ++ [x]).getD pre.length 0 = x := by rw [List.getD_eq_getElem?_getD, List.getElem?_append_right (Nat.le_refl _)]; simp
    by_cases h : nb (chk b x) = true
    · rw [if_pos h]; simp [List.filter_cons, h]
    · rw [if_neg h]; simp [List.filter_cons, h]
theorem th_len (b : List Int) (pre : List Nat) : (th b pre).length ≤ pre.length := by
  unfold th
  rw [List.length_map]
  exact Nat.le_trans (List.length_filter_le _ _) (by simp)
theorem chk_len (b : List Int) (k : Nat) : (chk b k).length = min 56 (b.length - 56 * k) := by unfold chk; rw [List.length_take, List.length_drop]
theorem chk_get (b : List Int) (k j : Nat) (h : j < (chk b k).length) : (chk b k).getD j 0 = b.getD (56 * k + j) 0 := by
  rw [chk_len] at h
  unfold chk
  rw [List.getD_eq_getElem?_getD, List.getD_eq_getElem?_getD, List.getElem?_take, if_pos (by omega), List.getElem?_drop]
theorem ck_reads {A : Option Addr} {b : List Int} {W : World} (hC : Kd.C (Kd.int .u8) W A b.length b) (x : Nat) : ∃ A' c', ckV A b.length x = .slice A' (chk b x).length c' ∧ (chk b x).length ≤ c' ∧ Kd.C (Kd.int .u8) W A' (chk b x).length (chk b x) := by
  by_cases h : 56 * x < b.length
  · obtain ⟨bb, off, rfl, hcl⟩ := addr_of_C hC (by omega)
    refine ⟨some ⟨bb, off + 56 * x, none⟩, (chk b x).length, by rw [ckV_in bb off _ x h, chk_len], Nat.le_refl _, ?_⟩
    refine Kd.C_of_reads (d := (0 : Int)) (h1 := fun _ => rfl) ⟨rfl, by have := hC.2.1; rw [chk_len]; omega, fun _ => ⟨_, rfl, fun j hj => ?_⟩⟩
    rw [addr_add, chk_get b x j hj, Nat.add_assoc]
    exact hcl _ (by rw [chk_len] at hj; omega)
  · have e : chk b x = [] := by unfold chk; rw [List.drop_eq_nil_of_le (by omega)]; rfl
    refine ⟨none, 0, by rw [ckV_out A _ x h, e]; rfl, by rw [e]; exact Nat.le_refl _, ?_⟩
    rw [e]
    exact Kd.C_nil _ _
/-- What the iterator and the loop know of the world. -/
structure EnvT (wd : World) (A : Option Addr) (n c : Nat) (W : World) : Prop where
  below : Below wd.heap.size wd W
  s : Boxed W (wd.heap.size + 2) 22 (.slice A n c)
  n : Boxed W (wd.heap.size + 3) 3 (.int .i64 56)
def KpT (h : Nat) (W W' : World) : Prop := Below h W W' ∧ W'.heap[h + 2]? = W.heap[h + 2]? ∧ W'.heap[h + 3]? = W.heap[h + 3]?
theorem KpT.trans {h : Nat} {A B C : World} (x : KpT h A B) (y : KpT h B C) : KpT h A C := ⟨x.1.trans y.1, y.2.1.trans x.2.1, y.2.2.trans x.2.2⟩
theorem KpT.put {h B : Nat} (h0 : h + 4 ≤ B) (W : World) (l : Nat) (o o' : Obj) (hl : B ≤ l) (hw : W.heap[l]? = some o) : KpT h W (W.putObj l o') := by
  refine ⟨(Below.refl h W).grown (grownBy_putObj' W l o') (by have := (Array.getElem?_eq_some_iff.1 hw).1; omega) (fun k e => by cases e; omega), ?_, ?_⟩
  · exact World.putObj_heap_other (by omega)
  · exact World.putObj_heap_other (by omega)
theorem EnvT.kp {wd : World} {A : Option Addr} {n c : Nat} {W W' : World} (h : EnvT wd A n c W) (k : KpT wd.heap.size W W') : EnvT wd A n c W' := ⟨h.below.trans k.1, k.2.1.trans h.s, k.2.2.trans h.n⟩
theorem EnvT.step {wd : World} {A : Option Addr} {n c : Nat} {W W' : World} (h : EnvT wd A n c W) (hb : Below W.heap.size W W') : EnvT wd A n c W' := ⟨h.below.trans (hb.mono h.below.size), blk_below h.s hb, blk_below h.n hb⟩
theorem EnvT.env {wd : World} {A : Option Addr} {c : Nat} {b : List Int} {W : World} (h : EnvT wd A b.length c W) (hC : Kd.C (Kd.int .u8) wd A b.length b) : ChEnv (wd.heap.size + 2) (wd.heap.size + 3) A c b W := ⟨h.s.cell, h.n.cell, Kd.C_below hC h.below⟩
/-- The row lies behind the boxes. -/
def Far (h : Nat) (v : Value) : Prop := ∀ g, v.ownBlock = some g → h + 4 ≤ g
theorem Far.ne {h : Nat} {v : Value} (f : Far h v) {g : Nat} (hg : g < h + 4) : some g ≠ v.ownBlock := fun e => by have := f g e.symm; omega
/-- The loop's state behind pre. -/
def ThI (wd : World) (A : Option Addr) (c : Nat) (b : List Int) (pre : List Nat) (W : World) : Prop :=
  (∃ v, Boxed W wd.heap.size 24 v ∧ W.ownsRow wd.heap.size 3 1 v (th b pre).length (encs (Value.int .i64) (th b pre)) ∧ Far wd.heap.size v) ∧ EnvT wd A b.length c W ∧ Boxed W (wd.heap.size + 1) 3 (.int .i64 (pre.length : Int))
theorem thI_own (wd : World) (A : Option Addr) (c : Nat) (b : List Int) (B : Nat) (hB : wd.heap.size + 4 ≤ B) : OwnFrom B (ThI wd A c b) := by
  refine OwnFrom.and (Own.from (holdsRow_own wd.heap.size wd.heap.size 24 3 1 (fun pre => (th b pre).length) (fun pre => encs (Value.int .i64) (th b pre)) (fun _ v => Far wd.heap.size v)) _) (fun pre W W' row hs hg hr => ?_)
  refine ⟨hs.1.kp ⟨(Below.refl _ W).grown hg hs.1.below.size (fun k e => by have := (hr k e).1; omega), ?_, ?_⟩, ?_⟩
  · exact hg.block _ hs.1.s.lt (fun e => by have := (hr _ e.symm).1; omega)
  · exact hg.block _ hs.1.n.lt (fun e => by have := (hr _ e.symm).1; omega)
  · exact hs.2.kept hg (fun e => by have := (hr _ e.symm).1; omega)
/-- A step that leaves what lies below alone. -/
theorem ThI.step {wd : World} {A : Option Addr} {c : Nat} {b : List Int} {pre : List Nat} {W W1 : World} (h : ThI wd A c b pre W) (hb : Below W.heap.size W W1) : ThI wd A c b pre W1 := by
  obtain ⟨⟨v, h1, h2, h3⟩, h4, h5⟩ := h
  exact ⟨⟨v, blk_below h1 hb, h2.kept (grown_of_below hb none) (by cases v.ownBlock <;> simp), h3⟩, h4.step hb, blk_below h5 hb⟩
/-- The count goes up. -/
theorem ThI.count {wd : World} {A : Option Addr} {c : Nat} {b : List Int} {pre : List Nat} {x : Nat} {W : World} {v : Value} (h1 : Boxed W wd.heap.size 24 v) (h2 : W.ownsRow wd.heap.size 3 1 v (th b (pre ++ [x])).length (encs (Value.int .i64) (th b (pre ++ [x])))) (h3 : Far wd.heap.size v) (h4 : EnvT wd A b.length c W) (h5 : Boxed W (wd.heap.size + 1) 3 (.int .i64 (pre.length : Int))) :
    ThI wd A c b (pre ++ [x]) (W.setCell ⟨wd.heap.size + 1, 0, none⟩ (.int .i64 ((pre.length : Int) + 1))) ∧ KpT wd.heap.size W (W.setCell ⟨wd.heap.size + 1, 0, none⟩ (.int .i64 ((pre.length : Int) + 1))) := by
  have hg := grownBy_setCell' W (wd.heap.size + 1) (.int .i64 ((pre.length : Int) + 1))
  have hk : KpT wd.heap.size W (W.setCell ⟨wd.heap.size + 1, 0, none⟩ (.int .i64 ((pre.length : Int) + 1))) := ⟨(Below.refl _ W).grown hg h4.below.size (fun k e => by cases e; omega), hg.block _ h4.s.lt (fun e => by have := Option.some.inj e; omega), hg.block _ h4.n.lt (fun e => by have := Option.some.inj e; omega)⟩
  refine ⟨⟨⟨v, h1.kept hg (fun e => by have := Option.some.inj e; omega), h2.kept hg (.inr (h3.ne (by omega)).symm), h3⟩, h4.kp hk, ?_⟩, hk⟩
  have := h5.set (.int .i64 ((pre.length : Int) + 1))
  rw [List.length_append, List.length_singleton, Int.natCast_add]
  exact this
set_option maxRecDepth 100000 in
set_option maxHeartbeats 4000000 in
theorem there_calls (A : Option Addr) (c : Nat) (b : List Int) (wd : World) (hb : b.length ≤ 1000000) (hc : b.length ≤ c) (hC : Kd.C (Kd.int .u8) wd A b.length b) :
    Calls Tryd.prog 7 #[.slice A b.length c] wd fun e w' => ∃ v0 : Value, e = .returned v0 ∧ w'.ownsRow wd.heap.size 3 1 v0 (th b (List.range (chN b.length))).length (encs (Value.int .i64) (th b (List.range (chN b.length)))) ∧ Below wd.heap.size wd w' := by
  obtain ⟨i0, hi, hz0, hz1, hz2⟩ := info_parts infoInt1
  have HC := Lib.hid hC
  have hcN : chN b.length ≤ 20000 := by unfold chN; omega
  clear hC
  refine (callsIn_wide (n := 3)).1 ?_
  refine callsIn_of_wp_marks Tryd.func7 rfl trivial ?_ rfl
  simp only [Tryd.ntmps7, List.size_toArray, List.length_cons, List.length_nil, Nat.reduceAdd, Nat.reduceSub, Array.replicate_succ, Array.replicate_zero, List.push_toArray, List.append_toArray, List.nil_append, List.cons_append]
  gi_wp2_with (refine ⟨trivial, ?_⟩; gi_at_call 16; refine (callsIn_wide.2 (chunk_calls _ A b.length c rfl _)).mono ?_; rintro e w' ⟨rfl, rfl⟩)
  have e1 : wd.heap.size + 1 + 1 = wd.heap.size + 2 := rfl
  have hO := (((Boxed.new wd 24 (.slice none 0 0)).alloc (.cells #[.int .i64 0] 3)).alloc (.cells #[.slice A b.length c] 22)).alloc (.cells #[.int .i64 56] 3)
  have hK := ((Boxed.new (wd.alloc (.cells #[.slice none 0 0] 24)) 3 (.int .i64 0)).alloc (.cells #[.slice A b.length c] 22)).alloc (.cells #[.int .i64 56] 3)
  have hS := (Boxed.new ((wd.alloc (.cells #[.slice none 0 0] 24)).alloc (.cells #[.int .i64 0] 3)) 22 (.slice A b.length c)).alloc (.cells #[.int .i64 56] 3)
  have hN := Boxed.new (((wd.alloc (.cells #[.slice none 0 0] 24)).alloc (.cells #[.int .i64 0] 3)).alloc (.cells #[.slice A b.length c] 22)) 3 (.int .i64 56)
  have hBe : Below wd.heap.size wd ((((wd.alloc (.cells #[.slice none 0 0] 24)).alloc (.cells #[.int .i64 0] 3)).alloc (.cells #[.slice A b.length c] 22)).alloc (.cells #[.int .i64 56] 3)) := (((((Below.refl _ wd).alloc (Nat.le_refl _) _).alloc (by simp) _).alloc (by simp; omega) _).alloc (by simp; omega) _)
  simp only [World.size_alloc] at hK hS hN
  obtain ⟨W0, hW0⟩ : ∃ W0, ((((wd.alloc (.cells #[.slice none 0 0] 24)).alloc (.cells #[.int .i64 0] 3)).alloc (.cells #[.slice A b.length c] 22)).alloc (.cells #[.int .i64 56] 3)) = W0 := ⟨_, rfl⟩
  have hsz : W0.heap.size = wd.heap.size + 4 := by rw [← hW0]; simp
  rw [hW0] at hO hK hS hN hBe ⊢
  have hE0 : EnvT wd A b.length c W0 := ⟨hBe, hS, hN⟩
  refine wpIn_rangeFunc_ownG (w0 := W0) rfl (by decide) (gf := 26) (lb := #[.pointer (some ⟨wd.heap.size + 2, 0, none⟩), .pointer (some ⟨wd.heap.size + 3, 0, none⟩)]) rfl trivial (enters_of Tryd.func26 (by kernel_rfl) rfl)
    (chunk_stops 2 (wd.heap.size + 2) (wd.heap.size + 3) A c b hb hc (KpT wd.heap.size) (EnvT wd A b.length c) (fun W h => h.env HC.out) (fun W W' h k => h.kp k) (fun W W' h k => h.step k) W0 hE0)
    KpT.trans (fun W l o o' hl hw _ _ => KpT.put (B := W0.heap.size) (by omega) W l o o' hl hw) (Below.refl _ _) (fun _ => rfl)
    (ThI wd A c b) (fun _ _ _ => False) (thI_own wd A c b _ (by omega)) (fun _ _ _ _ _ hs _ _ => hs)
    ⟨⟨_, hO, World.ownsRow_nil _ _ _ _, fun g e => by cases e⟩, hE0, hK⟩
    (fun x => { tmps := #[.slice A b.length c, undef, .slice none 0 0, .pointer (some ⟨wd.heap.size, 0, none⟩), .pointer (some ⟨wd.heap.size + 1, 0, none⟩), ckV A b.length x, .slice A b.length c, .func (.func 26) #[] #[.pointer (some ⟨wd.heap.size + 2, 0, none⟩), .pointer (some ⟨wd.heap.size + 3, 0, none⟩)], ckV A b.length x, undef, undef, undef, undef, undef, undef, undef, undef, undef, undef], defers := [] }) ?assign ?body ?done ?stop
  case assign =>
    intro l x W K hK
    gi_wp2
    exact hK
  case body =>
    rintro l pre x W hI hlt
    obtain ⟨A', c', hck, hc', hCk⟩ := ck_reads (Kd.C_below HC.out hI.2.1.below) x
    rw [hck]
    have HI := Lib.hid hI
    have hno := bits_Nought.calls A' c' (chk b x) (nb (chk b x)) W hCk hc' rfl
    gi_wp2
    refine ⟨trivial, ((callsIn_wide.2 hno).inRound l).mono ?_⟩
    rintro e W1 ⟨rfl, ⟨nd, rfl⟩⟩
    have hB1 : Below W.heap.size W (W.drewN nd) := pw_below_drewN (Below.refl _ W) nd
    have hk1 : KeepsFrom W0.heap.size W (W.drewN nd) := KeepsFrom.of_grownBy (grown_of_below hB1 none) (fun j e => by cases e)
    have hp1 : KpT wd.heap.size W (W.drewN nd) := ⟨hB1.mono hI.2.1.below.size, (blk_below hI.2.1.s hB1).trans hI.2.1.s.symm, (blk_below hI.2.1.n hB1).trans hI.2.1.n.symm⟩
    have hI1 := hI.step hB1
    obtain ⟨W1, hW1⟩ : ∃ W1, W.drewN nd = W1 := ⟨_, rfl⟩
    rw [hW1] at hB1 hk1 hp1 hI1 ⊢
    obtain ⟨⟨v, hv, hrow, hfar⟩, hE, hkb⟩ := hI1
    have hplen : (pre.length : Int) ≤ 20000 := by omega
    have htl := th_len b pre
    have hck0 := hkb.cell
    have hkf0 := hkb.frozen
    have hc := hv.cell
    have hadd : IntKind.i64.wrap ((pre.length : Int) + 1) = (pre.length : Int) + 1 := IntWalk.i64_in _ (by omega)
    cases hnb : nb (chk b x) with
    | true =>
      have hth : th b (pre ++ [x]) = th b pre := by rw [th_snoc, if_pos hnb, List.append_nil]
      obtain ⟨hN1, hN2⟩ := ThI.count (x := x) hv (by rw [hth]; exact hrow) hfar hE hkb
      clear hno hck hCk HI hI hnb
      gi_wp2
      exact ⟨hk1.trans (KeepsFrom.of_grownBy (grownBy_setCell' _ _ _) (fun j e => by cases e; omega)), hp1.trans hN2, hN1⟩
    | false =>
      have hth : th b (pre ++ [x]) = th b pre ++ [(pre.length : Int)] := by rw [th_snoc, if_neg (by rw [hnb]; decide)]
      clear hno hck hCk HI hI
      have hlt3 := hE.n.lt
      gi_wp2_with (gi_at_builtin; refine wpListIn_append_own_at _ rfl _ _ 24 rfl wd.heap.size 3 i0 (.int .i64 0) 1 8 Tryd.underlying24 hi hz0 hz1 hz2 rfl (by decide) _ _ _ rfl (hrow.alloc _) ⟨W1.heap.size, 0, none⟩ 1 1 [.int .i64 (pre.length : Int)] rfl rfl (cell_one_new _ _ _) (by simp [Value.oneCell']) (by unfold maxLen; omega) (by omega) (by have := hE.below.size; simp; omega) ?_; intro v' w1 hown' hgrow _ hat; obtain ⟨g', cap', rfl⟩ := ownsRow_succ hown'; obtain ⟨hv1, hv2, hr2, hk2, hb2⟩ := hv.appended (by decide) hrow hE.below.size (Nat.le_refl _) hown' hgrow; have hc1 := hv1.cell; have hf1 := hv1.frozen; have hkb1 := (hkb.alloc _).kept hgrow (hfar.ne (by omega)); have hkc1 := hkb1.cell; have hkf1 := hkb1.frozen; have hkb2 := hkb1.kept (grownBy_setCell' w1 wd.heap.size (.slice (some ⟨g', 0, none⟩) ((th b pre).length + 1) cap')) (fun e => by have := Option.some.inj e; omega); have hkc2 := hkb2.cell; have hkf2 := hkb2.frozen)
      have hat' : (Value.slice (some ⟨g', 0, none⟩) ((th b pre).length + 1) cap').ownBlock = v.ownBlock ∨ (Value.slice (some ⟨g', 0, none⟩) ((th b pre).length + 1) cap').ownBlock = some (W1.alloc (.cells #[.int .i64 (pre.length : Int)] 3)).heap.size := hat
      have hgr : (W1.alloc (.cells #[.int .i64 (pre.length : Int)] 3)).grownBy w1 v.ownBlock := hgrow
      have hfar2 : Far wd.heap.size (Value.slice (some ⟨g', 0, none⟩) ((th b pre).length + 1) cap') := fun g e => by
        rcases hat' with q | q
        · exact hfar g (q.symm.trans e)
        · rw [q] at e
          have := Option.some.inj e
          simp at this
          omega
      have hset := grownBy_setCell' w1 wd.heap.size (.slice (some ⟨g', 0, none⟩) ((th b pre).length + 1) cap')
      have hs2 := ((hE.s.alloc (.cells #[.int .i64 (pre.length : Int)] 3)).kept hgr (hfar.ne (by omega))).kept hset (fun e => by have := Option.some.inj e; omega)
      have hn2 := ((hE.n.alloc (.cells #[.int .i64 (pre.length : Int)] 3)).kept hgr (hfar.ne (by omega))).kept hset (fun e => by have := Option.some.inj e; omega)
      have hkp : KpT wd.heap.size W1 (w1.setCell ⟨wd.heap.size, 0, none⟩ (.slice (some ⟨g', 0, none⟩) ((th b pre).length + 1) cap')) := ⟨hb2, hs2.trans hE.s.symm, hn2.trans hE.n.symm⟩
      obtain ⟨hN1, hN2⟩ := ThI.count (x := x) hv2 (by rw [hth, List.length_append, encs_append]; exact hr2) hfar2 (hE.kp hkp) hkb2
      exact ⟨hk1.trans ((hk2.from _).trans (KeepsFrom.of_grownBy (grownBy_setCell' _ _ _) (fun j e => by cases e; omega))), hp1.trans (hkp.trans hN2), hN1⟩
  case done =>
    rintro D ys W hD rfl ⟨⟨v, hv, hrow, _⟩, hE, _⟩ hK
    have hc := hv.cell
    gi_wp2
    refine ⟨by simp, .inl ⟨_, _, rfl, run_takeDeferred hK, ?_⟩⟩
    refine ⟨_, results_tmp rfl _ _ _, v, rfl, ?_, hE.below.trans (belowK_b (w := wd) (Nat.le_refl _) W D _ _ (by omega) hK rfl rfl)⟩
    exact ownsRow_putObj hrow _ hK rfl
  case stop =>
    rintro D c pre W _ _ h _
    exact h.elim
end Go.Proofs.YtfkkhobbmcepmaaDoor.Given
