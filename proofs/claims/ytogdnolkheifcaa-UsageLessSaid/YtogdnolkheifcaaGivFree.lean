/- The contract of usage.Free: by hand. -/
import Derived.Test.YtogdnolkheifcaaGivSegs
namespace Go.Proofs.Ytogdnolkheifcaa.Given
open Go.RowKit Go.Shelf Go.Proofs.YtogdnolkheifcaaW.PrintWords Go.Proofs.YtogdnolkheifcaaW.PrintLast Go.Proofs.YtogdnolkheifcaaW.PrintMore Go.Proofs.Ytogdnolkheifcaa.Base Go.Proofs.Ytogdnolkheifcaa.Pure
set_option linter.unusedVariables false
set_option linter.unusedSimpArgs false
attribute [local go_sem] Oper.semAt_some

/-- What a round keeps: what lies below h, and three boxes. -/
def KpS (h Bg Bc Bt : Nat) (W W' : World) : Prop := Below h W W' ∧ W'.heap[Bg]? = W.heap[Bg]? ∧ W'.heap[Bc]? = W.heap[Bc]? ∧ W'.heap[Bt]? = W.heap[Bt]?
theorem KpS.trans {h Bg Bc Bt : Nat} {A B C : World} (x : KpS h Bg Bc Bt A B) (y : KpS h Bg Bc Bt B C) : KpS h Bg Bc Bt A C :=
  ⟨x.1.trans y.1, y.2.1.trans x.2.1, y.2.2.1.trans x.2.2.1, y.2.2.2.trans x.2.2.2⟩
theorem KpS.refl (h Bg Bc Bt : Nat) (W : World) : KpS h Bg Bc Bt W W := ⟨Below.refl _ _, rfl, rfl, rfl⟩
theorem KpS.put {h Bg Bc Bt B : Nat} (h0 : h ≤ B) (h1 : Bg < B) (h2 : Bc < B) (h3 : Bt < B) (W : World) (l : Nat) (o o' : Obj) (hl : B ≤ l) (hw : W.heap[l]? = some o) : KpS h Bg Bc Bt W (W.putObj l o') := by
  refine ⟨(Below.refl h W).grown (grownBy_putObj' W l o') (by have := (Array.getElem?_eq_some_iff.1 hw).1; omega) (fun k e => by cases e; omega), ?_, ?_, ?_⟩
  · exact World.putObj_heap_other (by omega)
  · exact World.putObj_heap_other (by omega)
  · exact World.putObj_heap_other (by omega)
theorem blk_not_row {W : World} {b n₀ : Nat} {t e : TypeId} {size k : Nat} {cs : Array Value} {fr : Nat × Nat} {v : Value} {xs : List Value} (h : W.heap[b]? = some (.cells cs t fr)) (hte : t ≠ e) (hr : W.ownsRow n₀ e size v k xs) : some b ≠ v.ownBlock := by
  rcases hr.2 with ⟨rfl, _⟩ | ⟨g, cap, cur, rfl, _, hh, _⟩
  · simp [Value.ownBlock]
  · intro he
    have : b = g := by simpa [Value.ownBlock] using he
    subst this
    rw [h] at hh
    injection hh with hh
    injection hh with _ ht
    exact hte ht
/-- What the iterator and the loop know of the world. -/
structure SegW (wd : World) (d r s : Int) (Bg Bc Bt : Nat) (Ac : Option Addr) (nc cc : Nat) (At : Option Addr) (nt ct : Nat) (W : World) : Prop where
  below : Below wd.heap.size wd W
  g : W.heap[Bg]? = some (.cells #[.int .i64 d, .int .i64 r, .int .i64 s] 23 (0, 0))
  c : Boxed W Bc 24 (.slice Ac nc cc)
  t : Boxed W Bt 24 (.slice At nt ct)
theorem SegW.kp {wd : World} {d r s : Int} {Bg Bc Bt : Nat} {Ac At : Option Addr} {nc cc nt ct : Nat} {W W' : World} (h : SegW wd d r s Bg Bc Bt Ac nc cc At nt ct W) (k : KpS wd.heap.size Bg Bc Bt W W') : SegW wd d r s Bg Bc Bt Ac nc cc At nt ct W' :=
  ⟨h.below.trans k.1, k.2.1.trans h.g, k.2.2.1.trans h.c, k.2.2.2.trans h.t⟩
theorem SegW.step {wd : World} {d r s : Int} {Bg Bc Bt : Nat} {Ac At : Option Addr} {nc cc nt ct : Nat} {W W' : World} (h : SegW wd d r s Bg Bc Bt Ac nc cc At nt ct W) (hb : Below W.heap.size W W') : SegW wd d r s Bg Bc Bt Ac nc cc At nt ct W' :=
  ⟨h.below.trans (hb.mono h.below.size), blk_below h.g hb, blk_below h.c hb, blk_below h.t hb⟩
theorem SegW.env {wd : World} {d r s : Int} {Bg Bc Bt : Nat} {Ac At : Option Addr} {cc ct : Nat} {cs tk : List Int} {W : World} (h : SegW wd d r s Bg Bc Bt Ac cs.length cc At tk.length ct W) (hc : Kd.C (Kd.int .i64) wd Ac cs.length cs) (ht : Kd.C (Kd.int .i64) wd At tk.length tk) : SegEnv d r s Bg Bc Bt Ac cc cs At ct tk W :=
  ⟨h.g, h.c.cell, h.t.cell, Kd.C_below hc h.below, Kd.C_below ht h.below⟩
theorem infoInt1 : (Try.prog.info? 3).map (fun i => (i.zero, i.size, i.bytes)) = some (some (.int .i64 0), 1, 8) := by kernel_rfl
/-- The segments that are free. -/
def fr (p : List (Nat × Int)) : List Int := (p.filter fun q => decide (q.2 = 0)).map fun q => (q.1 : Int)
theorem fr_hit (p : List (Nat × Int)) {x : Nat × Int} (h : x.2 = 0) : fr (p ++ [x]) = fr p ++ [(x.1 : Int)] := by simp [fr, h]
theorem fr_miss (p : List (Nat × Int)) {x : Nat × Int} (h : ¬ x.2 = 0) : fr (p ++ [x]) = fr p := by simp [fr, h]
theorem fr_len (p : List (Nat × Int)) : (fr p).length ≤ p.length := by
  unfold fr
  have := List.length_filter_le (fun q : Nat × Int => decide (q.2 = 0)) p
  simpa using this

theorem segW_new (d r s : Int) (A1 A2 : Option Addr) (n1 c1 n2 c2 : Nat) {wd W1 : World} (hB : Below wd.heap.size wd W1) (k : Nat) (hk : W1.heap.size = k) : SegW wd d r s k (k + 1) (k + 2) A1 n1 c1 A2 n2 c2 (((W1.alloc (.cells #[.int .i64 d, .int .i64 r, .int .i64 s] 23)).alloc (.cells #[.slice A1 n1 c1] 24)).alloc (.cells #[.slice A2 n2 c2] 24)) := by
  subst hk
  have g0 := World.alloc_heap_new W1 (.cells #[.int .i64 d, .int .i64 r, .int .i64 s] 23)
  have b1 : Below (W1.heap.size + 1) (W1.alloc (.cells #[.int .i64 d, .int .i64 r, .int .i64 s] 23)) ((W1.alloc (.cells #[.int .i64 d, .int .i64 r, .int .i64 s] 23)).alloc (.cells #[.slice A1 n1 c1] 24)) := (Below.refl _ _).alloc (by simp) _
  have c0 := Boxed.new (W1.alloc (.cells #[.int .i64 d, .int .i64 r, .int .i64 s] 23)) 24 (.slice A1 n1 c1)
  have t0 := Boxed.new ((W1.alloc (.cells #[.int .i64 d, .int .i64 r, .int .i64 s] 23)).alloc (.cells #[.slice A1 n1 c1] 24)) 24 (.slice A2 n2 c2)
  simp only [World.size_alloc] at c0 t0
  have b2 : Below (W1.heap.size + 2) ((W1.alloc (.cells #[.int .i64 d, .int .i64 r, .int .i64 s] 23)).alloc (.cells #[.slice A1 n1 c1] 24)) (((W1.alloc (.cells #[.int .i64 d, .int .i64 r, .int .i64 s] 23)).alloc (.cells #[.slice A1 n1 c1] 24)).alloc (.cells #[.slice A2 n2 c2] 24)) := (Below.refl _ _).alloc (by simp) _
  refine ⟨?_, ?_, ?_, t0⟩
  · have hs := hB.size
    exact ((hB.alloc hs _).alloc (by simp; omega) _).alloc (by simp; omega) _
  · rw [b2.block _ (by omega), b1.block _ (by omega)]; exact g0
  · exact c0.alloc _
theorem KpS.app {wd W w1 : World} {d r s : Int} {Bg Bc Bt Bo : Nat} {Ac At : Option Addr} {nc cc nt ct n₀ k : Nat} {v v' : Value} {xs : List Value} {tmp : Obj} (hS : SegW wd d r s Bg Bc Bt Ac nc cc At nt ct W) (hrow : W.ownsRow n₀ 3 1 v k xs) (hgrow : (W.alloc tmp).grownBy w1 v.ownBlock)
    (hb2 : Below wd.heap.size W (w1.setCell ⟨Bo, 0, none⟩ v')) (n1 : Bg ≠ Bo) (n2 : Bc ≠ Bo) (n3 : Bt ≠ Bo) : KpS wd.heap.size Bg Bc Bt W (w1.setCell ⟨Bo, 0, none⟩ v') := by
  have key : ∀ {b : Nat} {t : TypeId} {cs : Array Value}, W.heap[b]? = some (.cells cs t (0, 0)) → t ≠ 3 → b ≠ Bo → (w1.setCell ⟨Bo, 0, none⟩ v').heap[b]? = W.heap[b]? := by
    intro b t cs h ht hne
    have hlt := (Array.getElem?_eq_some_iff.1 h).1
    rw [heap_setCell_other _ _ _ _ hne, hgrow.block b (by rw [World.size_alloc]; omega) (blk_not_row h ht hrow), Below.heap_alloc _ _ _ hlt]
  exact ⟨hb2, key hS.g (by decide) n1, key hS.c (by decide) n2, key hS.t (by decide) n3⟩
theorem fr_own (n₀ B : Nat) : Own (fun (pre : List (Nat × Int)) W => ∃ v, Boxed W B 24 v ∧ W.ownsRow n₀ 3 1 v (fr pre).length (encs (Value.int .i64) (fr pre)) ∧ True) :=
  holdsRow_own n₀ B 24 3 1 (fun pre => (fr pre).length) (fun pre => encs (Value.int .i64) (fr pre)) (fun _ _ => True)
set_option maxRecDepth 100000 in
set_option maxHeartbeats 4000000 in
theorem free_yes (d r : Int) (S : Nat) (A1 A2 : Option Addr) (c1 c2 : Nat) (cs tk : List Int) (wd : World) (hg : GR d r (S : Int)) (h1 : Kd.C (Kd.int .i64) wd A1 cs.length cs) (h2 : Kd.C (Kd.int .i64) wd A2 tk.length tk) :
    Calls Try.prog 15 #[.agg #[.int .i64 d, .int .i64 r, .int .i64 S], .slice A1 cs.length c1, .slice A2 tk.length c2] wd fun e w' => ∃ v0 : Value, e = .returned v0 ∧ Kd.R (Kd.int .i64) 3 w' wd.heap.size (fun _ => True) v0 (fr (segP cs tk S)) ∧ Below wd.heap.size wd w' := by
  have HS : Hid (S ≤ 64) := by show S ≤ 64; have := hg.1.s1; omega
  obtain ⟨i0, hi, hz0, hz1, hz2⟩ := info_parts infoInt1
  refine (callsIn_wide (n := 3)).1 ?_
  refine callsIn_of_wp_marks Try.func15 rfl trivial ?_ rfl
  simp only [Try.ntmps15, List.size_toArray, List.length_cons, List.length_nil, Nat.reduceAdd, Nat.reduceSub, Array.replicate_succ, Array.replicate_zero, List.push_toArray, List.append_toArray, List.nil_append, List.cons_append]
  gi_wp2_with (refine ⟨trivial, ?_⟩; gi_at_call 30; refine (callsIn_wide.2 (segments_calls d r S _ _ _ A1 A2 _ _ c1 c2 rfl rfl)).mono ?_; rintro e w' ⟨rfl, rfl⟩)
  have hB1 : Below wd.heap.size wd ((wd.alloc (.cells #[.int .i64 d, .int .i64 r, .int .i64 S] 23)).alloc (.cells #[.slice none 0 0] 24)) := ((Below.refl _ wd).alloc (Nat.le_refl _) _).alloc (by simp) _
  have hSW := segW_new d r S A1 A2 cs.length c1 tk.length c2 hB1 (wd.heap.size + 2) (by simp)
  have hO : Boxed ((wd.alloc (.cells #[.int .i64 d, .int .i64 r, .int .i64 S] 23)).alloc (.cells #[.slice none 0 0] 24)) (wd.heap.size + 1) 24 (.slice none 0 0) := by
    have h := Boxed.new (wd.alloc (.cells #[.int .i64 d, .int .i64 r, .int .i64 S] 23)) 24 (.slice none 0 0)
    rw [World.size_alloc] at h
    exact h
  have hO2 := ((hO.alloc (.cells #[.int .i64 d, .int .i64 r, .int .i64 S] 23)).alloc (.cells #[.slice A1 cs.length c1] 24)).alloc (.cells #[.slice A2 tk.length c2] 24)
  obtain ⟨W0, hW0⟩ : ∃ W0, ((((wd.alloc (.cells #[.int .i64 d, .int .i64 r, .int .i64 S] 23)).alloc (.cells #[.slice none 0 0] 24)).alloc (.cells #[.int .i64 d, .int .i64 r, .int .i64 S] 23)).alloc (.cells #[.slice A1 cs.length c1] 24)).alloc (.cells #[.slice A2 tk.length c2] 24) = W0 := ⟨_, rfl⟩
  have hsz : W0.heap.size = wd.heap.size + 5 := by rw [← hW0]; simp
  rw [hW0] at hSW hO2 ⊢
  refine wpIn_rangeFunc_ownG (w0 := W0) rfl (by decide) (gf := 41) (lb := #[.pointer (some ⟨wd.heap.size + 2, 0, none⟩), .pointer (some ⟨wd.heap.size + 3, 0, none⟩), .pointer (some ⟨wd.heap.size + 4, 0, none⟩)]) rfl trivial (enters_of Try.func41 (by kernel_rfl) rfl)
    (segs_stops 2 d r S (wd.heap.size + 2) (wd.heap.size + 3) (wd.heap.size + 4) A1 A2 c1 c2 cs tk hg (KpS wd.heap.size (wd.heap.size + 2) (wd.heap.size + 3) (wd.heap.size + 4)) (SegW wd d r S (wd.heap.size + 2) (wd.heap.size + 3) (wd.heap.size + 4) A1 cs.length c1 A2 tk.length c2) (fun W h => h.env h1 h2) (fun W W' h k => h.kp k) (fun W W' h k => h.step k) W0 hSW)
    KpS.trans (fun W l o o' hl hw _ _ => KpS.put (B := W0.heap.size) (by omega) (by omega) (by omega) (by omega) W l o o' hl hw) (Below.refl _ _) (fun _ => rfl)
    (fun pre W => (∃ v, Boxed W (wd.heap.size + 1) 24 v ∧ W.ownsRow wd.heap.size 3 1 v (fr pre).length (encs (Value.int .i64) (fr pre)) ∧ True) ∧ SegW wd d r S (wd.heap.size + 2) (wd.heap.size + 3) (wd.heap.size + 4) A1 cs.length c1 A2 tk.length c2 W)
    (fun _ _ _ => False)
    (OwnFrom.and (Own.from (fr_own _ _) _) (fun _ W W' row hs hg hr => by
      refine hs.kp ⟨(Below.refl _ W).grown hg hs.below.size (fun k e => by have := (hr k e).1; omega), ?_, ?_, ?_⟩
      · exact hg.block _ (Array.getElem?_eq_some_iff.1 hs.g).1 (fun e => by have := (hr _ e.symm).1; omega)
      · exact hg.block _ hs.c.lt (fun e => by have := (hr _ e.symm).1; omega)
      · exact hg.block _ hs.t.lt (fun e => by have := (hr _ e.symm).1; omega)))
    (fun _ _ _ _ _ hs _ _ => hs)
    ⟨⟨_, hO2, World.ownsRow_nil _ _ _ _, trivial⟩, hSW⟩
    (fun x => { tmps := #[.agg #[.int .i64 d, .int .i64 r, .int .i64 S], .slice A1 cs.length c1, .slice A2 tk.length c2, .pointer (some ⟨wd.heap.size, 0, none⟩), undef, undef, .slice none 0 0, .pointer (some ⟨wd.heap.size + 1, 0, none⟩), .int .i64 (x.1 : Int), .int .i64 x.2, .agg #[.int .i64 d, .int .i64 r, .int .i64 S], .slice A1 cs.length c1, .slice A2 tk.length c2, .func (.func 41) #[] #[.pointer (some ⟨wd.heap.size + 2, 0, none⟩), .pointer (some ⟨wd.heap.size + 3, 0, none⟩), .pointer (some ⟨wd.heap.size + 4, 0, none⟩)], .int .i64 (x.1 : Int), .int .i64 x.2, undef, undef, undef, undef, undef, undef, undef], defers := [] }) ?assign ?body ?done ?stop
  case assign =>
    intro l x W K hK
    gi_wp2
    exact hK
  case body =>
    rintro l pre x W ⟨⟨v, hv, hrow, _⟩, hSW⟩ hlt
    have hc := hv.cell
    have hpl := fr_len pre
    have hS := HS.out
    by_cases hx : x.2 = 0
    · have hxb : (x.2 == 0) = true := beq_iff_eq.2 hx
      have HX := Lib.hid hx
      clear hx
      gi_wp2_with (gi_at_builtin; refine wpListIn_append_own _ rfl _ _ 24 rfl wd.heap.size 3 i0 (.int .i64 0) 1 8 Try.underlying24 hi hz0 hz1 hz2 rfl (by decide) _ _ _ rfl (hrow.alloc _) ⟨W.heap.size, 0, none⟩ 1 1 [.int .i64 (x.1 : Int)] rfl rfl (cell_one_new _ _ _) (by simp [Value.oneCell']) (by unfold maxLen; omega) (by omega) (by have := hSW.below.size; simp; omega) ?_; intro v' w1 hown' hgrow _; obtain ⟨g', cap', rfl⟩ := ownsRow_succ hown'; obtain ⟨hv1, hv2, hr2, hk2, hb2⟩ := hv.appended (by decide) hrow hSW.below.size (by omega) hown' hgrow; have hKP := KpS.app hSW hrow hgrow hb2 (by omega) (by omega) (by omega); have hc1 := hv1.cell; have hf1 := hv1.frozen)
      refine ⟨hk2.from _, hKP, ⟨_, hv2, ?_, trivial⟩, hSW.kp hKP⟩
      rw [fr_hit pre HX.out, List.length_append, encs_append]
      exact hr2
    · have hxb : (x.2 == 0) = false := beq_eq_false_iff_ne.2 hx
      have HX := Lib.hid hx
      clear hx
      gi_wp2
      refine ⟨KeepsFrom.refl _ _, KpS.refl _ _ _ _ _, ⟨v, hv, ?_, trivial⟩, hSW⟩
      rw [fr_miss pre HX.out]
      exact hrow
  case done =>
    rintro D ys W hD rfl ⟨⟨v, hv, hrow, _⟩, hSW⟩ hK
    have hc := hv.cell
    gi_wp2
    refine ⟨by simp, .inl ⟨_, _, rfl, run_takeDeferred hK, ?_⟩⟩
    refine ⟨_, results_tmp rfl _ _ _, v, rfl, ?_, hSW.below.trans (belowK_b (w := wd) (Nat.le_refl _) W D _ _ (by omega) hK rfl rfl)⟩
    exact Kd.R_of_own (ownsRow_putObj hrow _ hK rfl) (fun _ _ => trivial)
  case stop =>
    rintro D c pre W _ _ h _
    exact h.elim
set_option maxRecDepth 100000 in
set_option maxHeartbeats 4000000 in
theorem free_no (d r S : Int) (A1 A2 : Option Addr) (c1 c2 : Nat) (cs tk : List Int) (wd : World) (hg : ¬ GR d r S) (h1 : Kd.C (Kd.int .i64) wd A1 cs.length cs) (h2 : Kd.C (Kd.int .i64) wd A2 tk.length tk) :
    Calls Try.prog 15 #[.agg #[.int .i64 d, .int .i64 r, .int .i64 S], .slice A1 cs.length c1, .slice A2 tk.length c2] wd fun e w' => ∃ v0 : Value, e = .returned v0 ∧ Kd.R (Kd.int .i64) 3 w' wd.heap.size (fun _ => True) v0 ([] : List Int) ∧ Below wd.heap.size wd w' := by
  obtain ⟨i0, hi, hz0, hz1, hz2⟩ := info_parts infoInt1
  refine (callsIn_wide (n := 3)).1 ?_
  refine callsIn_of_wp_marks Try.func15 rfl trivial ?_ rfl
  simp only [Try.ntmps15, List.size_toArray, List.length_cons, List.length_nil, Nat.reduceAdd, Nat.reduceSub, Array.replicate_succ, Array.replicate_zero, List.push_toArray, List.append_toArray, List.nil_append, List.cons_append]
  gi_wp2_with (refine ⟨trivial, ?_⟩; gi_at_call 30; refine (callsIn_wide.2 (segments_calls d r S _ _ _ A1 A2 _ _ c1 c2 rfl rfl)).mono ?_; rintro e w' ⟨rfl, rfl⟩)
  have hB1 : Below wd.heap.size wd ((wd.alloc (.cells #[.int .i64 d, .int .i64 r, .int .i64 S] 23)).alloc (.cells #[.slice none 0 0] 24)) := ((Below.refl _ wd).alloc (Nat.le_refl _) _).alloc (by simp) _
  have hSW := segW_new d r S A1 A2 cs.length c1 tk.length c2 hB1 (wd.heap.size + 2) (by simp)
  have hO : Boxed ((wd.alloc (.cells #[.int .i64 d, .int .i64 r, .int .i64 S] 23)).alloc (.cells #[.slice none 0 0] 24)) (wd.heap.size + 1) 24 (.slice none 0 0) := by
    have h := Boxed.new (wd.alloc (.cells #[.int .i64 d, .int .i64 r, .int .i64 S] 23)) 24 (.slice none 0 0)
    rw [World.size_alloc] at h
    exact h
  have hO2 := ((hO.alloc (.cells #[.int .i64 d, .int .i64 r, .int .i64 S] 23)).alloc (.cells #[.slice A1 cs.length c1] 24)).alloc (.cells #[.slice A2 tk.length c2] 24)
  obtain ⟨W0, hW0⟩ : ∃ W0, ((((wd.alloc (.cells #[.int .i64 d, .int .i64 r, .int .i64 S] 23)).alloc (.cells #[.slice none 0 0] 24)).alloc (.cells #[.int .i64 d, .int .i64 r, .int .i64 S] 23)).alloc (.cells #[.slice A1 cs.length c1] 24)).alloc (.cells #[.slice A2 tk.length c2] 24) = W0 := ⟨_, rfl⟩
  have hsz : W0.heap.size = wd.heap.size + 5 := by rw [← hW0]; simp
  rw [hW0] at hSW hO2 ⊢
  refine wpIn_rangeFunc_ownG (w0 := W0) rfl (by decide) (gf := 41) (lb := #[.pointer (some ⟨wd.heap.size + 2, 0, none⟩), .pointer (some ⟨wd.heap.size + 3, 0, none⟩), .pointer (some ⟨wd.heap.size + 4, 0, none⟩)]) rfl trivial (enters_of Try.func41 (by kernel_rfl) rfl)
    (segs_stops_no 2 d r S (wd.heap.size + 2) (wd.heap.size + 3) (wd.heap.size + 4) A1 A2 c1 c2 cs tk hg (KpS wd.heap.size (wd.heap.size + 2) (wd.heap.size + 3) (wd.heap.size + 4)) W0 (hSW.env h1 h2))
    KpS.trans (fun W l o o' hl hw _ _ => KpS.put (B := W0.heap.size) (by omega) (by omega) (by omega) (by omega) W l o o' hl hw) (Below.refl _ _) (fun _ => rfl)
    (fun pre W => (∃ v, Boxed W (wd.heap.size + 1) 24 v ∧ W.ownsRow wd.heap.size 3 1 v (fr pre).length (encs (Value.int .i64) (fr pre)) ∧ True) ∧ SegW wd d r S (wd.heap.size + 2) (wd.heap.size + 3) (wd.heap.size + 4) A1 cs.length c1 A2 tk.length c2 W)
    (fun _ _ _ => False)
    (OwnFrom.and (Own.from (fr_own _ _) _) (fun _ W W' row hs hg hr => by
      refine hs.kp ⟨(Below.refl _ W).grown hg hs.below.size (fun k e => by have := (hr k e).1; omega), ?_, ?_, ?_⟩
      · exact hg.block _ (Array.getElem?_eq_some_iff.1 hs.g).1 (fun e => by have := (hr _ e.symm).1; omega)
      · exact hg.block _ hs.c.lt (fun e => by have := (hr _ e.symm).1; omega)
      · exact hg.block _ hs.t.lt (fun e => by have := (hr _ e.symm).1; omega)))
    (fun _ _ _ _ _ hs _ _ => hs)
    ⟨⟨_, hO2, World.ownsRow_nil _ _ _ _, trivial⟩, hSW⟩
    (fun x => { tmps := #[.agg #[.int .i64 d, .int .i64 r, .int .i64 S], .slice A1 cs.length c1, .slice A2 tk.length c2, .pointer (some ⟨wd.heap.size, 0, none⟩), undef, undef, .slice none 0 0, .pointer (some ⟨wd.heap.size + 1, 0, none⟩), .int .i64 (x.1 : Int), .int .i64 x.2, .agg #[.int .i64 d, .int .i64 r, .int .i64 S], .slice A1 cs.length c1, .slice A2 tk.length c2, .func (.func 41) #[] #[.pointer (some ⟨wd.heap.size + 2, 0, none⟩), .pointer (some ⟨wd.heap.size + 3, 0, none⟩), .pointer (some ⟨wd.heap.size + 4, 0, none⟩)], .int .i64 (x.1 : Int), .int .i64 x.2, undef, undef, undef, undef, undef, undef, undef], defers := [] }) ?assign ?body ?done ?stop
  case assign =>
    intro l x W K hK
    gi_wp2
    exact hK
  case body =>
    rintro l pre x W _ hlt
    exact absurd hlt (Nat.not_lt_zero _)
  case done =>
    rintro D ys W hD rfl ⟨⟨v, hv, hrow, _⟩, hSW⟩ hK
    have hc := hv.cell
    gi_wp2
    refine ⟨by simp, .inl ⟨_, _, rfl, run_takeDeferred hK, ?_⟩⟩
    refine ⟨_, results_tmp rfl _ _ _, v, rfl, ?_, hSW.below.trans (belowK_b (w := wd) (Nat.le_refl _) W D _ _ (by omega) hK rfl rfl)⟩
    exact Kd.R_of_own (ownsRow_putObj hrow _ hK rfl) (fun _ _ => trivial)
  case stop =>
    rintro D c pre W _ _ h _
    exact h.elim
open Classical in
noncomputable def freeV (d r s : Int) (cs tk : List Int) : List Int := if GR d r s then fr (segP cs tk s.toNat) else []
noncomputable def usage_Free.f (d r s : Int) (cs tk : List Int) : Option (List Int) := some (freeV d r s cs tk)
theorem usage_Free.calls (d r s : Int) (A1 : Option Addr) (c1 : Nat) (cs : List Int) (A2 : Option Addr) (c2 : Nat) (tk : List Int) (r1 : List Int) (w : World) (h1 : Kd.C (Kd.int .i64) w A1 cs.length cs) (hc1 : cs.length ≤ c1) (h2 : Kd.C (Kd.int .i64) w A2 tk.length tk) (hc2 : tk.length ≤ c2) (h : usage_Free.f d r s cs tk = some r1) :
    Calls Try.prog 15 #[.agg #[.int .i64 d, .int .i64 r, .int .i64 s], .slice A1 cs.length c1, .slice A2 tk.length c2] w fun e w' => ∃ v0_ : Value, e = .returned v0_ ∧ Kd.R (Kd.int .i64) 3 w' w.heap.size (fun _ => True) v0_ r1 ∧ Below w.heap.size w w' := by
  have h := Option.some.inj h
  subst h
  unfold freeV
  by_cases hg : GR d r s
  · rw [if_pos hg]
    obtain ⟨S, rfl⟩ : ∃ S : Nat, s = (S : Int) := ⟨s.toNat, by have := hg.1.s0; omega⟩
    rw [Int.toNat_natCast]
    exact free_yes d r S A1 A2 c1 c2 cs tk w hg h1 h2
  · rw [if_neg hg]
    exact free_no d r s A1 A2 c1 c2 cs tk w hg h1 h2
end Go.Proofs.Ytogdnolkheifcaa.Given
