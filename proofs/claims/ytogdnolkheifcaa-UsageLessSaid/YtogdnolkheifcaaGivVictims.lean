/- The contract of usage.Victims: by hand. -/
import Derived.Test.YtogdnolkheifcaaGivVsort
namespace Go.Proofs.Ytogdnolkheifcaa.Given
open Go.RowKit Go.Shelf Go.Proofs.YtogdnolkheifcaaW.PrintWords Go.Proofs.YtogdnolkheifcaaW.PrintLast Go.Proofs.YtogdnolkheifcaaW.PrintMore Go.Proofs.Ytogdnolkheifcaa.Base Go.Proofs.Ytogdnolkheifcaa.Pure
set_option linter.unusedVariables false
set_option linter.unusedSimpArgs false
attribute [local go_sem] Oper.semAt_some

/-- The segments in use. -/
def vs (p : List (Nat × Int)) : List Int := (p.filter fun q => decide (0 < q.2)).map fun q => (q.1 : Int)
theorem vs_hit (p : List (Nat × Int)) {x : Nat × Int} (h : 0 < x.2) : vs (p ++ [x]) = vs p ++ [(x.1 : Int)] := by simp [vs, h]
theorem vs_miss (p : List (Nat × Int)) {x : Nat × Int} (h : ¬ 0 < x.2) : vs (p ++ [x]) = vs p := by simp [vs, h]
theorem vs_len (p : List (Nat × Int)) : (vs p).length ≤ p.length := by
  unfold vs
  have := List.length_filter_le (fun q : Nat × Int => decide (0 < q.2)) p
  simpa using this
theorem vs_own (n₀ B : Nat) : Own (fun (pre : List (Nat × Int)) W => ∃ v, Boxed W B 24 v ∧ W.ownsRow n₀ 3 1 v (vs pre).length (encs (Value.int .i64) (vs pre)) ∧ True) :=
  holdsRow_own n₀ B 24 3 1 (fun pre => (vs pre).length) (fun pre => encs (Value.int .i64) (vs pre)) (fun _ _ => True)
/-- As many of the list's segments as there is room for. -/
def cutP (cs : List Int) : Int → List Int → List Int
  | _, [] => []
  | room, s :: l => if room < cs.getD s.toNat 0 then [] else s :: cutP cs (room - cs.getD s.toNat 0) l
theorem cutP_at (cs : List Int) (room : Int) (M : List Int) (j : Nat) (h : j < M.length) : cutP cs room (M.drop j) = if room < cs.getD (M.getD j 0).toNat 0 then [] else M.getD j 0 :: cutP cs (room - cs.getD (M.getD j 0).toNat 0) (M.drop (j + 1)) := by
  have e : M.drop j = M.getD j 0 :: M.drop (j + 1) := by
    rw [List.getD_eq_getElem?_getD, List.getElem?_eq_getElem h]
    exact List.drop_eq_getElem_cons h
  rw [e]; rfl
/-- What the cleaner takes. -/
def vicL (cs tk : List Int) (D : Int) (S : Nat) : List Int := cutP cs D (sortL cs (vs (segP cs tk S)))
def two (l : List Int) : List Int := if l.length < 2 then [] else l
theorem mem_vs {cs tk : List Int} {S : Nat} {x : Int} (h : x ∈ vs (segP cs tk S)) : ∃ s : Nat, x = s ∧ s < S ∧ ¬ (s : Int) ∈ tk ∧ 0 < cs.getD s 0 ∧ s < cs.length := by
  simp only [vs, segP, List.mem_map, List.mem_filter, List.mem_range, decide_eq_true_eq] at h
  obtain ⟨q, ⟨⟨s, ⟨h1, h2⟩, rfl⟩, h3⟩, rfl⟩ := h
  refine ⟨s, rfl, h1, h2, h3, ?_⟩
  rcases Nat.lt_or_ge s cs.length with h | h
  · exact h
  · rw [List.getD_eq_getElem?_getD, List.getElem?_eq_none h] at h3
    exact absurd h3 (by simp)
theorem vs_rises (cs tk : List Int) (S : Nat) : (vs (segP cs tk S)).Pairwise (· < ·) := by
  unfold vs segP
  rw [List.pairwise_map]
  refine List.Pairwise.filter _ ?_
  rw [List.pairwise_map]
  refine List.Pairwise.filter _ ?_
  exact List.pairwise_lt_range.imp fun h => by show ((_ : Nat) : Int) < _; omega
theorem SegW.row {wd W W' : World} {d r s : Int} {Bg Bc Bt n₀ k : Nat} {Ac At : Option Addr} {nc cc nt ct : Nat} {v : Value} {xs : List Value} (h : SegW wd d r s Bg Bc Bt Ac nc cc At nt ct W) (hrow : W.ownsRow n₀ 3 1 v k xs) (hg : W.grownBy W' v.ownBlock) (hb : Below wd.heap.size W W') : SegW wd d r s Bg Bc Bt Ac nc cc At nt ct W' :=
  h.kp ⟨hb, hg.block _ (Array.getElem?_eq_some_iff.1 h.g).1 (blk_not_row h.g (by decide) hrow), hg.block _ h.c.lt (blk_not_row h.c (by decide) hrow), hg.block _ h.t.lt (blk_not_row h.t (by decide) hrow)⟩
theorem deferred_row {W W' : World} {D n₀ k : Nat} {e : TypeId} {v : Value} {xs : List Value} {o : Obj} (h : W.heap[D]? = some o) (hrow : W.ownsRow n₀ e 1 v k xs) (hg : W.grownBy W' v.ownBlock) (ho : o.isCells = false := by rfl) : W'.heap[D]? = some o := by
  rw [hg.block D (Array.getElem?_eq_some_iff.1 h).1 ?_]
  · exact h
  · rcases hrow.2 with ⟨rfl, _⟩ | ⟨g, cap, cur, rfl, _, hh, _⟩
    · simp [Value.ownBlock]
    · intro he
      have : D = g := by simpa [Value.ownBlock] using he
      subst this
      rw [h] at hh
      injection hh with hh
      subst hh
      cases ho
theorem segW_first (d r s : Int) (A1 : Option Addr) (n1 c1 : Nat) (wd : World) : SegW wd d r s wd.heap.size (wd.heap.size + 1) (wd.heap.size + 1) A1 n1 c1 A1 n1 c1 ((wd.alloc (.cells #[.int .i64 d, .int .i64 r, .int .i64 s] 23)).alloc (.cells #[.slice A1 n1 c1] 24)) := by
  have g0 := World.alloc_heap_new wd (.cells #[.int .i64 d, .int .i64 r, .int .i64 s] 23)
  have b1 : Below (wd.heap.size + 1) (wd.alloc (.cells #[.int .i64 d, .int .i64 r, .int .i64 s] 23)) ((wd.alloc (.cells #[.int .i64 d, .int .i64 r, .int .i64 s] 23)).alloc (.cells #[.slice A1 n1 c1] 24)) := (Below.refl _ _).alloc (by simp) _
  have c0 := Boxed.new (wd.alloc (.cells #[.int .i64 d, .int .i64 r, .int .i64 s] 23)) 24 (.slice A1 n1 c1)
  simp only [World.size_alloc] at c0
  refine ⟨?_, ?_, c0, c0⟩
  · exact ((Below.refl _ wd).alloc (Nat.le_refl _) _).alloc (by simp) _
  · rw [b1.block _ (by omega)]; exact g0
set_option maxRecDepth 100000 in
set_option maxHeartbeats 4000000 in
theorem vic_yes (d r : Int) (S : Nat) (A1 A2 : Option Addr) (c1 c2 : Nat) (cs tk : List Int) (wd : World) (hg : GR d r (S : Int)) (hmost : (vs (segP cs tk S)).length < sortMost) (h1 : Kd.C (Kd.int .i64) wd A1 cs.length cs) (h2 : Kd.C (Kd.int .i64) wd A2 tk.length tk) :
    Calls Try.prog 17 #[.agg #[.int .i64 d, .int .i64 r, .int .i64 S], .slice A1 cs.length c1, .slice A2 tk.length c2] wd fun e w' => ∃ v0 : Value, e = .returned v0 ∧ Kd.R (Kd.int .i64) 3 w' wd.heap.size (fun _ => True) v0 (two (vicL cs tk (pl d r) S)) ∧ Below wd.heap.size wd w' := by
  have HS : Hid (S ≤ 64) := by show S ≤ 64; have := hg.1.s1; omega
  obtain ⟨i0, hi, hz0, hz1, hz2⟩ := info_parts infoInt1
  refine (callsIn_wide (n := 3)).1 ?_
  refine callsIn_of_wp_marks Try.func17 rfl trivial ?_ rfl
  simp only [Try.ntmps17, List.size_toArray, List.length_cons, List.length_nil, Nat.reduceAdd, Nat.reduceSub, Array.replicate_succ, Array.replicate_zero, List.push_toArray, List.append_toArray, List.nil_append, List.cons_append]
  gi_wp2_with (refine ⟨trivial, ?_⟩; gi_at_call 30; refine (callsIn_wide.2 (segments_calls d r S _ _ _ A1 A2 _ _ c1 c2 rfl rfl)).mono ?_; rintro e w' ⟨rfl, rfl⟩)
  have hB1 : Below wd.heap.size wd (((wd.alloc (.cells #[.int .i64 d, .int .i64 r, .int .i64 S] 23)).alloc (.cells #[.slice A1 cs.length c1] 24)).alloc (.cells #[.slice none 0 0] 24)) := (((Below.refl _ wd).alloc (Nat.le_refl _) _).alloc (by simp) _).alloc (by simp; omega) _
  have hSW := segW_new d r S A1 A2 cs.length c1 tk.length c2 hB1 (wd.heap.size + 3) (by simp)
  have hO : Boxed (((wd.alloc (.cells #[.int .i64 d, .int .i64 r, .int .i64 S] 23)).alloc (.cells #[.slice A1 cs.length c1] 24)).alloc (.cells #[.slice none 0 0] 24)) (wd.heap.size + 2) 24 (.slice none 0 0) := by
    have h := Boxed.new ((wd.alloc (.cells #[.int .i64 d, .int .i64 r, .int .i64 S] 23)).alloc (.cells #[.slice A1 cs.length c1] 24)) 24 (.slice none 0 0)
    rw [World.size_alloc, World.size_alloc] at h
    exact h
  have hO2 := ((hO.alloc (.cells #[.int .i64 d, .int .i64 r, .int .i64 S] 23)).alloc (.cells #[.slice A1 cs.length c1] 24)).alloc (.cells #[.slice A2 tk.length c2] 24)
  have hS0 := segW_first d r S A1 cs.length c1 wd
  have hS2 := hS0.step (W' := (((((wd.alloc (.cells #[.int .i64 d, .int .i64 r, .int .i64 S] 23)).alloc (.cells #[.slice A1 cs.length c1] 24)).alloc (.cells #[.slice none 0 0] 24)).alloc (.cells #[.int .i64 d, .int .i64 r, .int .i64 S] 23)).alloc (.cells #[.slice A1 cs.length c1] 24)).alloc (.cells #[.slice A2 tk.length c2] 24)) (((((Below.refl _ _).alloc (Nat.le_refl _) _).alloc (by simp) _).alloc (by simp) _).alloc (by simp) _)
  obtain ⟨W0, hW0⟩ : ∃ W0, (((((wd.alloc (.cells #[.int .i64 d, .int .i64 r, .int .i64 S] 23)).alloc (.cells #[.slice A1 cs.length c1] 24)).alloc (.cells #[.slice none 0 0] 24)).alloc (.cells #[.int .i64 d, .int .i64 r, .int .i64 S] 23)).alloc (.cells #[.slice A1 cs.length c1] 24)).alloc (.cells #[.slice A2 tk.length c2] 24) = W0 := ⟨_, rfl⟩
  have hsz : W0.heap.size = wd.heap.size + 6 := by rw [← hW0]; simp
  rw [hW0] at hSW hO2 hS2 ⊢
  refine wpIn_rangeFunc_ownG (w0 := W0) rfl (by decide) (gf := 41) (lb := #[.pointer (some ⟨wd.heap.size + 3, 0, none⟩), .pointer (some ⟨wd.heap.size + 4, 0, none⟩), .pointer (some ⟨wd.heap.size + 5, 0, none⟩)]) rfl trivial (enters_of Try.func41 (by kernel_rfl) rfl)
    (segs_stops 2 d r S (wd.heap.size + 3) (wd.heap.size + 4) (wd.heap.size + 5) A1 A2 c1 c2 cs tk hg (KpS wd.heap.size (wd.heap.size + 3) (wd.heap.size + 4) (wd.heap.size + 5)) (SegW wd d r S (wd.heap.size + 3) (wd.heap.size + 4) (wd.heap.size + 5) A1 cs.length c1 A2 tk.length c2) (fun W h => h.env h1 h2) (fun W W' h k => h.kp k) (fun W W' h k => h.step k) W0 hSW)
    KpS.trans (fun W l o o' hl hw _ _ => KpS.put (B := W0.heap.size) (by omega) (by omega) (by omega) (by omega) W l o o' hl hw) (Below.refl _ _) (fun _ => rfl)
    (fun pre W => (∃ v, Boxed W (wd.heap.size + 2) 24 v ∧ W.ownsRow wd.heap.size 3 1 v (vs pre).length (encs (Value.int .i64) (vs pre)) ∧ True) ∧ SegW wd d r S (wd.heap.size + 3) (wd.heap.size + 4) (wd.heap.size + 5) A1 cs.length c1 A2 tk.length c2 W ∧ SegW wd d r S wd.heap.size (wd.heap.size + 1) (wd.heap.size + 1) A1 cs.length c1 A1 cs.length c1 W)
    (fun _ _ _ => False)
    (OwnFrom.and (Own.from (vs_own _ _) _) (OwnFrom.and (fun _ W W' row hs hg hr => by
      refine hs.kp ⟨(Below.refl _ W).grown hg hs.below.size (fun k e => by have := (hr k e).1; omega), ?_, ?_, ?_⟩
      · exact hg.block _ (Array.getElem?_eq_some_iff.1 hs.g).1 (fun e => by have := (hr _ e.symm).1; omega)
      · exact hg.block _ hs.c.lt (fun e => by have := (hr _ e.symm).1; omega)
      · exact hg.block _ hs.t.lt (fun e => by have := (hr _ e.symm).1; omega)) (fun _ W W' row hs hg hr => by
      refine hs.kp ⟨(Below.refl _ W).grown hg hs.below.size (fun k e => by have := (hr k e).1; omega), ?_, ?_, ?_⟩
      · exact hg.block _ (Array.getElem?_eq_some_iff.1 hs.g).1 (fun e => by have := (hr _ e.symm).1; omega)
      · exact hg.block _ hs.c.lt (fun e => by have := (hr _ e.symm).1; omega)
      · exact hg.block _ hs.t.lt (fun e => by have := (hr _ e.symm).1; omega))))
    (fun _ _ _ _ _ hs _ _ => hs)
    ⟨⟨_, hO2, World.ownsRow_nil _ _ _ _, trivial⟩, hSW, hS2⟩
    (fun x => { tmps := #[.agg #[.int .i64 d, .int .i64 r, .int .i64 S], .slice A1 cs.length c1, .slice A2 tk.length c2, .pointer (some ⟨wd.heap.size, 0, none⟩), .pointer (some ⟨wd.heap.size + 1, 0, none⟩), undef, .slice none 0 0, .pointer (some ⟨wd.heap.size + 2, 0, none⟩), .int .i64 (x.1 : Int), .int .i64 x.2, undef, undef, undef, .agg #[.int .i64 d, .int .i64 r, .int .i64 S], .slice A1 cs.length c1, .slice A2 tk.length c2, .func (.func 41) #[] #[.pointer (some ⟨wd.heap.size + 3, 0, none⟩), .pointer (some ⟨wd.heap.size + 4, 0, none⟩), .pointer (some ⟨wd.heap.size + 5, 0, none⟩)], .int .i64 (x.1 : Int), .int .i64 x.2, undef, undef, undef, undef, undef, undef, undef, undef, undef, undef, undef, undef, undef, undef, undef, undef, undef, undef, undef, undef, undef, undef, undef, undef, undef, undef, undef, undef, undef, undef, undef, undef, undef, undef, undef, undef, undef, undef], defers := [] }) ?assign ?body ?done ?stop
  case assign =>
    intro l x W K hK
    gi_wp2
    exact hK
  case body =>
    rintro l pre x W ⟨⟨v, hv, hrow, _⟩, hSW, hS2⟩ hlt
    have hc := hv.cell
    have hpl := vs_len pre
    have hS := HS.out
    by_cases hx : 0 < x.2
    · have hxb : decide (0 < x.2) = true := decide_eq_true hx
      have HX := Lib.hid hx
      gi_wp2_with (gi_at_builtin; refine wpListIn_append_own _ rfl _ _ 24 rfl wd.heap.size 3 i0 (.int .i64 0) 1 8 Try.underlying24 hi hz0 hz1 hz2 rfl (by decide) _ _ _ rfl (hrow.alloc _) ⟨W.heap.size, 0, none⟩ 1 1 [.int .i64 (x.1 : Int)] rfl rfl (cell_one_new _ _ _) (by simp [Value.oneCell']) (by unfold maxLen; omega) (by omega) (by have := hSW.below.size; simp; omega) ?_; intro v' w1 hown' hgrow _; obtain ⟨g', cap', rfl⟩ := ownsRow_succ hown'; obtain ⟨hv1, hv2, hr2, hk2, hb2⟩ := hv.appended (by decide) hrow hSW.below.size (by omega) hown' hgrow; have hKP := KpS.app hSW hrow hgrow hb2 (by omega) (by omega) (by omega); have hKP2 := KpS.app hS2 hrow hgrow hb2 (by omega) (by omega) (by omega); have hc1 := hv1.cell; have hf1 := hv1.frozen)
      refine ⟨hk2.from _, hKP, ⟨_, hv2, ?_, trivial⟩, hSW.kp hKP, hS2.kp hKP2⟩
      rw [vs_hit pre HX.out, List.length_append, encs_append]
      exact hr2
    · have hxb : decide (0 < x.2) = false := decide_eq_false hx
      have hxc : x.2 ≤ 0 := by omega
      have HX := Lib.hid hx
      clear hx
      gi_wp2
      refine ⟨KeepsFrom.refl _ _, KpS.refl _ _ _ _ _, ⟨v, hv, ?_⟩, hSW, hS2⟩
      rw [vs_miss pre (by have := HX.out; omega)]
      first | exact hrow | exact ⟨hrow, trivial⟩
  case done =>
    rintro D ys W hD rfl ⟨⟨v, hv, hrow, _⟩, hSW, hS2⟩ hK
    obtain ⟨A, c, rfl, _⟩ := own_reads_of (d := (0 : Int)) hrow
    have hc := hv.cell
    have hcw : CmpW wd (wd.heap.size + 1) A1 c1 cs W := ⟨hS2.below, hS2.c, h1⟩
    have hrl : ∀ x ∈ vs (segP cs tk S), 0 ≤ x ∧ x < (cs.length : Int) := fun x hx => by
      obtain ⟨s, rfl, _, _, _, hs⟩ := mem_vs hx
      omega
    gi_wp2_with (refine ⟨trivial, ?_⟩; gi_at_call 32; refine (callsIn_wide.2 (vsort_calls wd W (wd.heap.size + 1) c1 A1 cs A _ c (vs (segP cs tk S)) hrow (vs_rises cs tk S) hrl hcw hmost)).mono ?_; rintro e w3 ⟨rfl, hO3, hB3, hG3⟩; have hS3 := hS2.row hrow hG3 hB3; have hv3 : Boxed w3 (wd.heap.size + 2) 24 _ := hv.kept hG3 (hv.not_row (by decide) hrow); have hK3 := deferred_row hK hrow hG3; have hc3 := hv3.cell; have hg0 : w3.cell? ⟨wd.heap.size, 0, none⟩ = some (.int .i64 d) := (blk_cell hS3.g 0).trans rfl; have hg1 : w3.cell? ⟨wd.heap.size, 1, none⟩ = some (.int .i64 r) := (blk_cell hS3.g 1).trans rfl; have hg2 : w3.cell? ⟨wd.heap.size, 2, none⟩ = some (.int .i64 S) := (blk_cell hS3.g 2).trans rfl)
    have HO3 := Lib.hid hO3
    have HS3 := Lib.hid hS3
    have HV3 := Lib.hid hv3
    have HK3 := Lib.hid hK3
    have hD6 : wd.heap.size + 6 ≤ D := by omega
    have hl3 : (vs (segP cs tk S)).length ≤ 64 := by have h := vs_len (segP cs tk S); have h2 := segP_len cs tk S; have h3 := HS.out; omega
    obtain ⟨M, hM⟩ : ∃ M, sortL cs (vs (segP cs tk S)) = M := ⟨_, rfl⟩
    have HM := Lib.hid hM
    have HMm : Hid (∀ x ∈ M, ∃ s : Nat, x = s ∧ s < cs.length ∧ 0 < cs.getD s 0) := by
      intro x hx
      rw [← hM] at hx
      obtain ⟨s, e, _, _, h3, h4⟩ := mem_vs ((sortL_perm _ _).mem_iff.1 hx)
      exact ⟨s, e, h4, h3⟩
    obtain ⟨n, hn⟩ : ∃ n, (vs (segP cs tk S)).length = n := ⟨_, rfl⟩
    have HN : Hid (M.length = n) := by show _ = _; rw [← hM, (sortL_perm _ _).length_eq, hn]
    rw [hM, hn] at HO3
    rw [hn] at HV3 hc3 hl3 ⊢
    have HP := Lib.hid (Places_pos hg)
    have hpb := pl_bd hg.1
    obtain ⟨P, hP⟩ : ∃ P, pl d r = P := ⟨_, rfl⟩
    rw [hP] at HP hpb
    have hp1 := hpb.1
    have hp2 := hpb.2
    have HPP := Lib.hid hP
    clear hM hn hO3 hS3 hv3 hK3 hB3 hG3 hrl hcw hc hv hrow hSW hS2 hK hg hP hpb hmost
    gi_wp2_with (refine ⟨trivial, ?_⟩; gi_at_call 21; refine (callsIn_wide.2 (geo_Places.calls d r S P _ HP.out)).mono ?_; rintro e w4 ⟨rfl, hB4⟩; have HO4 := Lib.hid (HO3.out.below hB4); have HS4 := Lib.hid (HS3.out.step hB4); have HV4 : Hid (Boxed w4 _ _ _) := Lib.hid (blk_below HV3.out hB4); have HK4 := Lib.hid ((hB4.block D (Array.getElem?_eq_some_iff.1 HK3.out).1).trans HK3.out); have hc4 := HV4.out.cell; clear hB4)
    have hcap : n ≤ c := HO4.out.C.2
    clear HO3 HS3 HV3 HK3 hc3 hg0 hg1 hg2
    gi_loopw [10, 32] (fun rm i wr => ∃ (j : Nat) (x : Int), j ≤ n ∧ i = .int .i64 j ∧ rm = .int .i64 x ∧ 0 ≤ x ∧ x ≤ 59 ∧ Hid (cutP cs P M = M.take j ++ cutP cs x (M.drop j)) ∧ w4 = wr) (fun _ i _ => n - (intOf i).toNat)
    case atStart => exact ⟨0, P, Nat.zero_le _, rfl, rfl, by omega, hp2, Lib.hid (by simp), rfl⟩
    case round =>
      obtain ⟨j, x, hj, rfl, rfl, hx0, hx1, HCU, rfl⟩ := hrel
      by_cases hlt : j < n
      · obtain ⟨g, hA, _, _⟩ := HO4.out.form (by omega)
        subst hA
        have hcell := (own_at_of (d := (0 : Int)) HO4.out (j : Int) (by omega) (by omega)).1
        simp only [rdOf, Int.toNat_natCast] at hcell
        have hmem : M.getD j 0 ∈ M := by
          rw [List.getD_eq_getElem?_getD, List.getElem?_eq_getElem (by rw [HN.out]; exact hlt)]
          exact List.getElem_mem _
        obtain ⟨s, hs, hsl, hsp⟩ := HMm.out _ hmem
        rw [hs] at hcell
        have HCU2 := cutP_at cs x M j (by rw [HN.out]; exact hlt)
        rw [hs, Int.toNat_natCast] at HCU2
        have HTK : Hid (M.take (j + 1) = M.take j ++ [(s : Int)]) := by
          show _ = _
          rw [List.take_succ_eq_append_getElem (by rw [HN.out]; exact hlt), ← hs, List.getD_eq_getElem?_getD, List.getElem?_eq_getElem (by rw [HN.out]; exact hlt)]; rfl
        have hbc := HS4.out.c.cell
        have hbf := HV4.out.frozen
        obtain ⟨b, off, hA1, hcl⟩ := addr_of_C (Kd.C_below h1 HS4.out.below) (by omega)
        subst hA1
        have hcell2 := hcl s hsl
        have hcl2 : (cs.length : Int) ≤ 9223372036854775807 := by have := (Kd.reads_of_C (d := (0 : Int)) h1).2.1; omega
        obtain ⟨y, hy⟩ : ∃ y, cs.getD s 0 = y := ⟨_, rfl⟩
        rw [hy] at hcell2 hsp HCU2
        have HCU3 := Lib.hid HCU2
        have hsl' : (s : Int) < (cs.length : Int) := by omega
        have hjc : j ≤ c := by omega
        clear hcl hmem hs HCU2 hy
        by_cases hxy : x < y
        · have HFIN : Hid (vicL cs tk P S = M.take j) := by
            show _ = _
            unfold vicL
            rw [HM.out, HCU.out, HCU3.out, if_pos hxy, List.append_nil]
          have HOJ := Lib.hid (own_cut HO4.out hj)
          have HJL : Hid ((M.take j).length = j) := by show _ = _; rw [List.length_take, HN.out]; omega
          have HK5 := Lib.hid ((KeepsOthers.setCell w4 ⟨wd.heap.size + 2, 0, none⟩ (.slice (some ⟨g, 0, none⟩) j c)).same D _ HK4.out rfl)
          have HB5 := Lib.hid (below_set' HS4.out.below (wd.heap.size + 2) 0 (by omega) (.slice (some ⟨g, 0, none⟩) j c))
          have HO5 : Hid (OI (w4.setCell ⟨wd.heap.size + 2, 0, none⟩ (.slice (some ⟨g, 0, none⟩) j c)) wd.heap.size (some ⟨g, 0, none⟩) j c (M.take j)) := OI.other HOJ.out (grownBy_setCell' w4 (wd.heap.size + 2) _) (fun g' e he => by cases e; cases he; exact (HV4.out.not_row (by decide) HO4.out) rfl)
          by_cases h2j : j < 2
          · gi_wp2
            refine ⟨by simp, .inl ⟨_, _, rfl, run_takeDeferred (HK5.out), ?_⟩⟩
            refine ⟨_, results_tmp rfl _ _ _, _, rfl, ?_, (HB5.out).trans (belowK_b (w := wd) (Nat.le_refl _) _ D _ _ (by omega) (HK5.out) rfl rfl)⟩
            rw [HPP.out, HFIN.out]; unfold two; rw [if_pos (by rw [HJL.out]; exact h2j)]; exact Kd.R_nil _ _ _ _ _
          · gi_wp2
            refine ⟨by simp, .inl ⟨_, _, rfl, run_takeDeferred (HK5.out), ?_⟩⟩
            refine ⟨_, results_tmp rfl _ _ _, _, rfl, ?_, (HB5.out).trans (belowK_b (w := wd) (Nat.le_refl _) _ D _ _ (by omega) (HK5.out) rfl rfl)⟩
            rw [HPP.out, HFIN.out]; unfold two; rw [if_neg (by rw [HJL.out]; exact h2j)]; exact Kd.R_of_own (by rw [HJL.out]; exact ownsRow_putObj HO5.out _ HK5.out rfl) (fun _ _ => trivial)
        · have hxy' : y ≤ x := by omega
          gi_wp2
          go_roundw
          case rel =>
            refine ⟨j + 1, x - y, by omega, by go_num, rfl, by omega, by omega, ?_, trivial⟩
            show _ = _
            rw [HCU.out, HCU3.out, if_neg hxy, HTK.out, List.append_assoc]; first | rfl | trivial
          case measure => simp [intOf]; omega
      · have hjn : j = n := by omega
        subst hjn
        have HFIN : Hid (vicL cs tk P S = M) := by
          show _ = _
          unfold vicL
          rw [HM.out, HCU.out, ← HN.out, List.take_length, List.drop_length]
          simp [cutP]
        by_cases h2j : j < 2
        · gi_wp2
          refine ⟨by simp, .inl ⟨_, _, rfl, run_takeDeferred (HK4.out), ?_⟩⟩
          refine ⟨_, results_tmp rfl _ _ _, _, rfl, ?_, (HS4.out.below).trans (belowK_b (w := wd) (Nat.le_refl _) _ D _ _ (by omega) (HK4.out) rfl rfl)⟩
          rw [HPP.out, HFIN.out]; unfold two; rw [if_pos (by rw [HN.out]; exact h2j)]; exact Kd.R_nil _ _ _ _ _
        · gi_wp2
          refine ⟨by simp, .inl ⟨_, _, rfl, run_takeDeferred (HK4.out), ?_⟩⟩
          refine ⟨_, results_tmp rfl _ _ _, _, rfl, ?_, (HS4.out.below).trans (belowK_b (w := wd) (Nat.le_refl _) _ D _ _ (by omega) (HK4.out) rfl rfl)⟩
          rw [HPP.out, HFIN.out]; unfold two; rw [if_neg (by rw [HN.out]; exact h2j)]; exact Kd.R_of_own (by rw [HN.out]; exact ownsRow_putObj HO4.out _ HK4.out rfl) (fun _ _ => trivial)
  case stop =>
    rintro D c pre W _ _ h _
    exact h.elim
set_option maxRecDepth 100000 in
set_option maxHeartbeats 4000000 in
theorem vic_no (d r S : Int) (A1 A2 : Option Addr) (c1 c2 : Nat) (cs tk : List Int) (wd : World) (hg : ¬ GR d r S) (h1 : Kd.C (Kd.int .i64) wd A1 cs.length cs) (h2 : Kd.C (Kd.int .i64) wd A2 tk.length tk) :
    Calls Try.prog 17 #[.agg #[.int .i64 d, .int .i64 r, .int .i64 S], .slice A1 cs.length c1, .slice A2 tk.length c2] wd fun e w' => ∃ v0 : Value, e = .returned v0 ∧ Kd.R (Kd.int .i64) 3 w' wd.heap.size (fun _ => True) v0 ([] : List Int) ∧ Below wd.heap.size wd w' := by
  obtain ⟨i0, hi, hz0, hz1, hz2⟩ := info_parts infoInt1
  refine (callsIn_wide (n := 3)).1 ?_
  refine callsIn_of_wp_marks Try.func17 rfl trivial ?_ rfl
  simp only [Try.ntmps17, List.size_toArray, List.length_cons, List.length_nil, Nat.reduceAdd, Nat.reduceSub, Array.replicate_succ, Array.replicate_zero, List.push_toArray, List.append_toArray, List.nil_append, List.cons_append]
  gi_wp2_with (refine ⟨trivial, ?_⟩; gi_at_call 30; refine (callsIn_wide.2 (segments_calls d r S _ _ _ A1 A2 _ _ c1 c2 rfl rfl)).mono ?_; rintro e w' ⟨rfl, rfl⟩)
  have hB1 : Below wd.heap.size wd (((wd.alloc (.cells #[.int .i64 d, .int .i64 r, .int .i64 S] 23)).alloc (.cells #[.slice A1 cs.length c1] 24)).alloc (.cells #[.slice none 0 0] 24)) := (((Below.refl _ wd).alloc (Nat.le_refl _) _).alloc (by simp) _).alloc (by simp; omega) _
  have hSW := segW_new d r S A1 A2 cs.length c1 tk.length c2 hB1 (wd.heap.size + 3) (by simp)
  have hO : Boxed (((wd.alloc (.cells #[.int .i64 d, .int .i64 r, .int .i64 S] 23)).alloc (.cells #[.slice A1 cs.length c1] 24)).alloc (.cells #[.slice none 0 0] 24)) (wd.heap.size + 2) 24 (.slice none 0 0) := by
    have h := Boxed.new ((wd.alloc (.cells #[.int .i64 d, .int .i64 r, .int .i64 S] 23)).alloc (.cells #[.slice A1 cs.length c1] 24)) 24 (.slice none 0 0)
    rw [World.size_alloc, World.size_alloc] at h
    exact h
  have hO2 := ((hO.alloc (.cells #[.int .i64 d, .int .i64 r, .int .i64 S] 23)).alloc (.cells #[.slice A1 cs.length c1] 24)).alloc (.cells #[.slice A2 tk.length c2] 24)
  have hS0 := segW_first d r S A1 cs.length c1 wd
  have hS2 := hS0.step (W' := (((((wd.alloc (.cells #[.int .i64 d, .int .i64 r, .int .i64 S] 23)).alloc (.cells #[.slice A1 cs.length c1] 24)).alloc (.cells #[.slice none 0 0] 24)).alloc (.cells #[.int .i64 d, .int .i64 r, .int .i64 S] 23)).alloc (.cells #[.slice A1 cs.length c1] 24)).alloc (.cells #[.slice A2 tk.length c2] 24)) (((((Below.refl _ _).alloc (Nat.le_refl _) _).alloc (by simp) _).alloc (by simp) _).alloc (by simp) _)
  obtain ⟨W0, hW0⟩ : ∃ W0, (((((wd.alloc (.cells #[.int .i64 d, .int .i64 r, .int .i64 S] 23)).alloc (.cells #[.slice A1 cs.length c1] 24)).alloc (.cells #[.slice none 0 0] 24)).alloc (.cells #[.int .i64 d, .int .i64 r, .int .i64 S] 23)).alloc (.cells #[.slice A1 cs.length c1] 24)).alloc (.cells #[.slice A2 tk.length c2] 24) = W0 := ⟨_, rfl⟩
  have hsz : W0.heap.size = wd.heap.size + 6 := by rw [← hW0]; simp
  rw [hW0] at hSW hO2 hS2 ⊢
  refine wpIn_rangeFunc_ownG (w0 := W0) rfl (by decide) (gf := 41) (lb := #[.pointer (some ⟨wd.heap.size + 3, 0, none⟩), .pointer (some ⟨wd.heap.size + 4, 0, none⟩), .pointer (some ⟨wd.heap.size + 5, 0, none⟩)]) rfl trivial (enters_of Try.func41 (by kernel_rfl) rfl)
    (segs_stops_no 2 d r S (wd.heap.size + 3) (wd.heap.size + 4) (wd.heap.size + 5) A1 A2 c1 c2 cs tk hg (KpS wd.heap.size (wd.heap.size + 3) (wd.heap.size + 4) (wd.heap.size + 5)) W0 (hSW.env h1 h2))
    KpS.trans (fun W l o o' hl hw _ _ => KpS.put (B := W0.heap.size) (by omega) (by omega) (by omega) (by omega) W l o o' hl hw) (Below.refl _ _) (fun _ => rfl)
    (fun pre W => (∃ v, Boxed W (wd.heap.size + 2) 24 v ∧ W.ownsRow wd.heap.size 3 1 v (vs pre).length (encs (Value.int .i64) (vs pre)) ∧ True) ∧ SegW wd d r S (wd.heap.size + 3) (wd.heap.size + 4) (wd.heap.size + 5) A1 cs.length c1 A2 tk.length c2 W ∧ SegW wd d r S wd.heap.size (wd.heap.size + 1) (wd.heap.size + 1) A1 cs.length c1 A1 cs.length c1 W)
    (fun _ _ _ => False)
    (OwnFrom.and (Own.from (vs_own _ _) _) (OwnFrom.and (fun _ W W' row hs hg hr => by
      refine hs.kp ⟨(Below.refl _ W).grown hg hs.below.size (fun k e => by have := (hr k e).1; omega), ?_, ?_, ?_⟩
      · exact hg.block _ (Array.getElem?_eq_some_iff.1 hs.g).1 (fun e => by have := (hr _ e.symm).1; omega)
      · exact hg.block _ hs.c.lt (fun e => by have := (hr _ e.symm).1; omega)
      · exact hg.block _ hs.t.lt (fun e => by have := (hr _ e.symm).1; omega)) (fun _ W W' row hs hg hr => by
      refine hs.kp ⟨(Below.refl _ W).grown hg hs.below.size (fun k e => by have := (hr k e).1; omega), ?_, ?_, ?_⟩
      · exact hg.block _ (Array.getElem?_eq_some_iff.1 hs.g).1 (fun e => by have := (hr _ e.symm).1; omega)
      · exact hg.block _ hs.c.lt (fun e => by have := (hr _ e.symm).1; omega)
      · exact hg.block _ hs.t.lt (fun e => by have := (hr _ e.symm).1; omega))))
    (fun _ _ _ _ _ hs _ _ => hs)
    ⟨⟨_, hO2, World.ownsRow_nil _ _ _ _, trivial⟩, hSW, hS2⟩
    (fun x => { tmps := #[.agg #[.int .i64 d, .int .i64 r, .int .i64 S], .slice A1 cs.length c1, .slice A2 tk.length c2, .pointer (some ⟨wd.heap.size, 0, none⟩), .pointer (some ⟨wd.heap.size + 1, 0, none⟩), undef, .slice none 0 0, .pointer (some ⟨wd.heap.size + 2, 0, none⟩), .int .i64 (x.1 : Int), .int .i64 x.2, undef, undef, undef, .agg #[.int .i64 d, .int .i64 r, .int .i64 S], .slice A1 cs.length c1, .slice A2 tk.length c2, .func (.func 41) #[] #[.pointer (some ⟨wd.heap.size + 3, 0, none⟩), .pointer (some ⟨wd.heap.size + 4, 0, none⟩), .pointer (some ⟨wd.heap.size + 5, 0, none⟩)], .int .i64 (x.1 : Int), .int .i64 x.2, undef, undef, undef, undef, undef, undef, undef, undef, undef, undef, undef, undef, undef, undef, undef, undef, undef, undef, undef, undef, undef, undef, undef, undef, undef, undef, undef, undef, undef, undef, undef, undef, undef, undef, undef, undef, undef, undef], defers := [] }) ?assign ?body ?done ?stop
  case assign =>
    intro l x W K hK
    gi_wp2
    exact hK
  case body =>
    rintro l pre x W _ hlt
    exact absurd hlt (Nat.not_lt_zero _)
  case done =>
    rintro D ys W hD rfl ⟨⟨v, hv, hrow, _⟩, hSW, hS2⟩ hK
    obtain ⟨A, c, rfl, _⟩ := own_reads_of (d := (0 : Int)) hrow
    have hc := hv.cell
    have hvs : (vs ([] : List (Nat × Int))).length = 0 := rfl
    rw [hvs] at hc hv
    have hg0 : W.cell? ⟨wd.heap.size, 0, none⟩ = some (.int .i64 d) := (blk_cell hS2.g 0).trans rfl
    have hg1 : W.cell? ⟨wd.heap.size, 1, none⟩ = some (.int .i64 r) := (blk_cell hS2.g 1).trans rfl
    have hg2 : W.cell? ⟨wd.heap.size, 2, none⟩ = some (.int .i64 S) := (blk_cell hS2.g 2).trans rfl
    gi_wp2_with (refine ⟨trivial, ?_⟩; gi_at_call 32; refine (callsIn_wide.2 (sortStable0 A c _ _ W)).mono ?_; rintro e w3 ⟨rfl, rfl⟩)
    have HS3 := Lib.hid hS2
    have HK3 := Lib.hid hK
    have HV3 := Lib.hid hv
    have HP := Lib.hid (Places_neg hg)
    clear hc hv hrow hSW hS2 hK hg hvs
    gi_wp2_with (refine ⟨trivial, ?_⟩; gi_at_call 21; refine (callsIn_wide.2 (geo_Places.calls d r S 0 _ HP.out)).mono ?_; rintro e w4 ⟨rfl, hB4⟩; have HB4 := Lib.hid (HS3.out.step hB4).below; have HK4 := Lib.hid ((hB4.block D (Array.getElem?_eq_some_iff.1 HK3.out).1).trans HK3.out); have HV4 : Hid (Boxed w4 _ _ _) := Lib.hid (blk_below HV3.out hB4); have hc4 := HV4.out.cell; clear hB4)
    gi_loopw [10, 32] (fun rm i wr => i = .int .i64 0 ∧ w4 = wr) (fun _ i _ => 1 - (intOf i).toNat)
    case atStart => exact ⟨rfl, rfl⟩
    case round =>
      obtain ⟨rfl, rfl⟩ := hrel
      gi_wp2
      refine ⟨by simp, .inl ⟨_, _, rfl, run_takeDeferred (HK4.out), ?_⟩⟩
      refine ⟨_, results_tmp rfl _ _ _, _, rfl, ?_, (HB4.out).trans (belowK_b (w := wd) (Nat.le_refl _) _ D _ _ (by omega) (HK4.out) rfl rfl)⟩
      exact Kd.R_nil _ _ _ _ _
  case stop =>
    rintro D c pre W _ _ h _
    exact h.elim
open Classical in
noncomputable def usage_Victims.f (d r s : Int) (cs tk : List Int) : Option (List Int) := if GR d r s ∧ ¬ (vs (segP cs tk s.toNat)).length < sortMost then none else some (if GR d r s then two (vicL cs tk (pl d r) s.toNat) else [])
theorem usage_Victims.calls (d r s : Int) (A1 : Option Addr) (c1 : Nat) (cs : List Int) (A2 : Option Addr) (c2 : Nat) (tk : List Int) (r1 : List Int) (w : World) (h1 : Kd.C (Kd.int .i64) w A1 cs.length cs) (hc1 : cs.length ≤ c1) (h2 : Kd.C (Kd.int .i64) w A2 tk.length tk) (hc2 : tk.length ≤ c2) (h : usage_Victims.f d r s cs tk = some r1) :
    Calls Try.prog 17 #[.agg #[.int .i64 d, .int .i64 r, .int .i64 s], .slice A1 cs.length c1, .slice A2 tk.length c2] w fun e w' => ∃ v0_ : Value, e = .returned v0_ ∧ Kd.R (Kd.int .i64) 3 w' w.heap.size (fun _ => True) v0_ r1 ∧ Below w.heap.size w w' := by
  unfold usage_Victims.f at h
  by_cases hg : GR d r s
  · by_cases hm : (vs (segP cs tk s.toNat)).length < sortMost
    · rw [if_neg (fun h => h.2 hm), if_pos hg] at h
      have h := Option.some.inj h
      subst h
      obtain ⟨S, rfl⟩ : ∃ S : Nat, s = (S : Int) := ⟨s.toNat, by have := hg.1.s0; omega⟩
      rw [Int.toNat_natCast] at hm ⊢
      exact vic_yes d r S A1 A2 c1 c2 cs tk w hg hm h1 h2
    · rw [if_pos ⟨hg, hm⟩] at h
      cases h
  · rw [if_neg (fun h => hg h.1), if_neg hg] at h
    have h := Option.some.inj h
    subst h
    exact vic_no d r s A1 A2 c1 c2 cs tk w hg h1 h2
end Go.Proofs.Ytogdnolkheifcaa.Given
