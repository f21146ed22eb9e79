/- Segs1: GivSegs, GivFree. -/
import Derived.RangeFuncNested
import Derived.RangeFuncBound
import Derived.RangeFuncCalls
import Derived.RangeFuncLeaves
import Derived.RangeFuncBox
import Derived.Shelf.Abstract
import Derived.Shelf.RegionOpen
import Derived.OwnWalkIn
import Derived.TacticsInMore
import Derived.LoopNIn
import Derived.LoopIn
import Derived.Maps.AppendAt
import Derived.Test.YtogdnolkheifcaaGivCount
/- The contract of usage.segments and of the iterator that it hands back: by hand. -/
namespace Go.Proofs.Ytogdnolkheifcaa.Given
open Go.RowKit Go.Shelf Go.Proofs.YtogdnolkheifcaaW.PrintWords Go.Proofs.YtogdnolkheifcaaW.PrintLast Go.Proofs.YtogdnolkheifcaaW.PrintMore Go.Proofs.Ytogdnolkheifcaa.Base Go.Proofs.Ytogdnolkheifcaa.Pure
set_option linter.unusedVariables false
set_option linter.unusedSimpArgs false
attribute [local go_sem] Oper.semAt_some

/-- The segments below k that are not taken, with their counts. -/
def segP (cs tk : List Int) (k : Nat) : List (Nat × Int) := ((List.range k).filter fun (s : Nat) => decide (¬ (s : Int) ∈ tk)).map fun (s : Nat) => (s, cs.getD s 0)
theorem segP_succ (cs tk : List Int) (k : Nat) : segP cs tk (k + 1) = segP cs tk k ++ if (k : Int) ∈ tk then [] else [(k, cs.getD k 0)] := by
  unfold segP
  rw [List.range_succ, List.filter_append, List.map_append]
  congr 1
  by_cases h : (k : Int) ∈ tk <;> simp [h]
theorem segP_len (cs tk : List Int) (k : Nat) : (segP cs tk k).length ≤ k := by
  unfold segP
  have := List.length_filter_le (fun s : Nat => decide (¬ (s : Int) ∈ tk)) (List.range k)
  simpa using this
theorem contains_calls (A : Option Addr) (c : Nat) (xs : List Int) (x : Int) (w : World) (h : Kd.C (Kd.int .i64) w A xs.length xs) :
    Calls Try.prog 42 #[.slice A xs.length c, .int .i64 x] w fun e w' => e = .returned (.bool (decide (x ∈ xs))) ∧ w = w' := by
  rcases Nat.eq_zero_or_pos xs.length with h0 | h0
  · have hx := List.eq_nil_of_length_eq_zero h0
    subst hx
    refine (Try.slices_Contains_int_empty A c x w).mono ?_
    rintro e w' ⟨rfl, rfl⟩
    exact ⟨by simp, rfl⟩
  · obtain ⟨b, off, rfl, hc⟩ := addr_of_C h h0
    refine (Try.slices_Contains_int b off xs.length c xs x w (Nat.le_refl _) (Kd.reads_of_C (d := (0 : Int)) h).2.1 hc).mono ?_
    rintro e w' ⟨rfl, rfl⟩
    refine ⟨?_, rfl⟩
    rw [List.take_length]
    have : xs.contains x = decide (x ∈ xs) := by rw [Bool.eq_iff_iff]; simp
    rw [this]
/-- What the iterator reads. -/
structure SegEnv (d r s : Int) (Bg Bc Bt : Nat) (Ac : Option Addr) (cc : Nat) (cs : List Int) (At : Option Addr) (ct : Nat) (tk : List Int) (W : World) : Prop where
  g : W.heap[Bg]? = some (.cells #[.int .i64 d, .int .i64 r, .int .i64 s] 23 (0, 0))
  c : W.cell? ⟨Bc, 0, none⟩ = some (.slice Ac cs.length cc)
  t : W.cell? ⟨Bt, 0, none⟩ = some (.slice At tk.length ct)
  cc : Kd.C (Kd.int .i64) W Ac cs.length cs
  ct : Kd.C (Kd.int .i64) W At tk.length tk
theorem SegEnv.below {d r s : Int} {Bg Bc Bt : Nat} {Ac At : Option Addr} {cc ct : Nat} {cs tk : List Int} {W W' : World} (h : SegEnv d r s Bg Bc Bt Ac cc cs At ct tk W) (hb : Below W.heap.size W W') : SegEnv d r s Bg Bc Bt Ac cc cs At ct tk W' :=
  ⟨blk_below h.g hb, (hb.cell (World.block_lt_of_cell? W _ h.c)).trans h.c, (hb.cell (World.block_lt_of_cell? W _ h.t)).trans h.t, Kd.C_below h.cc hb, Kd.C_below h.ct hb⟩
theorem geoA (d r s : Int) : (#[Value.int .i64 d, .int .i64 r, .int .i64 s] : Array Value) = geoB d r s := rfl

set_option maxRecDepth 100000 in
set_option maxHeartbeats 2000000 in
theorem seg1_no (n : Nat) (d r s : Int) (l Bg Bc Bt : Nat) (Ac At : Option Addr) (cc ct : Nat) (cs tk : List Int) (hg : ¬ GR d r s) (J : List (Nat × Int) → World → Prop) (W : World) (hJ : ∀ W', Below W.heap.size W W' → J [] W') (hE : SegEnv d r s Bg Bc Bt Ac cc cs At ct tk W) :
    CallsIn Fence.wide n Try.prog 41 #[.func (.yield l) #[] #[], .pointer (some ⟨Bg, 0, none⟩), .pointer (some ⟨Bc, 0, none⟩), .pointer (some ⟨Bt, 0, none⟩)] W fun e W' => (∃ v, e = .returned v) ∧ J [] W' := by
  have H := Lib.hid (Right_neg hg)
  have hg0 : W.cell? ⟨Bg, 0, none⟩ = some (.int .i64 d) := (blk_cell hE.g 0).trans rfl
  have hg1 : W.cell? ⟨Bg, 1, none⟩ = some (.int .i64 r) := (blk_cell hE.g 1).trans rfl
  have hg2 : W.cell? ⟨Bg, 2, none⟩ = some (.int .i64 s) := (blk_cell hE.g 2).trans rfl
  have HJ := Lib.hid hJ
  clear hJ hE hg
  refine callsIn_of_wp Try.func41 rfl trivial ?_ rfl
  simp only [Try.ntmps41, List.size_toArray, List.length_cons, List.length_nil, Nat.reduceAdd, Nat.reduceSub, Array.replicate_succ, Array.replicate_zero, List.push_toArray, List.append_toArray, List.nil_append, List.cons_append]
  gi_wp2_with (refine ⟨trivial, fun h => absurd h (by decide), ?_⟩; gi_at_call 23; refine (callsIn_wide.2 (geo_Right.calls d r s false _ H.out)).mono ?_; rintro e w' ⟨rfl, hB⟩; have HJ2 := Lib.hid (HJ.out _ hB); clear hB)
  refine bodyPost_ret (results_none rfl _ _ _) rfl ?_
  exact ⟨⟨_, rfl⟩, HJ2.out⟩
set_option maxRecDepth 100000 in
set_option maxHeartbeats 4000000 in
theorem seg1_yes (n : Nat) (d r : Int) (S : Nat) (l Bg Bc Bt : Nat) (Ac At : Option Addr) (cc ct : Nat) (cs tk : List Int) (hg : GR d r (S : Int)) (Kp : World → World → Prop) (Env : World → Prop) (hE : ∀ W, Env W → SegEnv d r (S : Int) Bg Bc Bt Ac cc cs At ct tk W) (hEk : ∀ W W', Env W → Kp W W' → Env W') (hEb : ∀ W W', Env W → Below W.heap.size W W' → Env W')
    (J Jx : List (Nat × Int) → World → Prop) (hJb : ∀ s W W', J s W → Below W.heap.size W W' → J s W')
    (hY : ∀ pre x W, J pre W → pre.length < S → YieldAt Fence.wide (n - 1) Try.prog l #[.int .i64 (x.1 : Int), .int .i64 x.2] W fun e W' =>
      (e = .returned (.bool true) ∧ J (pre ++ [x]) W' ∧ Kp W W') ∨ (e = .returned (.bool false) ∧ Jx (pre ++ [x]) W'))
    (W : World) (h0 : J [] W) (hE0 : Env W) :
    CallsIn Fence.wide n Try.prog 41 #[.func (.yield l) #[] #[], .pointer (some ⟨Bg, 0, none⟩), .pointer (some ⟨Bc, 0, none⟩), .pointer (some ⟨Bt, 0, none⟩)] W fun e W' => (∃ v, e = .returned v) ∧
      ((∃ ys, ys = segP cs tk S ∧ J ys W') ∨ (∃ pre, (∃ k, k ≤ S ∧ pre = segP cs tk k) ∧ Jx pre W')) := by
  have H := Lib.hid (Right_pos hg)
  have hs1 := hg.1.s1
  have hg0 : W.cell? ⟨Bg, 0, none⟩ = some (.int .i64 d) := (blk_cell (hE W hE0).g 0).trans rfl
  have hg1 : W.cell? ⟨Bg, 1, none⟩ = some (.int .i64 r) := (blk_cell (hE W hE0).g 1).trans rfl
  have hg2 : W.cell? ⟨Bg, 2, none⟩ = some (.int .i64 S) := (blk_cell (hE W hE0).g 2).trans rfl
  have HJb := Lib.hid hJb
  have HY := Lib.hid hY
  have HE := Lib.hid hE
  have HEk := Lib.hid hEk
  have HEb := Lib.hid hEb
  have H0 := Lib.hid h0
  have HE0 := Lib.hid hE0
  clear hJb hY hE hEk hEb h0 hE0 hg
  refine callsIn_of_wp Try.func41 rfl trivial ?_ rfl
  simp only [Try.ntmps41, List.size_toArray, List.length_cons, List.length_nil, Nat.reduceAdd, Nat.reduceSub, Array.replicate_succ, Array.replicate_zero, List.push_toArray, List.append_toArray, List.nil_append, List.cons_append]
  gi_wp2_with (refine ⟨trivial, fun h => absurd h (by decide), ?_⟩; gi_at_call 23; refine (callsIn_wide.2 (geo_Right.calls d r S true _ H.out)).mono ?_; rintro e w' ⟨rfl, hB⟩; have HJ2 := Lib.hid (HJb.out _ _ _ H0.out hB); have HE2 := Lib.hid (HEb.out _ _ HE0.out hB); clear hB; have hg2' : w'.cell? ⟨Bg, 2, none⟩ = some (.int .i64 S) := (blk_cell (HE.out w' HE2.out).g 2).trans rfl)
  clear hg2' hg0 hg1 hg2 H0 HE0
  gi_loopw [12] (fun i wr => ∃ k : Nat, k ≤ S ∧ i = .int .i64 k ∧ Hid (J (segP cs tk k) wr) ∧ Hid (Env wr)) (fun i _ => S - (intOf i).toNat)
  case atStart => exact ⟨0, Nat.zero_le _, rfl, HJ2, HE2⟩
  case round =>
    clear HJ2 HE2
    obtain ⟨k, hk, rfl, HJ2, HE2⟩ := hrel
    by_cases hlt : k < S
    · have hen := HE.out wr HE2.out
      have hbc := hen.c
      have hbt := hen.t
      have HCT := Lib.hid hen.ct
      have HPS : Hid (segP cs tk (k + 1) = segP cs tk k ++ if (k : Int) ∈ tk then [] else [(k, cs.getD k 0)]) := segP_succ cs tk k
      obtain ⟨y, hy⟩ : ∃ y, cs.getD k 0 = y := ⟨_, rfl⟩
      have HYY := Lib.hid hy
      by_cases hm : (k : Int) ∈ tk
      · have HPT : Hid (segP cs tk (k + 1) = segP cs tk k) := by show _ = _; rw [HPS.out, if_pos hm, List.append_nil]
        have HM : Hid (decide ((k : Int) ∈ tk) = true) := decide_eq_true hm
        clear hm
        by_cases hc : k < cs.length
        · obtain ⟨b, off, hA, hcl⟩ := addr_of_C hen.cc (by omega)
          subst hA
          have hcell := hcl k hc
          rw [hy] at hcell
          have hcl2 : (cs.length : Int) ≤ 9223372036854775807 := by have := (Kd.reads_of_C (d := (0 : Int)) hen.cc).2.1; omega
          clear hcl hy hen
          gi_wp2_with (refine ⟨trivial, fun h => absurd h (by decide), ?_⟩; gi_at_call 42; refine (callsIn_wide.2 (contains_calls At ct tk k _ HCT.out)).mono ?_; rintro e w' ⟨rfl, rfl⟩; rw [HM.out])
          refine ⟨fun _ h => (by cases h), ?_⟩
          gi_wp2
          go_roundw
          case rel => exact ⟨k + 1, by omega, by go_num, by rw [HPT.out]; exact HJ2, HE2⟩
          case measure => simp [intOf]; omega
        · have hcl2 : (cs.length : Int) ≤ 9223372036854775807 := by have := (Kd.reads_of_C (d := (0 : Int)) hen.cc).2.1; omega
          have hy0 : y = 0 := by rw [← hy, List.getD_eq_getElem?_getD, List.getElem?_eq_none (by omega)]; rfl
          subst hy0
          clear hy hen
          gi_wp2_with (refine ⟨trivial, fun h => absurd h (by decide), ?_⟩; gi_at_call 42; refine (callsIn_wide.2 (contains_calls At ct tk k _ HCT.out)).mono ?_; rintro e w' ⟨rfl, rfl⟩; rw [HM.out])
          refine ⟨fun _ h => (by cases h), ?_⟩
          gi_wp2
          go_roundw
          case rel => exact ⟨k + 1, by omega, by go_num, by rw [HPT.out]; exact HJ2, HE2⟩
          case measure => simp [intOf]; omega
      · have HPT : Hid (segP cs tk (k + 1) = segP cs tk k ++ [(k, y)]) := by show _ = _; rw [HPS.out, if_neg hm, hy]
        have HM : Hid (decide ((k : Int) ∈ tk) = false) := decide_eq_false hm
        clear hm
        by_cases hc : k < cs.length
        · obtain ⟨b, off, hA, hcl⟩ := addr_of_C hen.cc (by omega)
          subst hA
          have hcell := hcl k hc
          rw [hy] at hcell
          have hcl2 : (cs.length : Int) ≤ 9223372036854775807 := by have := (Kd.reads_of_C (d := (0 : Int)) hen.cc).2.1; omega
          clear hcl hy hen
          obtain ⟨fn, tmps, assign, body, hyy, hR⟩ := HY.out (segP cs tk k) (k, y) wr HJ2.out (by have := segP_len cs tk k; omega)
          dsimp only at hyy
          gi_wp2_with (refine ⟨trivial, fun h => absurd h (by decide), ?_⟩; gi_at_call 42; refine (callsIn_wide.2 (contains_calls At ct tk k _ HCT.out)).mono ?_; rintro e w' ⟨rfl, rfl⟩; rw [HM.out])
          refine ⟨fun h => absurd h (by decide), ?_⟩
          refine hR.mono ?_
          rintro e W3 (⟨rfl, hJ3, hk3⟩ | ⟨rfl, hJx3⟩)
          · have HJ3 := Lib.hid hJ3
            have HE3 := Lib.hid (HEk.out _ _ HE2.out hk3)
            clear hJ3 hk3
            gi_wp2
            go_roundw
            case rel => exact ⟨k + 1, by omega, by go_num, by rw [HPT.out]; exact HJ3, HE3⟩
            case measure => simp [intOf]; omega
          · have HJX := Lib.hid hJx3
            clear hJx3
            gi_wp2
            refine bodyPost_ret (results_none rfl _ _ _) rfl ?_
            exact ⟨⟨_, rfl⟩, .inr ⟨_, ⟨k + 1, by omega, rfl⟩, by rw [HPT.out]; exact HJX.out⟩⟩
        · have hcl2 : (cs.length : Int) ≤ 9223372036854775807 := by have := (Kd.reads_of_C (d := (0 : Int)) hen.cc).2.1; omega
          have hy0 : y = 0 := by rw [← hy, List.getD_eq_getElem?_getD, List.getElem?_eq_none (by omega)]; rfl
          subst hy0
          clear hy hen
          obtain ⟨fn, tmps, assign, body, hyy, hR⟩ := HY.out (segP cs tk k) (k, 0) wr HJ2.out (by have := segP_len cs tk k; omega)
          dsimp only at hyy
          gi_wp2_with (refine ⟨trivial, fun h => absurd h (by decide), ?_⟩; gi_at_call 42; refine (callsIn_wide.2 (contains_calls At ct tk k _ HCT.out)).mono ?_; rintro e w' ⟨rfl, rfl⟩; rw [HM.out])
          refine ⟨fun h => absurd h (by decide), ?_⟩
          refine hR.mono ?_
          rintro e W3 (⟨rfl, hJ3, hk3⟩ | ⟨rfl, hJx3⟩)
          · have HJ3 := Lib.hid hJ3
            have HE3 := Lib.hid (HEk.out _ _ HE2.out hk3)
            clear hJ3 hk3
            gi_wp2
            go_roundw
            case rel => exact ⟨k + 1, by omega, by go_num, by rw [HPT.out]; exact HJ3, HE3⟩
            case measure => simp [intOf]; omega
          · have HJX := Lib.hid hJx3
            clear hJx3
            gi_wp2
            refine bodyPost_ret (results_none rfl _ _ _) rfl ?_
            exact ⟨⟨_, rfl⟩, .inr ⟨_, ⟨k + 1, by omega, rfl⟩, by rw [HPT.out]; exact HJX.out⟩⟩
    · have hkS : k = S := by omega
      subst hkS
      gi_wp2
      go_end0
      exact ⟨⟨_, rfl⟩, .inl ⟨_, rfl, HJ2.out⟩⟩
theorem segs_stops (n : Nat) (d r : Int) (S : Nat) (Bg Bc Bt : Nat) (Ac At : Option Addr) (cc ct : Nat) (cs tk : List Int) (hg : GR d r (S : Int)) (Kp : World → World → Prop) (Env : World → Prop) (hE : ∀ W, Env W → SegEnv d r (S : Int) Bg Bc Bt Ac cc cs At ct tk W) (hEk : ∀ W W', Env W → Kp W W' → Env W') (hEb : ∀ W W', Env W → Below W.heap.size W W' → Env W') (w : World) (h0 : Env w) :
    SeqStopsK Fence.wide n Try.prog 41 #[.pointer (some ⟨Bg, 0, none⟩), .pointer (some ⟨Bc, 0, none⟩), .pointer (some ⟨Bt, 0, none⟩)] (fun x : Nat × Int => #[Value.int .i64 (x.1 : Int), Value.int .i64 x.2]) Kp (fun ys => ys = segP cs tk S) (fun pre => ∃ k, k ≤ S ∧ pre = segP cs tk k) S w := fun l J Jx W hW hJ hJx hY hJ0 =>
  seg1_yes n d r S l Bg Bc Bt Ac At cc ct cs tk hg Kp Env hE hEk hEb J Jx (fun s W W' hs hb => hJ s W W' none hs (grown_of_below hb none) (fun r e => by cases e)) hY W hJ0 (hEb _ _ h0 hW)
theorem segs_stops_no (n : Nat) (d r s : Int) (Bg Bc Bt : Nat) (Ac At : Option Addr) (cc ct : Nat) (cs tk : List Int) (hg : ¬ GR d r s) (Kp : World → World → Prop) (w : World) (h0 : SegEnv d r s Bg Bc Bt Ac cc cs At ct tk w) :
    SeqStopsK Fence.wide n Try.prog 41 #[.pointer (some ⟨Bg, 0, none⟩), .pointer (some ⟨Bc, 0, none⟩), .pointer (some ⟨Bt, 0, none⟩)] (fun x : Nat × Int => #[Value.int .i64 (x.1 : Int), Value.int .i64 x.2]) Kp (fun ys => ys = []) (fun pre => False) 0 w := fun l J Jx W hW hJ hJx hY hJ0 => by
  refine (seg1_no n d r s l Bg Bc Bt Ac At cc ct cs tk hg J W (fun W' hb => hJ _ _ _ none hJ0 (grown_of_below hb none) (fun r e => by cases e)) (h0.below hW)).mono ?_
  rintro e W' ⟨hv, hj⟩
  exact ⟨hv, .inl ⟨_, rfl, hj⟩⟩
/-- usage.segments: the arguments are boxed; the function value captures the boxes. -/
theorem segments_calls (d r s : Int) (v1 v2 : Value) (w : World) (A1 A2 : Option Addr) (n1 n2 c1 c2 : Nat) (h1 : v1 = .slice A1 n1 c1) (h2 : v2 = .slice A2 n2 c2) :
    Calls Try.prog 30 #[.agg #[.int .i64 d, .int .i64 r, .int .i64 s], v1, v2] w fun e w' => e = .returned (.func (.func 41) #[] #[.pointer (some ⟨w.heap.size, 0, none⟩), .pointer (some ⟨w.heap.size + 1, 0, none⟩), .pointer (some ⟨w.heap.size + 2, 0, none⟩)]) ∧
      w' = ((w.alloc (.cells #[.int .i64 d, .int .i64 r, .int .i64 s] 23)).alloc (.cells #[v1] 24)).alloc (.cells #[v2] 24) := by
  subst h1; subst h2
  go_enter Try.func30, Try.ntmps30
  go_wp2
  go_ret
  exact ⟨rfl, rfl⟩
end Go.Proofs.Ytogdnolkheifcaa.Given

/- The contract of usage.Free: by hand. -/
namespace Go.Proofs.Ytogdnolkheifcaa.Given
open Go.RowKit Go.Shelf Go.Proofs.YtogdnolkheifcaaW.PrintWords Go.Proofs.YtogdnolkheifcaaW.PrintLast Go.Proofs.YtogdnolkheifcaaW.PrintMore Go.Proofs.Ytogdnolkheifcaa.Base Go.Proofs.Ytogdnolkheifcaa.Pure
set_option linter.unusedVariables false
set_option linter.unusedSimpArgs false
attribute [local go_sem] Oper.semAt_some

/-- What a round keeps: what lies below h, and three boxes. -/
def KpS (h Bg Bc Bt : Nat) (W W' : World) : Prop := Below h W W' ∧ W'.heap[Bg]? = W.heap[Bg]? ∧ W'.heap[Bc]? = W.heap[Bc]? ∧ W'.heap[Bt]? = W.heap[Bt]?
theorem KpS.trans {h Bg Bc Bt : Nat} {A B C : World} (x : KpS h Bg Bc Bt A B) (y : KpS h Bg Bc Bt B C) : KpS h Bg Bc Bt A C :=
  ⟨x.1.trans y.1, y.2.1.trans x.2.1, y.2.2.1.trans x.2.2.1, y.2.2.2.trans x.2.2.2⟩
theorem KpS.refl (h Bg Bc Bt : Nat) (W : World) : KpS h Bg Bc Bt W W := ⟨Below.refl _ _, rfl, rfl, rfl⟩
theorem KpS.put {h Bg Bc Bt B : Nat} (h0 : h ≤ B) (h1 : Bg < B) (h2 : Bc < B) (h3 : Bt < B) (W : World) (l : Nat) (o o' : Obj) (hl : B ≤ l) (hw : W.heap[l]? = some o) : KpS h Bg Bc Bt W (W.putObj l o') := by
  refine ⟨(Below.refl h W).grown (grownBy_putObj' W l o') (by have := (Array.getElem?_eq_some_iff.1 hw).1; omega) (fun k e => by cases e; omega), ?_, ?_, ?_⟩
  · exact World.putObj_heap_other (by omega)
  · exact World.putObj_heap_other (by omega)
  · exact World.putObj_heap_other (by omega)
theorem blk_not_row {W : World} {b n₀ : Nat} {t e : TypeId} {size k : Nat} {cs : Array Value} {fr : Nat × Nat} {v : Value} {xs : List Value} (h : W.heap[b]? = some (.cells cs t fr)) (hte : t ≠ e) (hr : W.ownsRow n₀ e size v k xs) : some b ≠ v.ownBlock := by
  rcases hr.2 with ⟨rfl, _⟩ | ⟨g, cap, cur, rfl, _, hh, _⟩
  · simp [Value.ownBlock]
  · intro he
    have : b = g := by simpa [Value.ownBlock] using he
    subst this
    rw [h] at hh
    injection hh with hh
    injection hh with _ ht
    exact hte ht
/-- What the iterator and the loop know of the world. -/
structure SegW (wd : World) (d r s : Int) (Bg Bc Bt : Nat) (Ac : Option Addr) (nc cc : Nat) (At : Option Addr) (nt ct : Nat) (W : World) : Prop where
  below : Below wd.heap.size wd W
  g : W.heap[Bg]? = some (.cells #[.int .i64 d, .int .i64 r, .int .i64 s] 23 (0, 0))
  c : Boxed W Bc 24 (.slice Ac nc cc)
  t : Boxed W Bt 24 (.slice At nt ct)
theorem SegW.kp {wd : World} {d r s : Int} {Bg Bc Bt : Nat} {Ac At : Option Addr} {nc cc nt ct : Nat} {W W' : World} (h : SegW wd d r s Bg Bc Bt Ac nc cc At nt ct W) (k : KpS wd.heap.size Bg Bc Bt W W') : SegW wd d r s Bg Bc Bt Ac nc cc At nt ct W' :=
  ⟨h.below.trans k.1, k.2.1.trans h.g, k.2.2.1.trans h.c, k.2.2.2.trans h.t⟩
theorem SegW.step {wd : World} {d r s : Int} {Bg Bc Bt : Nat} {Ac At : Option Addr} {nc cc nt ct : Nat} {W W' : World} (h : SegW wd d r s Bg Bc Bt Ac nc cc At nt ct W) (hb : Below W.heap.size W W') : SegW wd d r s Bg Bc Bt Ac nc cc At nt ct W' :=
  ⟨h.below.trans (hb.mono h.below.size), blk_below h.g hb, blk_below h.c hb, blk_below h.t hb⟩
theorem SegW.env {wd : World} {d r s : Int} {Bg Bc Bt : Nat} {Ac At : Option Addr} {cc ct : Nat} {cs tk : List Int} {W : World} (h : SegW wd d r s Bg Bc Bt Ac cs.length cc At tk.length ct W) (hc : Kd.C (Kd.int .i64) wd Ac cs.length cs) (ht : Kd.C (Kd.int .i64) wd At tk.length tk) : SegEnv d r s Bg Bc Bt Ac cc cs At ct tk W :=
  ⟨h.g, h.c.cell, h.t.cell, Kd.C_below hc h.below, Kd.C_below ht h.below⟩
theorem infoInt1 : (Try.prog.info? 3).map (fun i => (i.zero, i.size, i.bytes)) = some (some (.int .i64 0), 1, 8) := by kernel_rfl
/-- The segments that are free. -/
def fr (p : List (Nat × Int)) : List Int := (p.filter fun q => decide (q.2 = 0)).map fun q => (q.1 : Int)
theorem fr_hit (p : List (Nat × Int)) {x : Nat × Int} (h : x.2 = 0) : fr (p ++ [x]) = fr p ++ [(x.1 : Int)] := by simp [fr, h]
theorem fr_miss (p : List (Nat × Int)) {x : Nat × Int} (h : ¬ x.2 = 0) : fr (p ++ [x]) = fr p := by simp [fr, h]
theorem fr_len (p : List (Nat × Int)) : (fr p).length ≤ p.length := by
  unfold fr
  have := List.length_filter_le (fun q : Nat × Int => decide (q.2 = 0)) p
  simpa using this

theorem segW_new (d r s : Int) (A1 A2 : Option Addr) (n1 c1 n2 c2 : Nat) {wd W1 : World} (hB : Below wd.heap.size wd W1) (k : Nat) (hk : W1.heap.size = k) : SegW wd d r s k (k + 1) (k + 2) A1 n1 c1 A2 n2 c2 (((W1.alloc (.cells #[.int .i64 d, .int .i64 r, .int .i64 s] 23)).alloc (.cells #[.slice A1 n1 c1] 24)).alloc (.cells #[.slice A2 n2 c2] 24)) := by
  subst hk
  have g0 := World.alloc_heap_new W1 (.cells #[.int .i64 d, .int .i64 r, .int .i64 s] 23)
  have b1 : Below (W1.heap.size + 1) (W1.alloc (.cells #[.int .i64 d, .int .i64 r, .int .i64 s] 23)) ((W1.alloc (.cells #[.int .i64 d, .int .i64 r, .int .i64 s] 23)).alloc (.cells #[.slice A1 n1 c1] 24)) := (Below.refl _ _).alloc (by simp) _
  have c0 := Boxed.new (W1.alloc (.cells #[.int .i64 d, .int .i64 r, .int .i64 s] 23)) 24 (.slice A1 n1 c1)
  have t0 := Boxed.new ((W1.alloc (.cells #[.int .i64 d, .int .i64 r, .int .i64 s] 23)).alloc (.cells #[.slice A1 n1 c1] 24)) 24 (.slice A2 n2 c2)
  simp only [World.size_alloc] at c0 t0
  have b2 : Below (W1.heap.size + 2) ((W1.alloc (.cells #[.int .i64 d, .int .i64 r, .int .i64 s] 23)).alloc (.cells #[.slice A1 n1 c1] 24)) (((W1.alloc (.cells #[.int .i64 d, .int .i64 r, .int .i64 s] 23)).alloc (.cells #[.slice A1 n1 c1] 24)).alloc (.cells #[.slice A2 n2 c2] 24)) := (Below.refl _ _).alloc (by simp) _
  refine ⟨?_, ?_, ?_, t0⟩
  · have hs := hB.size
    exact ((hB.alloc hs _).alloc (by simp; omega) _).alloc (by simp; omega) _
  · rw [b2.block _ (by omega), b1.block _ (by omega)]; exact g0
  · exact c0.alloc _
theorem KpS.app {wd W w1 : World} {d r s : Int} {Bg Bc Bt Bo : Nat} {Ac At : Option Addr} {nc cc nt ct n₀ k : Nat} {v v' : Value} {xs : List Value} {tmp : Obj} (hS : SegW wd d r s Bg Bc Bt Ac nc cc At nt ct W) (hrow : W.ownsRow n₀ 3 1 v k xs) (hgrow : (W.alloc tmp).grownBy w1 v.ownBlock)
    (hb2 : Below wd.heap.size W (w1.setCell ⟨Bo, 0, none⟩ v')) (n1 : Bg ≠ Bo) (n2 : Bc ≠ Bo) (n3 : Bt ≠ Bo) : KpS wd.heap.size Bg Bc Bt W (w1.setCell ⟨Bo, 0, none⟩ v') := by
  have key : ∀ {b : Nat} {t : TypeId} {cs : Array Value}, W.heap[b]? = some (.cells cs t (0, 0)) → t ≠ 3 → b ≠ Bo → (w1.setCell ⟨Bo, 0, none⟩ v').heap[b]? = W.heap[b]? := by
    intro b t cs h ht hne
    have hlt := (Array.getElem?_eq_some_iff.1 h).1
    rw [heap_setCell_other _ _ _ _ hne, hgrow.block b (by rw [World.size_alloc]; omega) (blk_not_row h ht hrow), Below.heap_alloc _ _ _ hlt]
  exact ⟨hb2, key hS.g (by decide) n1, key hS.c (by decide) n2, key hS.t (by decide) n3⟩
theorem fr_own (n₀ B : Nat) : Own (fun (pre : List (Nat × Int)) W => ∃ v, Boxed W B 24 v ∧ W.ownsRow n₀ 3 1 v (fr pre).length (encs (Value.int .i64) (fr pre)) ∧ True) :=
  holdsRow_own n₀ B 24 3 1 (fun pre => (fr pre).length) (fun pre => encs (Value.int .i64) (fr pre)) (fun _ _ => True)
set_option maxRecDepth 100000 in
set_option maxHeartbeats 4000000 in
theorem free_yes (d r : Int) (S : Nat) (A1 A2 : Option Addr) (c1 c2 : Nat) (cs tk : List Int) (wd : World) (hg : GR d r (S : Int)) (h1 : Kd.C (Kd.int .i64) wd A1 cs.length cs) (h2 : Kd.C (Kd.int .i64) wd A2 tk.length tk) :
    Calls Try.prog 15 #[.agg #[.int .i64 d, .int .i64 r, .int .i64 S], .slice A1 cs.length c1, .slice A2 tk.length c2] wd fun e w' => ∃ v0 : Value, e = .returned v0 ∧ Kd.R (Kd.int .i64) 3 w' wd.heap.size (fun _ => True) v0 (fr (segP cs tk S)) ∧ Below wd.heap.size wd w' := by
  have HS : Hid (S ≤ 64) := by show S ≤ 64; have := hg.1.s1; omega
  obtain ⟨i0, hi, hz0, hz1, hz2⟩ := info_parts infoInt1
  refine (callsIn_wide (n := 3)).1 ?_
  refine callsIn_of_wp_marks Try.func15 rfl trivial ?_ rfl
  simp only [Try.ntmps15, List.size_toArray, List.length_cons, List.length_nil, Nat.reduceAdd, Nat.reduceSub, Array.replicate_succ, Array.replicate_zero, List.push_toArray, List.append_toArray, List.nil_append, List.cons_append]
  gi_wp2_with (refine ⟨trivial, ?_⟩; gi_at_call 30; refine (callsIn_wide.2 (segments_calls d r S _ _ _ A1 A2 _ _ c1 c2 rfl rfl)).mono ?_; rintro e w' ⟨rfl, rfl⟩)
  have hB1 : Below wd.heap.size wd ((wd.alloc (.cells #[.int .i64 d, .int .i64 r, .int .i64 S] 23)).alloc (.cells #[.slice none 0 0] 24)) := ((Below.refl _ wd).alloc (Nat.le_refl _) _).alloc (by simp) _
  have hSW := segW_new d r S A1 A2 cs.length c1 tk.length c2 hB1 (wd.heap.size + 2) (by simp)
  have hO : Boxed ((wd.alloc (.cells #[.int .i64 d, .int .i64 r, .int .i64 S] 23)).alloc (.cells #[.slice none 0 0] 24)) (wd.heap.size + 1) 24 (.slice none 0 0) := by
    have h := Boxed.new (wd.alloc (.cells #[.int .i64 d, .int .i64 r, .int .i64 S] 23)) 24 (.slice none 0 0)
    rw [World.size_alloc] at h
    exact h
  have hO2 := ((hO.alloc (.cells #[.int .i64 d, .int .i64 r, .int .i64 S] 23)).alloc (.cells #[.slice A1 cs.length c1] 24)).alloc (.cells #[.slice A2 tk.length c2] 24)
  obtain ⟨W0, hW0⟩ : ∃ W0, ((((wd.alloc (.cells #[.int .i64 d, .int .i64 r, .int .i64 S] 23)).alloc (.cells #[.slice none 0 0] 24)).alloc (.cells #[.int .i64 d, .int .i64 r, .int .i64 S] 23)).alloc (.cells #[.slice A1 cs.length c1] 24)).alloc (.cells #[.slice A2 tk.length c2] 24) = W0 := ⟨_, rfl⟩
  have hsz : W0.heap.size = wd.heap.size + 5 := by rw [← hW0]; simp
  rw [hW0] at hSW hO2 ⊢
  refine wpIn_rangeFunc_ownG (w0 := W0) rfl (by decide) (gf := 41) (lb := #[.pointer (some ⟨wd.heap.size + 2, 0, none⟩), .pointer (some ⟨wd.heap.size + 3, 0, none⟩), .pointer (some ⟨wd.heap.size + 4, 0, none⟩)]) rfl trivial (enters_of Try.func41 (by kernel_rfl) rfl)
    (segs_stops 2 d r S (wd.heap.size + 2) (wd.heap.size + 3) (wd.heap.size + 4) A1 A2 c1 c2 cs tk hg (KpS wd.heap.size (wd.heap.size + 2) (wd.heap.size + 3) (wd.heap.size + 4)) (SegW wd d r S (wd.heap.size + 2) (wd.heap.size + 3) (wd.heap.size + 4) A1 cs.length c1 A2 tk.length c2) (fun W h => h.env h1 h2) (fun W W' h k => h.kp k) (fun W W' h k => h.step k) W0 hSW)
    KpS.trans (fun W l o o' hl hw _ _ => KpS.put (B := W0.heap.size) (by omega) (by omega) (by omega) (by omega) W l o o' hl hw) (Below.refl _ _) (fun _ => rfl)
    (fun pre W => (∃ v, Boxed W (wd.heap.size + 1) 24 v ∧ W.ownsRow wd.heap.size 3 1 v (fr pre).length (encs (Value.int .i64) (fr pre)) ∧ True) ∧ SegW wd d r S (wd.heap.size + 2) (wd.heap.size + 3) (wd.heap.size + 4) A1 cs.length c1 A2 tk.length c2 W)
    (fun _ _ _ => False)
    (OwnFrom.and (Own.from (fr_own _ _) _) (fun _ W W' row hs hg hr => by
      refine hs.kp ⟨(Below.refl _ W).grown hg hs.below.size (fun k e => by have := (hr k e).1; omega), ?_, ?_, ?_⟩
      · exact hg.block _ (Array.getElem?_eq_some_iff.1 hs.g).1 (fun e => by have := (hr _ e.symm).1; omega)
      · exact hg.block _ hs.c.lt (fun e => by have := (hr _ e.symm).1; omega)
      · exact hg.block _ hs.t.lt (fun e => by have := (hr _ e.symm).1; omega)))
    (fun _ _ _ _ _ hs _ _ => hs)
    ⟨⟨_, hO2, World.ownsRow_nil _ _ _ _, trivial⟩, hSW⟩
    (fun x => { tmps := #[.agg #[.int .i64 d, .int .i64 r, .int .i64 S], .slice A1 cs.length c1, .slice A2 tk.length c2, .pointer (some ⟨wd.heap.size, 0, none⟩), undef, undef, .slice none 0 0, .pointer (some ⟨wd.heap.size + 1, 0, none⟩), .int .i64 (x.1 : Int), .int .i64 x.2, .agg #[.int .i64 d, .int .i64 r, .int .i64 S], .slice A1 cs.length c1, .slice A2 tk.length c2, .func (.func 41) #[] #[.pointer (some ⟨wd.heap.size + 2, 0, none⟩), .pointer (some ⟨wd.heap.size + 3, 0, none⟩), .pointer (some ⟨wd.heap.size + 4, 0, none⟩)], .int .i64 (x.1 : Int), .int .i64 x.2, undef, undef, undef, undef, undef, undef, undef], defers := [] }) ?assign ?body ?done ?stop
  case assign =>
    intro l x W K hK
    gi_wp2
    exact hK
  case body =>
    rintro l pre x W ⟨⟨v, hv, hrow, _⟩, hSW⟩ hlt
    have hc := hv.cell
    have hpl := fr_len pre
    have hS := HS.out
    by_cases hx : x.2 = 0
    · have hxb : (x.2 == 0) = true := beq_iff_eq.2 hx
      have HX := Lib.hid hx
      clear hx
      gi_wp2_with (gi_at_builtin; refine wpListIn_append_own _ rfl _ _ 24 rfl wd.heap.size 3 i0 (.int .i64 0) 1 8 Try.underlying24 hi hz0 hz1 hz2 rfl (by decide) _ _ _ rfl (hrow.alloc _) ⟨W.heap.size, 0, none⟩ 1 1 [.int .i64 (x.1 : Int)] rfl rfl (cell_one_new _ _ _) (by simp [Value.oneCell']) (by unfold maxLen; omega) (by omega) (by have := hSW.below.size; simp; omega) ?_; intro v' w1 hown' hgrow _; obtain ⟨g', cap', rfl⟩ := ownsRow_succ hown'; obtain ⟨hv1, hv2, hr2, hk2, hb2⟩ := hv.appended (by decide) hrow hSW.below.size (by omega) hown' hgrow; have hKP := KpS.app hSW hrow hgrow hb2 (by omega) (by omega) (by omega); have hc1 := hv1.cell; have hf1 := hv1.frozen)
      refine ⟨hk2.from _, hKP, ⟨_, hv2, ?_, trivial⟩, hSW.kp hKP⟩
      rw [fr_hit pre HX.out, List.length_append, encs_append]
      exact hr2
    · have hxb : (x.2 == 0) = false := beq_eq_false_iff_ne.2 hx
      have HX := Lib.hid hx
      clear hx
      gi_wp2
      refine ⟨KeepsFrom.refl _ _, KpS.refl _ _ _ _ _, ⟨v, hv, ?_, trivial⟩, hSW⟩
      rw [fr_miss pre HX.out]
      exact hrow
  case done =>
    rintro D ys W hD rfl ⟨⟨v, hv, hrow, _⟩, hSW⟩ hK
    have hc := hv.cell
    gi_wp2
    refine ⟨by simp, .inl ⟨_, _, rfl, run_takeDeferred hK, ?_⟩⟩
    refine ⟨_, results_tmp rfl _ _ _, v, rfl, ?_, hSW.below.trans (belowK_b (w := wd) (Nat.le_refl _) W D _ _ (by omega) hK rfl rfl)⟩
    exact Kd.R_of_own (ownsRow_putObj hrow _ hK rfl) (fun _ _ => trivial)
  case stop =>
    rintro D c pre W _ _ h _
    exact h.elim
set_option maxRecDepth 100000 in
set_option maxHeartbeats 4000000 in
theorem free_no (d r S : Int) (A1 A2 : Option Addr) (c1 c2 : Nat) (cs tk : List Int) (wd : World) (hg : ¬ GR d r S) (h1 : Kd.C (Kd.int .i64) wd A1 cs.length cs) (h2 : Kd.C (Kd.int .i64) wd A2 tk.length tk) :
    Calls Try.prog 15 #[.agg #[.int .i64 d, .int .i64 r, .int .i64 S], .slice A1 cs.length c1, .slice A2 tk.length c2] wd fun e w' => ∃ v0 : Value, e = .returned v0 ∧ Kd.R (Kd.int .i64) 3 w' wd.heap.size (fun _ => True) v0 ([] : List Int) ∧ Below wd.heap.size wd w' := by
  obtain ⟨i0, hi, hz0, hz1, hz2⟩ := info_parts infoInt1
  refine (callsIn_wide (n := 3)).1 ?_
  refine callsIn_of_wp_marks Try.func15 rfl trivial ?_ rfl
  simp only [Try.ntmps15, List.size_toArray, List.length_cons, List.length_nil, Nat.reduceAdd, Nat.reduceSub, Array.replicate_succ, Array.replicate_zero, List.push_toArray, List.append_toArray, List.nil_append, List.cons_append]
  gi_wp2_with (refine ⟨trivial, ?_⟩; gi_at_call 30; refine (callsIn_wide.2 (segments_calls d r S _ _ _ A1 A2 _ _ c1 c2 rfl rfl)).mono ?_; rintro e w' ⟨rfl, rfl⟩)
  have hB1 : Below wd.heap.size wd ((wd.alloc (.cells #[.int .i64 d, .int .i64 r, .int .i64 S] 23)).alloc (.cells #[.slice none 0 0] 24)) := ((Below.refl _ wd).alloc (Nat.le_refl _) _).alloc (by simp) _
  have hSW := segW_new d r S A1 A2 cs.length c1 tk.length c2 hB1 (wd.heap.size + 2) (by simp)
  have hO : Boxed ((wd.alloc (.cells #[.int .i64 d, .int .i64 r, .int .i64 S] 23)).alloc (.cells #[.slice none 0 0] 24)) (wd.heap.size + 1) 24 (.slice none 0 0) := by
    have h := Boxed.new (wd.alloc (.cells #[.int .i64 d, .int .i64 r, .int .i64 S] 23)) 24 (.slice none 0 0)
    rw [World.size_alloc] at h
    exact h
  have hO2 := ((hO.alloc (.cells #[.int .i64 d, .int .i64 r, .int .i64 S] 23)).alloc (.cells #[.slice A1 cs.length c1] 24)).alloc (.cells #[.slice A2 tk.length c2] 24)
  obtain ⟨W0, hW0⟩ : ∃ W0, ((((wd.alloc (.cells #[.int .i64 d, .int .i64 r, .int .i64 S] 23)).alloc (.cells #[.slice none 0 0] 24)).alloc (.cells #[.int .i64 d, .int .i64 r, .int .i64 S] 23)).alloc (.cells #[.slice A1 cs.length c1] 24)).alloc (.cells #[.slice A2 tk.length c2] 24) = W0 := ⟨_, rfl⟩
  have hsz : W0.heap.size = wd.heap.size + 5 := by rw [← hW0]; simp
  rw [hW0] at hSW hO2 ⊢
  refine wpIn_rangeFunc_ownG (w0 := W0) rfl (by decide) (gf := 41) (lb := #[.pointer (some ⟨wd.heap.size + 2, 0, none⟩), .pointer (some ⟨wd.heap.size + 3, 0, none⟩), .pointer (some ⟨wd.heap.size + 4, 0, none⟩)]) rfl trivial (enters_of Try.func41 (by kernel_rfl) rfl)
    (segs_stops_no 2 d r S (wd.heap.size + 2) (wd.heap.size + 3) (wd.heap.size + 4) A1 A2 c1 c2 cs tk hg (KpS wd.heap.size (wd.heap.size + 2) (wd.heap.size + 3) (wd.heap.size + 4)) W0 (hSW.env h1 h2))
    KpS.trans (fun W l o o' hl hw _ _ => KpS.put (B := W0.heap.size) (by omega) (by omega) (by omega) (by omega) W l o o' hl hw) (Below.refl _ _) (fun _ => rfl)
    (fun pre W => (∃ v, Boxed W (wd.heap.size + 1) 24 v ∧ W.ownsRow wd.heap.size 3 1 v (fr pre).length (encs (Value.int .i64) (fr pre)) ∧ True) ∧ SegW wd d r S (wd.heap.size + 2) (wd.heap.size + 3) (wd.heap.size + 4) A1 cs.length c1 A2 tk.length c2 W)
    (fun _ _ _ => False)
    (OwnFrom.and (Own.from (fr_own _ _) _) (fun _ W W' row hs hg hr => by
      refine hs.kp ⟨(Below.refl _ W).grown hg hs.below.size (fun k e => by have := (hr k e).1; omega), ?_, ?_, ?_⟩
      · exact hg.block _ (Array.getElem?_eq_some_iff.1 hs.g).1 (fun e => by have := (hr _ e.symm).1; omega)
      · exact hg.block _ hs.c.lt (fun e => by have := (hr _ e.symm).1; omega)
      · exact hg.block _ hs.t.lt (fun e => by have := (hr _ e.symm).1; omega)))
    (fun _ _ _ _ _ hs _ _ => hs)
    ⟨⟨_, hO2, World.ownsRow_nil _ _ _ _, trivial⟩, hSW⟩
    (fun x => { tmps := #[.agg #[.int .i64 d, .int .i64 r, .int .i64 S], .slice A1 cs.length c1, .slice A2 tk.length c2, .pointer (some ⟨wd.heap.size, 0, none⟩), undef, undef, .slice none 0 0, .pointer (some ⟨wd.heap.size + 1, 0, none⟩), .int .i64 (x.1 : Int), .int .i64 x.2, .agg #[.int .i64 d, .int .i64 r, .int .i64 S], .slice A1 cs.length c1, .slice A2 tk.length c2, .func (.func 41) #[] #[.pointer (some ⟨wd.heap.size + 2, 0, none⟩), .pointer (some ⟨wd.heap.size + 3, 0, none⟩), .pointer (some ⟨wd.heap.size + 4, 0, none⟩)], .int .i64 (x.1 : Int), .int .i64 x.2, undef, undef, undef, undef, undef, undef, undef], defers := [] }) ?assign ?body ?done ?stop
  case assign =>
    intro l x W K hK
    gi_wp2
    exact hK
  case body =>
    rintro l pre x W _ hlt
    exact absurd hlt (Nat.not_lt_zero _)
  case done =>
    rintro D ys W hD rfl ⟨⟨v, hv, hrow, _⟩, hSW⟩ hK
    have hc := hv.cell
    gi_wp2
    refine ⟨by simp, .inl ⟨_, _, rfl, run_takeDeferred hK, ?_⟩⟩
    refine ⟨_, results_tmp rfl _ _ _, v, rfl, ?_, hSW.below.trans (belowK_b (w := wd) (Nat.le_refl _) W D _ _ (by omega) hK rfl rfl)⟩
    exact Kd.R_of_own (ownsRow_putObj hrow _ hK rfl) (fun _ _ => trivial)
  case stop =>
    rintro D c pre W _ _ h _
    exact h.elim
open Classical in
noncomputable def freeV (d r s : Int) (cs tk : List Int) : List Int := if GR d r s then fr (segP cs tk s.toNat) else []
noncomputable def usage_Free.f (d r s : Int) (cs tk : List Int) : Option (List Int) := some (freeV d r s cs tk)
theorem usage_Free.calls (d r s : Int) (A1 : Option Addr) (c1 : Nat) (cs : List Int) (A2 : Option Addr) (c2 : Nat) (tk : List Int) (r1 : List Int) (w : World) (h1 : Kd.C (Kd.int .i64) w A1 cs.length cs) (hc1 : cs.length ≤ c1) (h2 : Kd.C (Kd.int .i64) w A2 tk.length tk) (hc2 : tk.length ≤ c2) (h : usage_Free.f d r s cs tk = some r1) :
    Calls Try.prog 15 #[.agg #[.int .i64 d, .int .i64 r, .int .i64 s], .slice A1 cs.length c1, .slice A2 tk.length c2] w fun e w' => ∃ v0_ : Value, e = .returned v0_ ∧ Kd.R (Kd.int .i64) 3 w' w.heap.size (fun _ => True) v0_ r1 ∧ Below w.heap.size w w' := by
  have h := Option.some.inj h
  subst h
  unfold freeV
  by_cases hg : GR d r s
  · rw [if_pos hg]
    obtain ⟨S, rfl⟩ : ∃ S : Nat, s = (S : Int) := ⟨s.toNat, by have := hg.1.s0; omega⟩
    rw [Int.toNat_natCast]
    exact free_yes d r S A1 A2 c1 c2 cs tk w hg h1 h2
  · rw [if_neg hg]
    exact free_no d r s A1 A2 c1 c2 cs tk w hg h1 h2
end Go.Proofs.Ytogdnolkheifcaa.Given
