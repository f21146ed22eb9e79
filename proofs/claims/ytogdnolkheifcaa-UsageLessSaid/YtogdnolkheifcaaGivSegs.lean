/- The contract of usage.segments and of the iterator that it hands back: by hand. -/
import Derived.RangeFuncNested
import Derived.RangeFuncBound
import Derived.RangeFuncCalls
import Derived.RangeFuncLeaves
import Derived.RangeFuncBox
import Derived.Shelf.Abstract
import Derived.Shelf.RegionOpen
import Derived.OwnWalkIn
import Derived.TacticsInMore
import Derived.LoopNIn
import Derived.LoopIn
import Derived.Maps.AppendAt
import Derived.Test.YtogdnolkheifcaaGivCount
namespace Go.Proofs.Ytogdnolkheifcaa.Given
open Go.RowKit Go.Shelf Go.Proofs.YtogdnolkheifcaaW.PrintWords Go.Proofs.YtogdnolkheifcaaW.PrintLast Go.Proofs.YtogdnolkheifcaaW.PrintMore Go.Proofs.Ytogdnolkheifcaa.Base Go.Proofs.Ytogdnolkheifcaa.Pure
set_option linter.unusedVariables false
set_option linter.unusedSimpArgs false
attribute [local go_sem] Oper.semAt_some

/-- The segments below k that are not taken, with their counts. -/
def segP (cs tk : List Int) (k : Nat) : List (Nat × Int) := ((List.range k).filter fun (s : Nat) => decide (¬ (s : Int) ∈ tk)).map fun (s : Nat) => (s, cs.getD s 0)
theorem segP_succ (cs tk : List Int) (k : Nat) : segP cs tk (k + 1) = segP cs tk k ++ if (k : Int) ∈ tk then [] else [(k, cs.getD k 0)] := by
  unfold segP
  rw [List.range_succ, List.filter_append, List.map_append]
  congr 1
  by_cases h : (k : Int) ∈ tk <;> simp [h]
theorem segP_len (cs tk : List Int) (k : Nat) : (segP cs tk k).length ≤ k := by
  unfold segP
  have := List.length_filter_le (fun s : Nat => decide (¬ (s : Int) ∈ tk)) (List.range k)
  simpa using this
theorem contains_calls (A : Option Addr) (c : Nat) (xs : List Int) (x : Int) (w : World) (h : Kd.C (Kd.int .i64) w A xs.length xs) :
    Calls Try.prog 42 #[.slice A xs.length c, .int .i64 x] w fun e w' => e = .returned (.bool (decide (x ∈ xs))) ∧ w = w' := by
  rcases Nat.eq_zero_or_pos xs.length with h0 | h0
  · have hx := List.eq_nil_of_length_eq_zero h0
    subst hx
    refine (Try.slices_Contains_int_empty A c x w).mono ?_
    rintro e w' ⟨rfl, rfl⟩
    exact ⟨by simp, rfl⟩
  · obtain ⟨b, off, rfl, hc⟩ := addr_of_C h h0
    refine (Try.slices_Contains_int b off xs.length c xs x w (Nat.le_refl _) (Kd.reads_of_C (d := (0 : Int)) h).2.1 hc).mono ?_
    rintro e w' ⟨rfl, rfl⟩
    refine ⟨?_, rfl⟩
    rw [List.take_length]
    have : xs.contains x = decide (x ∈ xs) := by rw [Bool.eq_iff_iff]; simp
    rw [this]
/-- What the iterator reads. -/
structure SegEnv (d r s : Int) (Bg Bc Bt : Nat) (Ac : Option Addr) (cc : Nat) (cs : List Int) (At : Option Addr) (ct : Nat) (tk : List Int) (W : World) : Prop where
  g : W.heap[Bg]? = some (.cells #[.int .i64 d, .int .i64 r, .int .i64 s] 23 (0, 0))
  c : W.cell? ⟨Bc, 0, none⟩ = some (.slice Ac cs.length cc)
  t : W.cell? ⟨Bt, 0, none⟩ = some (.slice At tk.length ct)
  cc : Kd.C (Kd.int .i64) W Ac cs.length cs
  ct : Kd.C (Kd.int .i64) W At tk.length tk
theorem SegEnv.below {d r s : Int} {Bg Bc Bt : Nat} {Ac At : Option Addr} {cc ct : Nat} {cs tk : List Int} {W W' : World} (h : SegEnv d r s Bg Bc Bt Ac cc cs At ct tk W) (hb : Below W.heap.size W W') : SegEnv d r s Bg Bc Bt Ac cc cs At ct tk W' :=
  ⟨blk_below h.g hb, (hb.cell (World.block_lt_of_cell? W _ h.c)).trans h.c, (hb.cell (World.block_lt_of_cell? W _ h.t)).trans h.t, Kd.C_below h.cc hb, Kd.C_below h.ct hb⟩
theorem geoA (d r s : Int) : (#[Value.int .i64 d, .int .i64 r, .int .i64 s] : Array Value) = geoB d r s := rfl

set_option maxRecDepth 100000 in
set_option maxHeartbeats 2000000 in
theorem seg1_no (n : Nat) (d r s : Int) (l Bg Bc Bt : Nat) (Ac At : Option Addr) (cc ct : Nat) (cs tk : List Int) (hg : ¬ GR d r s) (J : List (Nat × Int) → World → Prop) (W : World) (hJ : ∀ W', Below W.heap.size W W' → J [] W') (hE : SegEnv d r s Bg Bc Bt Ac cc cs At ct tk W) :
    CallsIn Fence.wide n Try.prog 41 #[.func (.yield l) #[] #[], .pointer (some ⟨Bg, 0, none⟩), .pointer (some ⟨Bc, 0, none⟩), .pointer (some ⟨Bt, 0, none⟩)] W fun e W' => (∃ v, e = .returned v) ∧ J [] W' := by
  have H := Lib.hid (Right_neg hg)
  have hg0 : W.cell? ⟨Bg, 0, none⟩ = some (.int .i64 d) := (blk_cell hE.g 0).trans rfl
  have hg1 : W.cell? ⟨Bg, 1, none⟩ = some (.int .i64 r) := (blk_cell hE.g 1).trans rfl
  have hg2 : W.cell? ⟨Bg, 2, none⟩ = some (.int .i64 s) := (blk_cell hE.g 2).trans rfl
  have HJ := Lib.hid hJ
  clear hJ hE hg
  refine callsIn_of_wp Try.func41 rfl trivial ?_ rfl
  simp only [Try.ntmps41, List.size_toArray, List.length_cons, List.length_nil, Nat.reduceAdd, Nat.reduceSub, Array.replicate_succ, Array.replicate_zero, List.push_toArray, List.append_toArray, List.nil_append, List.cons_append]
  gi_wp2_with (refine ⟨trivial, fun h => absurd h (by decide), ?_⟩; gi_at_call 23; refine (callsIn_wide.2 (geo_Right.calls d r s false _ H.out)).mono ?_; rintro e w' ⟨rfl, hB⟩; have HJ2 := Lib.hid (HJ.out _ hB); clear hB)
  refine bodyPost_ret (results_none rfl _ _ _) rfl ?_
  exact ⟨⟨_, rfl⟩, HJ2.out⟩
set_option maxRecDepth 100000 in
set_option maxHeartbeats 4000000 in
theorem seg1_yes (n : Nat) (d r : Int) (S : Nat) (l Bg Bc Bt : Nat) (Ac At : Option Addr) (cc ct : Nat) (cs tk : List Int) (hg : GR d r (S : Int)) (Kp : World → World → Prop) (Env : World → Prop) (hE : ∀ W, Env W → SegEnv d r (S : Int) Bg Bc Bt Ac cc cs At ct tk W) (hEk : ∀ W W', Env W → Kp W W' → Env W') (hEb : ∀ W W', Env W → Below W.heap.size W W' → Env W')
    (J Jx : List (Nat × Int) → World → Prop) (hJb : ∀ s W W', J s W → Below W.heap.size W W' → J s W')
    (hY : ∀ pre x W, J pre W → pre.length < S → YieldAt Fence.wide (n - 1) Try.prog l #[.int .i64 (x.1 : Int), .int .i64 x.2] W fun e W' =>
      (e = .returned (.bool true) ∧ J (pre ++ [x]) W' ∧ Kp W W') ∨ (e = .returned (.bool false) ∧ Jx (pre ++ [x]) W'))
    (W : World) (h0 : J [] W) (hE0 : Env W) :
    CallsIn Fence.wide n Try.prog 41 #[.func (.yield l) #[] #[], .pointer (some ⟨Bg, 0, none⟩), .pointer (some ⟨Bc, 0, none⟩), .pointer (some ⟨Bt, 0, none⟩)] W fun e W' => (∃ v, e = .returned v) ∧
      ((∃ ys, ys = segP cs tk S ∧ J ys W') ∨ (∃ pre, (∃ k, k ≤ S ∧ pre = segP cs tk k) ∧ Jx pre W')) := by
  have H := Lib.hid (Right_pos hg)
  have hs1 := hg.1.s1
  have hg0 : W.cell? ⟨Bg, 0, none⟩ = some (.int .i64 d) := (blk_cell (hE W hE0).g 0).trans rfl
  have hg1 : W.cell? ⟨Bg, 1, none⟩ = some (.int .i64 r) := (blk_cell (hE W hE0).g 1).trans rfl
  have hg2 : W.cell? ⟨Bg, 2, none⟩ = some (.int .i64 S) := (blk_cell (hE W hE0).g 2).trans rfl
  have HJb := Lib.hid hJb
  have HY := Lib.hid hY
  have HE := Lib.hid hE
  have HEk := Lib.hid hEk
  have HEb := Lib.hid hEb
  have H0 := Lib.hid h0
  have HE0 := Lib.hid hE0
  clear hJb hY hE hEk hEb h0 hE0 hg
  refine callsIn_of_wp Try.func41 rfl trivial ?_ rfl
  simp only [Try.ntmps41, List.size_toArray, List.length_cons, List.length_nil, Nat.reduceAdd, Nat.reduceSub, Array.replicate_succ, Array.replicate_zero, List.push_toArray, List.append_toArray, List.nil_append, List.cons_append]
  gi_wp2_with (refine ⟨trivial, fun h => absurd h (by decide), ?_⟩; gi_at_call 23; refine (callsIn_wide.2 (geo_Right.calls d r S true _ H.out)).mono ?_; rintro e w' ⟨rfl, hB⟩; have HJ2 := Lib.hid (HJb.out _ _ _ H0.out hB); have HE2 := Lib.hid (HEb.out _ _ HE0.out hB); clear hB; have hg2' : w'.cell? ⟨Bg, 2, none⟩ = some (.int .i64 S) := (blk_cell (HE.out w' HE2.out).g 2).trans rfl)
  clear hg2' hg0 hg1 hg2 H0 HE0
  gi_loopw [12] (fun i wr => ∃ k : Nat, k ≤ S ∧ i = .int .i64 k ∧ Hid (J (segP cs tk k) wr) ∧ Hid (Env wr)) (fun i _ => S - (intOf i).toNat)
  case atStart => exact ⟨0, Nat.zero_le _, rfl, HJ2, HE2⟩
  case round =>
    clear HJ2 HE2
    obtain ⟨k, hk, rfl, HJ2, HE2⟩ := hrel
    by_cases hlt : k < S
    · have hen := HE.out wr HE2.out
      have hbc := hen.c
      have hbt := hen.t
      have HCT := Lib.hid hen.ct
      have HPS : Hid (segP cs tk (k + 1) = segP cs tk k ++ if (k : Int) ∈ tk then [] else [(k, cs.getD k 0)]) := segP_succ cs tk k
      obtain ⟨y, hy⟩ : ∃ y, cs.getD k 0 = y := ⟨_, rfl⟩
      have HYY := Lib.hid hy
      by_cases hm : (k : Int) ∈ tk
      · have HPT : Hid (segP cs tk (k + 1) = segP cs tk k) := by show _ = _; rw [HPS.out, if_pos hm, List.append_nil]
        have HM : Hid (decide ((k : Int) ∈ tk) = true) := decide_eq_true hm
        clear hm
        by_cases hc : k < cs.length
        · obtain ⟨b, off, hA, hcl⟩ := addr_of_C hen.cc (by omega)
          subst hA
          have hcell := hcl k hc
          rw [hy] at hcell
          have hcl2 : (cs.length : Int) ≤ 9223372036854775807 := by have := (Kd.reads_of_C (d := (0 : Int)) hen.cc).2.1; omega
          clear hcl hy hen
          gi_wp2_with (refine ⟨trivial, fun h => absurd h (by decide), ?_⟩; gi_at_call 42; refine (callsIn_wide.2 (contains_calls At ct tk k _ HCT.out)).mono ?_; rintro e w' ⟨rfl, rfl⟩; rw [HM.out])
          refine ⟨fun _ h => (by cases h), ?_⟩
          gi_wp2
          go_roundw
          case rel => exact ⟨k + 1, by omega, by go_num, by rw [HPT.out]; exact HJ2, HE2⟩
          case measure => simp [intOf]; omega
        · have hcl2 : (cs.length : Int) ≤ 9223372036854775807 := by have := (Kd.reads_of_C (d := (0 : Int)) hen.cc).2.1; omega
          have hy0 : y = 0 := by rw [← hy, List.getD_eq_getElem?_getD, List.getElem?_eq_none (by omega)]; rfl
          subst hy0
          clear hy hen
          gi_wp2_with (refine ⟨trivial, fun h => absurd h (by decide), ?_⟩; gi_at_call 42; refine (callsIn_wide.2 (contains_calls At ct tk k _ HCT.out)).mono ?_; rintro e w' ⟨rfl, rfl⟩; rw [HM.out])
          refine ⟨fun _ h => (by cases h), ?_⟩
          gi_wp2
          go_roundw
          case rel => exact ⟨k + 1, by omega, by go_num, by rw [HPT.out]; exact HJ2, HE2⟩
          case measure => simp [intOf]; omega
      · have HPT : Hid (segP cs tk (k + 1) = segP cs tk k ++ [(k, y)]) := by show _ = _; rw [HPS.out, if_neg hm, hy]
        have HM : Hid (decide ((k : Int) ∈ tk) = false) := decide_eq_false hm
        clear hm
        by_cases hc : k < cs.length
        · obtain ⟨b, off, hA, hcl⟩ := addr_of_C hen.cc (by omega)
          subst hA
          have hcell := hcl k hc
          rw [hy] at hcell
          have hcl2 : (cs.length : Int) ≤ 9223372036854775807 := by have := (Kd.reads_of_C (d := (0 : Int)) hen.cc).2.1; omega
          clear hcl hy hen
          obtain ⟨fn, tmps, assign, body, hyy, hR⟩ := HY.out (segP cs tk k) (k, y) wr HJ2.out (by have := segP_len cs tk k; omega)
          dsimp only at hyy
          gi_wp2_with (refine ⟨trivial, fun h => absurd h (by decide), ?_⟩; gi_at_call 42; refine (callsIn_wide.2 (contains_calls At ct tk k _ HCT.out)).mono ?_; rintro e w' ⟨rfl, rfl⟩; rw [HM.out])
          refine ⟨fun h => absurd h (by decide), ?_⟩
          refine hR.mono ?_
          rintro e W3 (⟨rfl, hJ3, hk3⟩ | ⟨rfl, hJx3⟩)
          · have HJ3 := Lib.hid hJ3
            have HE3 := Lib.hid (HEk.out _ _ HE2.out hk3)
            clear hJ3 hk3
            gi_wp2
            go_roundw
            case rel => exact ⟨k + 1, by omega, by go_num, by rw [HPT.out]; exact HJ3, HE3⟩
            case measure => simp [intOf]; omega
          · have HJX := Lib.hid hJx3
            clear hJx3
            gi_wp2
            refine bodyPost_ret (results_none rfl _ _ _) rfl ?_
            exact ⟨⟨_, rfl⟩, .inr ⟨_, ⟨k + 1, by omega, rfl⟩, by rw [HPT.out]; exact HJX.out⟩⟩
        · have hcl2 : (cs.length : Int) ≤ 9223372036854775807 := by have := (Kd.reads_of_C (d := (0 : Int)) hen.cc).2.1; omega
          have hy0 : y = 0 := by rw [← hy, List.getD_eq_getElem?_getD, List.getElem?_eq_none (by omega)]; rfl
          subst hy0
          clear hy hen
          obtain ⟨fn, tmps, assign, body, hyy, hR⟩ := HY.out (segP cs tk k) (k, 0) wr HJ2.out (by have := segP_len cs tk k; omega)
          dsimp only at hyy
          gi_wp2_with (refine ⟨trivial, fun h => absurd h (by decide), ?_⟩; gi_at_call 42; refine (callsIn_wide.2 (contains_calls At ct tk k _ HCT.out)).mono ?_; rintro e w' ⟨rfl, rfl⟩; rw [HM.out])
          refine ⟨fun h => absurd h (by decide), ?_⟩
          refine hR.mono ?_
          rintro e W3 (⟨rfl, hJ3, hk3⟩ | ⟨rfl, hJx3⟩)
          · have HJ3 := Lib.hid hJ3
            have HE3 := Lib.hid (HEk.out _ _ HE2.out hk3)
            clear hJ3 hk3
            gi_wp2
            go_roundw
            case rel => exact ⟨k + 1, by omega, by go_num, by rw [HPT.out]; exact HJ3, HE3⟩
            case measure => simp [intOf]; omega
          · have HJX := Lib.hid hJx3
            clear hJx3
            gi_wp2
            refine bodyPost_ret (results_none rfl _ _ _) rfl ?_
            exact ⟨⟨_, rfl⟩, .inr ⟨_, ⟨k + 1, by omega, rfl⟩, by rw [HPT.out]; exact HJX.out⟩⟩
    · have hkS : k = S := by omega
      subst hkS
      gi_wp2
      go_end0
      exact ⟨⟨_, rfl⟩, .inl ⟨_, rfl, HJ2.out⟩⟩
theorem segs_stops (n : Nat) (d r : Int) (S : Nat) (Bg Bc Bt : Nat) (Ac At : Option Addr) (cc ct : Nat) (cs tk : List Int) (hg : GR d r (S : Int)) (Kp : World → World → Prop) (Env : World → Prop) (hE : ∀ W, Env W → SegEnv d r (S : Int) Bg Bc Bt Ac cc cs At ct tk W) (hEk : ∀ W W', Env W → Kp W W' → Env W') (hEb : ∀ W W', Env W → Below W.heap.size W W' → Env W') (w : World) (h0 : Env w) :
    SeqStopsK Fence.wide n Try.prog 41 #[.pointer (some ⟨Bg, 0, none⟩), .pointer (some ⟨Bc, 0, none⟩), .pointer (some ⟨Bt, 0, none⟩)] (fun x : Nat × Int => #[Value.int .i64 (x.1 : Int), Value.int .i64 x.2]) Kp (fun ys => ys = segP cs tk S) (fun pre => ∃ k, k ≤ S ∧ pre = segP cs tk k) S w := fun l J Jx W hW hJ hJx hY hJ0 =>
  seg1_yes n d r S l Bg Bc Bt Ac At cc ct cs tk hg Kp Env hE hEk hEb J Jx (fun s W W' hs hb => hJ s W W' none hs (grown_of_below hb none) (fun r e => by cases e)) hY W hJ0 (hEb _ _ h0 hW)
theorem segs_stops_no (n : Nat) (d r s : Int) (Bg Bc Bt : Nat) (Ac At : Option Addr) (cc ct : Nat) (cs tk : List Int) (hg : ¬ GR d r s) (Kp : World → World → Prop) (w : World) (h0 : SegEnv d r s Bg Bc Bt Ac cc cs At ct tk w) :
    SeqStopsK Fence.wide n Try.prog 41 #[.pointer (some ⟨Bg, 0, none⟩), .pointer (some ⟨Bc, 0, none⟩), .pointer (some ⟨Bt, 0, none⟩)] (fun x : Nat × Int => #[Value.int .i64 (x.1 : Int), Value.int .i64 x.2]) Kp (fun ys => ys = []) (fun pre => False) 0 w := fun l J Jx W hW hJ hJx hY hJ0 => by
  refine (seg1_no n d r s l Bg Bc Bt Ac At cc ct cs tk hg J W (fun W' hb => hJ _ _ _ none hJ0 (grown_of_below hb none) (fun r e => by cases e)) (h0.below hW)).mono ?_
  rintro e W' ⟨hv, hj⟩
  exact ⟨hv, .inl ⟨_, rfl, hj⟩⟩
/-- usage.segments: the arguments are boxed; the function value captures the boxes. -/
theorem segments_calls (d r s : Int) (v1 v2 : Value) (w : World) (A1 A2 : Option Addr) (n1 n2 c1 c2 : Nat) (h1 : v1 = .slice A1 n1 c1) (h2 : v2 = .slice A2 n2 c2) :
    Calls Try.prog 30 #[.agg #[.int .i64 d, .int .i64 r, .int .i64 s], v1, v2] w fun e w' => e = .returned (.func (.func 41) #[] #[.pointer (some ⟨w.heap.size, 0, none⟩), .pointer (some ⟨w.heap.size + 1, 0, none⟩), .pointer (some ⟨w.heap.size + 2, 0, none⟩)]) ∧
      w' = ((w.alloc (.cells #[.int .i64 d, .int .i64 r, .int .i64 s] 23)).alloc (.cells #[v1] 24)).alloc (.cells #[v2] 24) := by
  subst h1; subst h2
  go_enter Try.func30, Try.ntmps30
  go_wp2
  go_ret
  exact ⟨rfl, rfl⟩
end Go.Proofs.Ytogdnolkheifcaa.Given
