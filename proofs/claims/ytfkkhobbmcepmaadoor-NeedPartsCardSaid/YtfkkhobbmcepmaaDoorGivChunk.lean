/- slices.Chunk of bytes by 56, and the iterator that it hands back: by hand. -/
import Derived.RangeFuncNested
import Derived.RangeFuncBound
import Derived.RangeFuncCalls
import Derived.RangeFuncLeaves
import Derived.RangeFuncBox
import Derived.Shelf.Abstract
import Derived.Shelf.RegionOpen
import Derived.OwnWalkIn
import Derived.TacticsInMore
import Derived.LoopNIn
import Derived.LoopIn
import Derived.Maps.AppendAt
import Derived.Lib.Hide
import Derived.Maps.OwnIn
import Derived.Test.YtfkkhobbmcepmaaDoorGivNought
import Derived.Test.YtfkkhobbmcepmaaDoorBase
namespace Go.Proofs.YtfkkhobbmcepmaaDoor.Given
open Go.RowKit Go.Shelf Go.Proofs.YtfkkhobbmcepmaaDoorW.PrintWords Go.Proofs.YtfkkhobbmcepmaaDoorW.PrintLast Go.Proofs.YtfkkhobbmcepmaaDoorW.PrintMore Go.Proofs.YtfkkhobbmcepmaaDoor.Base
set_option linter.unusedVariables false
set_option linter.unusedSimpArgs false
attribute [local go_sem] Oper.semAt_some
theorem addr_add (b off j : Nat) : (⟨b, off, none⟩ : Addr).add j = ⟨b, off + j, none⟩ := by unfold Addr.add; split <;> simp_all
theorem addr_of_C {k : IntKind} {w : World} {A : Option Addr} {n : Nat} {xs : List Int} (h : Kd.C (Kd.int k) w A n xs) (h0 : 0 < n) : ∃ b off, A = some ⟨b, off, none⟩ ∧ ∀ j, j < n → w.cell? ⟨b, off + j, none⟩ = some (.int k (xs.getD j 0)) := by
  obtain ⟨ad, e, hc⟩ := (Kd.reads_of_C (d := (0 : Int)) h).2.2 h0
  have h1 := hc 0 h0
  have hs : ad.spot = none := by
    have a0 : ad.add 0 = ad := by simp [Addr.add]
    rw [a0] at h1
    cases hsp : ad.spot with
    | none => rfl
    | some s =>
      exfalso
      unfold World.cell? at h1
      split at h1
      · rw [hsp] at h1; simp at h1
      · cases h1
  obtain ⟨b, off, sp⟩ := ad
  simp only at hs
  subst hs
  exact ⟨b, off, e, fun j hj => by rw [← addr_add]; exact hc j hj⟩
/-- The chunk k of n bytes at A. -/
def ckV : Option Addr → Nat → Nat → Value
  | some ⟨b, off, none⟩, n, k => if 56 * k < n then .slice (some ⟨b, off + 56 * k, none⟩) (min 56 (n - 56 * k)) (min 56 (n - 56 * k)) else .slice none 0 0
  | _, _, _ => .slice none 0 0
theorem ckV_in (bb off n k : Nat) (h : 56 * k < n) : ckV (some ⟨bb, off, none⟩) n k = .slice (some ⟨bb, off + 56 * k, none⟩) (min 56 (n - 56 * k)) (min 56 (n - 56 * k)) := by
  show (if _ then _ else _) = _
  rw [if_pos h]
theorem ckV_out (A : Option Addr) (n k : Nat) (h : ¬ 56 * k < n) : ckV A n k = .slice none 0 0 := by
  unfold ckV
  split
  · rw [if_neg h]
  · rfl
/-- How many chunks n bytes have. -/
def chN (n : Nat) : Nat := (n + 55) / 56
structure ChEnv (Bs Bn : Nat) (A : Option Addr) (c : Nat) (b : List Int) (W : World) : Prop where
  s : W.cell? ⟨Bs, 0, none⟩ = some (.slice A b.length c)
  n : W.cell? ⟨Bn, 0, none⟩ = some (.int .i64 56)
  cc : Kd.C (Kd.int .u8) W A b.length b
set_option maxRecDepth 100000 in
set_option maxHeartbeats 4000000 in
theorem chunk1 (n : Nat) (l Bs Bn : Nat) (A : Option Addr) (c : Nat) (b : List Int) (hb : b.length ≤ 1000000) (hc : b.length ≤ c) (Kp : World → World → Prop) (Env : World → Prop) (hE : ∀ W, Env W → ChEnv Bs Bn A c b W) (hEk : ∀ W W', Env W → Kp W W' → Env W') (hEb : ∀ W W', Env W → Below W.heap.size W W' → Env W')
    (J Jx : List Nat → World → Prop) (hJb : ∀ s W W', J s W → Below W.heap.size W W' → J s W')
    (hY : ∀ pre x W, J pre W → pre.length < chN b.length → YieldAt Fence.wide (n - 1) Tryd.prog l #[ckV A b.length x] W fun e W' =>
      (e = .returned (.bool true) ∧ J (pre ++ [x]) W' ∧ Kp W W') ∨ (e = .returned (.bool false) ∧ Jx (pre ++ [x]) W'))
    (W : World) (h0 : J [] W) (hE0 : Env W) :
    CallsIn Fence.wide n Tryd.prog 26 #[.func (.yield l) #[] #[], .pointer (some ⟨Bs, 0, none⟩), .pointer (some ⟨Bn, 0, none⟩)] W fun e W' => (∃ v, e = .returned v) ∧
      ((∃ ys, ys = List.range (chN b.length) ∧ J ys W') ∨ (∃ pre, True ∧ Jx pre W')) := by
  have HJb := Lib.hid hJb
  have HY := Lib.hid hY
  have HE := Lib.hid hE
  have HEk := Lib.hid hEk
  have HEb := Lib.hid hEb
  have H0 := Lib.hid h0
  have HE0 := Lib.hid hE0
  clear hJb hY hE hEk hEb h0 hE0
  refine callsIn_of_wp Tryd.func26 rfl trivial ?_ rfl
  simp only [Tryd.ntmps26, List.size_toArray, List.length_cons, List.length_nil, Nat.reduceAdd, Nat.reduceSub, Array.replicate_succ, Array.replicate_zero, List.push_toArray, List.append_toArray, List.nil_append, List.cons_append]
  gi_wp2
  gi_loopw [4] (fun i wr => ∃ k : Nat, k ≤ chN b.length ∧ i = .int .i64 ((56 * k : Nat) : Int) ∧ Hid (J (List.range k) wr) ∧ Hid (Env wr)) (fun i _ => 56 * chN b.length - (intOf i).toNat)
  case atStart => exact ⟨0, Nat.zero_le _, rfl, H0, HE0⟩
  case round =>
    clear H0 HE0
    obtain ⟨k, hk, rfl, HJ, HE2⟩ := hrel
    have hen := HE.out wr HE2.out
    have hbs := hen.s
    have hbn := hen.n
    by_cases hlt : k < chN b.length
    · have h56 : 56 * k < b.length := by unfold chN at hlt; omega
      obtain ⟨bb, off, rfl, hcl⟩ := addr_of_C hen.cc (by omega)
      have hck := ckV_in bb off b.length k h56
      have HED : Hid (Env wr.drew) := HEb.out wr wr.drew HE2.out (below_drew (Below.refl _ _))
      obtain ⟨fn, tmps, assign, body, hyy, hR⟩ := HY.out (List.range k) k wr.drew (HJb.out _ wr wr.drew HJ.out (below_drew (Below.refl _ _))) (by simpa using hlt)
      rw [hck] at hyy
      obtain ⟨q, hq⟩ : ∃ q, 56 * k = q := ⟨_, rfl⟩
      obtain ⟨m, hm⟩ : ∃ m, b.length = m := ⟨_, rfl⟩
      rw [hq, hm] at h56 hyy
      rw [hm] at hbs hc hb
      have hd0 : decide ((q : Int) < (m : Int)) = true := decide_eq_true (by omega)
      rw [hq]
      clear hen hcl hck
      have hqm : (q : Int) ≤ (m : Int) := by omega
      have hmc : (m : Int) ≤ (c : Int) := by omega
      have hmb : (m : Int) ≤ 1000000 := by omega
      have hsub : m - q ≤ c - q := by omega
      gi_wp2
      gi_region
      gi_wp2
      all_goals
        first | rw [show ((q : Int) + 56).toNat - q = min 56 (m - q) by omega] | rw [show ((q : Int) + ((m - q : Nat) : Int)).toNat - q = min 56 (m - q) by omega]
        rw [hyy]
        clear hyy
        gi_wp2
        refine ⟨fun h => absurd h (by decide), hR.mono ?_⟩
        clear hR
        rintro e W3 (⟨rfl, hJ3, hk3⟩ | ⟨rfl, hJx3⟩)
        · rw [← List.range_succ] at hJ3
          have HJ3 := Lib.hid hJ3
          have HE3 := Lib.hid (HEk.out _ _ HED.out hk3)
          have hbn3 := (HE.out W3 HE3.out).n
          have h57 : IntKind.i64.wrap ((q : Int) + 56) = (q : Int) + 56 := IntWalk.i64_in _ (by omega)
          clear hJ3 hk3
          gi_wp2
          go_roundw
          case rel => exact ⟨k + 1, by omega, by congr 1; omega, HJ3, HE3⟩
          case measure => simp [intOf]; omega
        · have HJX := Lib.hid hJx3
          clear hJx3
          gi_wp2
          refine bodyPost_ret (results_none rfl _ _ _) rfl ?_
          exact ⟨⟨_, rfl⟩, .inr ⟨_, trivial, HJX.out⟩⟩
    · obtain rfl : k = chN b.length := by omega
      have hge : b.length ≤ 56 * chN b.length := by unfold chN; omega
      have hle : 56 * chN b.length ≤ b.length + 55 := by unfold chN; omega
      obtain ⟨q, hq⟩ : ∃ q, 56 * chN b.length = q := ⟨_, rfl⟩
      obtain ⟨m, hm⟩ : ∃ m, b.length = m := ⟨_, rfl⟩
      rw [hq, hm] at hge
      rw [hm] at hbs
      have hd0 : decide ((q : Int) < (m : Int)) = false := decide_eq_false (by omega)
      rw [hq]
      have HJE := Lib.hid HJ.out
      clear hen hle
      gi_wp2
      go_end0
      exact ⟨⟨_, rfl⟩, .inl ⟨_, rfl, HJE.out⟩⟩
theorem chunk_stops (n : Nat) (Bs Bn : Nat) (A : Option Addr) (c : Nat) (b : List Int) (hb : b.length ≤ 1000000) (hc : b.length ≤ c) (Kp : World → World → Prop) (Env : World → Prop) (hE : ∀ W, Env W → ChEnv Bs Bn A c b W) (hEk : ∀ W W', Env W → Kp W W' → Env W') (hEb : ∀ W W', Env W → Below W.heap.size W W' → Env W') (w : World) (h0 : Env w) :
    SeqStopsK Fence.wide n Tryd.prog 26 #[.pointer (some ⟨Bs, 0, none⟩), .pointer (some ⟨Bn, 0, none⟩)] (fun x : Nat => #[ckV A b.length x]) Kp (fun ys => ys = List.range (chN b.length)) (fun pre => True) (chN b.length) w := fun l J Jx W hW hJ hJx hY hJ0 =>
  chunk1 n l Bs Bn A c b hb hc Kp Env hE hEk hEb J Jx (fun s W W' hs hb => hJ s W W' none hs (grown_of_below hb none) (fun r e => by cases e)) hY W hJ0 (hEb _ _ h0 hW)
theorem chunk_calls (v : Value) (A : Option Addr) (n c : Nat) (hv : v = .slice A n c) (w : World) :
    Calls Tryd.prog 16 #[v, .int .i64 56] w fun e w' => e = .returned (.func (.func 26) #[] #[.pointer (some ⟨w.heap.size, 0, none⟩), .pointer (some ⟨w.heap.size + 1, 0, none⟩)]) ∧
      w' = (w.alloc (.cells #[v] 22)).alloc (.cells #[.int .i64 56] 3) := by
  subst hv
  go_enter Tryd.func16, Tryd.ntmps16
  go_wp2
  go_ret
  exact ⟨rfl, rfl⟩
end Go.Proofs.YtfkkhobbmcepmaaDoor.Given
