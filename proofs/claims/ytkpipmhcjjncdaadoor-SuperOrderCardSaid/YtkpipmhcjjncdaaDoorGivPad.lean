/- The contract of bits.Pad, in the printed contracts' form: by hand. -/
import Derived.Test.YtkpipmhcjjncdaaDoorProg
import Derived.Test.YtkpipmhcjjncdaaDoorWWords
import Derived.Test.YtkpipmhcjjncdaaDoorWLast
import Derived.WalkKit
import Derived.OwnWalk
import Derived.LoopTactic
import Derived.Outline
import Derived.KernelRfl
import Derived.Laws.CopyOwn
namespace Go.Proofs.YtkpipmhcjjncdaaDoor.Given
open Go.RowKit Go.Proofs.YtkpipmhcjjncdaaDoorW.PrintWords Go.Proofs.YtkpipmhcjjncdaaDoorW.PrintLast
set_option linter.unusedVariables false
set_option linter.unusedSimpArgs false

def padL (l : List Int) (n : Nat) : List Int := l ++ List.replicate (n - l.length) 0
theorem padL_length (l : List Int) (n : Nat) (h : l.length ≤ n) : (padL l n).length = n := by simp [padL]; omega
theorem encs_repP (n : Nat) : encs (Value.int .u8) (List.replicate n 0) = (madeCells (Value.int .u8 0).cells (n * 1)).toList := by
  show _ = (madeCells #[Value.int .u8 0] (n * 1)).toList
  rw [toList_madeCells_one, Nat.mul_one]; simp [encs]
theorem infoU8p : (Tryd.prog.info? 5).map (fun i => (i.zero, i.size, i.bytes)) = some (some (.int .u8 0), 1, 1) := by kernel_rfl
theorem infoU8s : (Tryd.prog.info? 5).map (·.size) = some 1 := by kernel_rfl
/-- An owned row of n cells, as large as it is long: the block whole. -/
theorem own_whole {W : World} {base g n : Nat} {e : TypeId} {xs : List Value} (h : W.ownsRow base e 1 (.slice (some ⟨g, 0, none⟩) n n) n xs) : W.heap[g]? = some (.cells xs.toArray e (0, 0)) := by
  rcases h.2 with ⟨h', _⟩ | ⟨g', cap', cur, h', _, hg, _, _, hs, htake⟩
  · simp at h'
  · simp only [Value.slice.injEq, Option.some.injEq, Addr.mk.injEq, and_true, true_and] at h'
    obtain ⟨rfl, rfl⟩ := h'
    rw [hg]
    have : cur.toList = xs := by rw [← htake, List.take_of_length_le (by simp; omega)]
    rw [← this]
theorem whole_own {W : World} {base g n : Nat} {e : TypeId} {xs : List Value} (hb : base ≤ g) (hn : xs.length = n) (hm : n ≤ maxLen) (h : W.heap[g]? = some (.cells xs.toArray e (0, 0))) : W.ownsRow base e 1 (.slice (some ⟨g, 0, none⟩) n n) n xs :=
  ⟨by omega, .inr ⟨g, n, xs.toArray, rfl, hb, h, Nat.le_refl _, hm, by rw [List.size_toArray, hn, Nat.mul_one], by show xs.take (n * 1) = xs; exact List.take_of_length_le (by omega)⟩⟩

set_option maxHeartbeats 1000000 in
theorem pad_pos (A : Option Addr) (c : Nat) (l : List Int) (n : Nat) (wd : World) (hr : Kd.C (Kd.int .u8) wd A l.length l) (hl : l.length ≤ n) (hn : n ≤ 65536) :
    Calls Tryd.prog 46 #[.slice A l.length c, .int .i64 n] wd fun e w' => ∃ v0_ : Value, e = .returned (.tuple #[v0_, .bool true]) ∧ w'.ownsRow wd.heap.size 5 1 v0_ n (encs (Value.int .u8) (padL l n)) ∧ Below wd.heap.size wd w' := by
  obtain ⟨i0, hi, hz0, hz1, hz2⟩ := info_parts infoU8p
  have HI : Hid (Tryd.prog.info? 5 = some i0) := hi
  have HZ0 : Hid (i0.zero = some (.int .u8 0)) := hz0
  have HZ1 : Hid (i0.size = 1) := hz1
  have HZ2 : Hid (i0.bytes = 1) := hz2
  have hR := Kd.reads_of_C (d := (0 : Int)) hr
  have HR : Hid (0 < l.length → ∃ ad, A = some ad ∧ ∀ j, j < l.length → wd.cell? (ad.add j) = some (.int .u8 (l.getD j 0))) := hR.2.2
  clear hi hz0 hz1 hz2 hr hR
  obtain ⟨m, hm⟩ : ∃ m, l.length = m := ⟨_, rfl⟩
  rw [hm] at hl HR ⊢
  have HM : Hid (l.length = m) := hm
  clear hm
  go_enter Tryd.func46, Tryd.ntmps46
  go_wp2_with (first | (at_make; refine wpList_make_full _ rfl _ _ 27 rfl wd.heap.size 5 i0 (.int .u8 0) 1 Tryd.underlying27 HI.out HZ0.out HZ1.out .i64 .i64 n n n rfl rfl rfl rfl (by rw [HZ2.out]; omega) (by unfold maxLen; omega) (Nat.le_refl _) ?_; intro w1 hown hgrow; have HW : Hid (w1.heap[wd.heap.size]? = some (.cells (encs (Value.int .u8) (List.replicate n 0)).toArray 5 (0, 0))) := by { rw [encs_repP]; exact own_whole hown }; have HB : Hid (Below wd.heap.size wd w1) := (Below.refl _ _).grown hgrow (Nat.le_refl _) (fun k hk => by cases hk); clear hown hgrow) | (with_reducible refine wpList_copy_splice rfl (.tmp 17) (.tmp 18) 27 27 rfl 5 Tryd.underlying27 infoU8s _ _ _ _ _ _ rfl rfl wd.heap.size 0 (encs (Value.int .u8) (List.replicate n 0)) 5 HW.out (encs (Value.int .u8) l) ?c1 ?c2 ?c3 ?c4 wd.heap.size wd HB.out (Nat.le_refl _) ?_))
  case c1 => rw [encs_length, HM.out]; exact (Nat.min_eq_left hl).symm
  case c2 =>
    intro h0
    rw [encs_length] at h0
    obtain ⟨ad, e, hc⟩ := HR.out (by rw [← HM.out]; exact h0)
    first | refine ⟨rfl, ad, e, ?_⟩ | refine ⟨ad, e, ?_⟩
    intro j v hj
    have hjl : j < l.length := by have := (List.getElem?_eq_some_iff.1 hj).1; rwa [encs_length] at this
    have hcj := hc j (by rw [← HM.out]; exact hjl)
    rw [encs_get (d := (0 : Int)) l j hjl] at hj
    cases hj
    exact (HB.out.cell (World.block_lt_of_cell? wd _ hcj)).trans hcj
  case c3 => rw [encs_length, encs_length, List.length_replicate, HM.out]; omega
  case c4 =>
    intro v hv
    simp only [encs, List.mem_map] at hv
    obtain ⟨x, _, rfl⟩ := hv
    rfl
  intro w2 hh hb2
  have HH : Hid (w2.heap[wd.heap.size]? = some (.cells (encs (Value.int .u8) (padL l n)).toArray 5 (0, 0))) := by
    have e : splice (encs (Value.int .u8) (List.replicate n 0)) 0 (encs (Value.int .u8) l) = encs (Value.int .u8) (padL l n) := by
      simp [splice, encs, padL]
    rw [← e]; exact hh.out
  have HB2 : Hid (Below wd.heap.size wd w2) := hb2
  clear hh hb2
  go_wp2
  go_ret2
  exact ⟨_, rfl, whole_own (Nat.le_refl _) (by rw [encs_length, padL_length _ _ (by rw [HM.out]; exact hl)]) (by unfold maxLen; omega) HH.out, HB2.out⟩

theorem pad_neg (A : Option Addr) (m c : Nat) (n : Int) (wd : World) (hm : m ≤ 9223372036854775807) (h : 65536 < n ∨ n < m) :
    Calls Tryd.prog 46 #[.slice A m c, .int .i64 n] wd fun e w' => e = .returned (.tuple #[.slice none 0 0, .bool false]) ∧ wd = w' := by
  by_cases h1 : 65536 < n
  · clear h
    go_enter Tryd.func46, Tryd.ntmps46
    go_wp2
    go_ret2
    exact ⟨rfl, rfl⟩
  · have h2 : n < m := by omega
    clear h
    go_enter Tryd.func46, Tryd.ntmps46
    go_wp2
    go_ret2
    exact ⟨rfl, rfl⟩

def bits_Pad.f (l : List Int) (n : Int) : Option (List Int × Bool) := some (if 65536 < n ∨ n < l.length then ([], false) else (padL l n.toNat, true))
theorem bits_Pad.calls (A0 : Option Addr) (c0 : Nat) (l0 : List Int) (a1 : Int) (r1 : List Int) (r2 : Bool) (w : World) (hr0 : Kd.C (Kd.int .u8) w A0 l0.length l0) (hc0 : l0.length ≤ c0) (h : bits_Pad.f l0 a1 = some (r1, r2)) :
    Calls Tryd.prog 46 #[.slice A0 l0.length c0, .int .i64 a1] w fun e w' => ∃ v0_ : Value, e = .returned (.tuple #[v0_, .bool r2]) ∧ Kd.R (Kd.int .u8) 5 w' w.heap.size (fun _ => True) v0_ r1 ∧ Below w.heap.size w w' := by
  unfold bits_Pad.f at h
  have hn := (Kd.reads_of_C (d := (0 : Int)) hr0).2.1
  split at h
  · rename_i hh
    cases h
    refine (pad_neg A0 _ c0 a1 w hn hh).mono ?_
    rintro e w' ⟨rfl, rfl⟩
    exact ⟨_, rfl, Kd.R_nil _ _ _ _ _, Below.refl _ _⟩
  · rename_i hh
    cases h
    obtain ⟨n, rfl⟩ := Int.eq_ofNat_of_zero_le (show 0 ≤ a1 by omega)
    refine (pad_pos A0 c0 l0 n w hr0 (by omega) (by omega)).mono ?_
    rintro e w' ⟨v, rfl, ho, hb⟩
    refine ⟨v, rfl, Kd.R_of_own ?_ (fun _ _ => trivial), hb⟩
    rw [show ((n : Int)).toNat = n from Int.toNat_natCast n, padL_length _ _ (by omega)]
    exact ho

end Go.Proofs.YtkpipmhcjjncdaaDoor.Given
