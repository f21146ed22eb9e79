/- The contract of bytes.Join with no separator, of two parts or more: by hand. -/
import Derived.Test.YthmfhhkedmloeaaDoorProg
import Derived.Test.YthmfhhkedmloeaaDoorWWords
import Derived.Test.YthmfhhkedmloeaaDoorWLast
import Derived.Test.YthmfhhkedmloeaaDoorWMore
import Derived.WalkKit
import Derived.OwnWalk
import Derived.LoopTactic
import Derived.Outline
import Derived.KernelRfl
import Derived.Lib.Join
import Derived.Lib.SlBuf
import Derived.Lib.SlFresh
import Derived.Lib.MakeNoZero
import Derived.Laws.Externs
import Derived.Deep.LoopGhost
namespace Go.Proofs.YthmfhhkedmloeaaDoor.Given
open Go.RowKit Go.Proofs.YthmfhhkedmloeaaDoorW.PrintWords Go.Proofs.YthmfhhkedmloeaaDoorW.PrintLast
set_option linter.unusedVariables false
set_option linter.unusedSimpArgs false

theorem add_two (b o i : Nat) : (⟨b, o, none⟩ : Addr).add i = ⟨b, o + i, none⟩ := by unfold Addr.add; split <;> simp_all
/-- The parts as they lie: each part's cell, and its bytes. -/
def PartsIn (w : World) (b o : Nat) (LS : List (List UInt8)) : Prop :=
  ∀ (i : Nat) (l : List UInt8), LS[i]? = some l → ∃ p cap, w.cell? ⟨b, o + i, none⟩ = some (.slice p l.length cap) ∧ Lib.HoldsBytes w (.slice p l.length cap) l
theorem PartsIn.get {w : World} {b o : Nat} {LS : List (List UInt8)} (h : PartsIn w b o LS) (i : Nat) (hi : i < LS.length) :
    ∃ l p cap, LS[i]? = some l ∧ w.cell? ⟨b, o + i, none⟩ = some (.slice p l.length cap) ∧ Lib.HoldsBytes w (.slice p l.length cap) l := by
  obtain ⟨p, cap, h1, h2⟩ := h i LS[i] (List.getElem?_eq_getElem hi)
  exact ⟨_, p, cap, List.getElem?_eq_getElem hi, h1, h2⟩
theorem lens_all (LS : List (List UInt8)) : Lib.lens (LS.take LS.length) = Lib.lens LS := by rw [List.take_length]

def JoinPost (LS : List (List UInt8)) (w : World) (e : Ending) (w' : World) : Prop := ∃ T, e = .returned (.slice (some ⟨w.heap.size, 0, none⟩) T T) ∧ Lib.Buf w w' w.heap.size T LS.flatten ∧ LS.flatten.length = T

set_option maxHeartbeats 4000000 in
set_option maxRecDepth 1000000 in
theorem join_walk (b o n c : Nat) (LS : List (List UInt8)) (w : World) (hn : LS.length = n) (h2 : 2 ≤ n) (hnc : n ≤ c) (hP : PartsIn w b o LS) (hn47 : n ≤ 140737488355328) (hlen : Lib.lens LS ≤ 140737488355328) :
    Calls Tryd.prog 21 #[.slice (some ⟨b, o, none⟩) n c, .slice none 0 0] w (JoinPost LS w) := by
  have HP : Hid (PartsIn w b o LS) := hP
  clear hP
  have f0 : ((n : Int) == 0) = false := beq_eq_false_iff_ne.2 (by omega)
  have f1 : ((n : Int) == 1) = false := beq_eq_false_iff_ne.2 (by omega)
  have u8s : (Tryd.prog.info? 5).map (·.size) = some 1 := by kernel_rfl
  go_enter Tryd.func21, Tryd.ntmps21
  go_wp2
  go_loopg [5, 44] n (fun g s5 s44 wr => w = wr ∧ ∃ i : Nat, i ≤ n ∧ g = n - i ∧ s44 = .int .i64 i ∧ s5 = .int .i64 ((Lib.lens (LS.take i) : Nat) : Int))
  case atStart => exact ⟨rfl, 0, Nat.zero_le _, rfl, rfl, rfl⟩
  case round =>
    obtain ⟨rfl, i, hi, rfl, rfl, rfl⟩ := hrel
    by_cases hlt : i < n
    · obtain ⟨l, p, cap, hl, hcell, _⟩ := HP.out.get i (by omega)
      have hs1 := Lib.lens_take_succ LS i l hl
      have hs2 := Lib.lens_take_le LS (i + 1)
      generalize Lib.lens (LS.take i) = acc at hs1 ⊢
      have hb : ¬ (9223372036854775807 - (acc : Int) < (l.length : Int)) := by omega
      clear hl
      go_wp2
      go_roundg (n - (i + 1))
      case measure => omega
      case rel => exact ⟨rfl, i + 1, by omega, rfl, by go_num, by rw [hs1]; first | rfl | (congr 1; push_cast; omega)⟩
    · obtain rfl : n = i := by omega
      have hall : LS.take n = LS := by rw [← hn, List.take_length]
      rw [hall]
      obtain ⟨T, hT⟩ : ∃ T, Lib.lens LS = T := ⟨_, rfl⟩
      rw [hT] at hlen ⊢
      obtain ⟨cs, hrunM, hle, _⟩ := Lib.run_makeNoZero (P := Tryd.prog) w #[3] 25 5 Tryd.underlying25 T (by omega)
      have hcall : (callFunc 28 #[.int .i64 (T : Int)]).run Tryd.prog w = .ok (.value (.slice (some ⟨w.heap.size, 0, none⟩) T cs.size)) ((w.alloc (.cells cs 5)).drewN 2) := by
        rw [run_callFunc_extern Tryd.func28 (by kernel_rfl) (by kernel_rfl) (by kernel_rfl) (e := Extern.BytealgMakeNoZero.makeNoZero #[3] #[25]) (by kernel_rfl), hrunM]
        rfl
      clear hrunM hall
      have i0 : (0 : Int) ≤ (T : Int) := by omega
      have i1 : (T : Int) ≤ (cs.size : Int) := by omega
      have B0 := Lib.Buf.start w cs 5 T 2 hle
      obtain ⟨l0, p0, cap0, hl0, hcell0, hh0⟩ := HP.out.get 0 (by omega)
      have hc0 : ((w.alloc (.cells cs 5)).drewN 2).cell? ⟨b, o, none⟩ = some (.slice p0 l0.length cap0) := Lib.Below.cellOf B0.below (by simpa using hcell0) (Nat.le_refl _)
      have h1s := Lib.lens_take_succ LS 0 l0 hl0
      have h2s := Lib.lens_take_le LS (0 + 1)
      have h0s : Lib.lens (LS.take 0) = 0 := rfl
      obtain ⟨w1, hr1, B1⟩ := Lib.copy_part (P := Tryd.prog) w _ w.heap.size T [] l0 (.slice p0 l0.length cap0) 25 3 5 Tryd.underlying25 u8s (Nat.le_refl _) B0 hh0 (by simp; omega)
      rw [List.length_nil, Lib.tailV_zero] at hr1
      rw [List.nil_append] at B1
      have HL1 : Hid (l0.length = Lib.lens (LS.take 1)) := by show l0.length = Lib.lens (LS.take (0 + 1)); rw [h1s, h0s]; omega
      have HA1 : Hid (l0 = (LS.take 1).flatten) := by
        show _ = _
        rw [show (1 : Nat) = 0 + 1 from rfl, List.take_add_one, hl0]; simp
      have HT : Hid (Lib.lens LS = T) := hT
      clear h1s h2s h0s hT hl0 hcell0 hh0 f0 f1
      go_wp2_with (at_builtin; refine Lib.wpList_copy_run _ rfl _ _ 25 25 rfl _ _ rfl rfl hr1 ?_)
      have HB1 : Hid (Lib.Buf w w1 w.heap.size T l0) := B1
      clear B1 B0 hr1 hcall hc0
      go_loopg [9, 72] (n - 1) (fun g2 s9 s72 wr => ∃ (j : Nat) (acc : List UInt8), j ≤ n - 1 ∧ n - 1 - j ≤ g2 ∧ s72 = .int .i64 j ∧ s9 = .int .i64 acc.length ∧ Hid (Lib.Buf w wr w.heap.size T acc) ∧ Hid (acc = (LS.take (j + 1)).flatten) ∧ Hid (acc.length = Lib.lens (LS.take (j + 1))))
      case atStart => exact ⟨0, l0, Nat.zero_le _, by omega, rfl, rfl, HB1, HA1, HL1⟩
      case round =>
        obtain ⟨j, acc, hj, hg2, rfl, rfl, HB, HA, HR⟩ := hrel
        clear HB1 HA1 HL1
        by_cases hjn : j < n - 1
        · have hjz : (j : Int) < ((n - 1 : Nat) : Int) := by omega
          obtain ⟨l, p, cap, hl, hcell, hh⟩ := HP.out.get (1 + j) (by omega)
          have hl' : LS[j + 1]? = some l := by rw [Nat.add_comm]; exact hl
          have hs1 := Lib.lens_take_succ LS (j + 1) l hl'
          have hs2 := Lib.lens_take_le LS (j + 1 + 1)
          have hRj := HR.out
          have hTT := HT.out
          have hcw : wr.cell? ⟨b, o + 1 + j, none⟩ = some (.slice p l.length cap) := by
            have := Lib.Below.cellOf HB.out.below hcell (Nat.le_refl _)
            rwa [show o + (1 + j) = o + 1 + j by omega] at this
          have hsl1 : ∀ W, (Instr.slice 25 (.slice (some ⟨w.heap.size, 0, none⟩) T T) (some (.int .i64 (acc.length : Int))) none none).run Tryd.prog W = .ok (Lib.tailV w.heap.size T acc.length) W := fun W => Lib.run_slice_tailV W 25 5 Tryd.underlying25 Tryd.sizeOf5 _ T acc.length (by omega)
          obtain ⟨w2, hr2, B2⟩ := Lib.copy_part (P := Tryd.prog) w wr w.heap.size T acc [] (.slice none 0 0) 25 3 5 Tryd.underlying25 u8s (Nat.le_refl _) HB.out ⟨none, 0, rfl, fun _ => rfl, fun a h => by cases h⟩ (by simp; omega)
          obtain ⟨w3, hr3, B3⟩ := Lib.copy_part (P := Tryd.prog) w w2 w.heap.size T (acc ++ []) l (.slice p l.length cap) 25 3 5 Tryd.underlying25 u8s (Nat.le_refl _) B2 hh (by simp; omega)
          simp only [List.append_nil] at hr3 B3
          have HB3 : Hid (Lib.Buf w w3 w.heap.size T (acc ++ l)) := B3
          have HS : Hid (Lib.lens (LS.take (j + 1 + 1)) = Lib.lens (LS.take (j + 1)) + l.length) := hs1
          have HLJ : Hid (LS[j + 1]? = some l) := hl'
          have hb1 : acc.length + l.length ≤ T := by omega
          clear B2 B3 hcell hh hs1 hs2 hRj hTT hl hl'
          go_wp2_with (at_builtin; first | refine Lib.wpList_copy_run _ rfl _ _ 25 25 rfl _ _ rfl rfl hr2 ?_ | refine Lib.wpList_copy_run _ rfl _ _ 25 25 rfl _ _ rfl rfl hr3 ?_)
          go_roundg (n - 1 - (j + 1))
          case measure => omega
          case rel =>
            have hlen3 : (acc ++ l).length = acc.length + l.length := by rw [List.length_append]
            refine ⟨j + 1, acc ++ l, by omega, Nat.le_refl _, by go_num, by rw [hlen3]; first | rfl | (congr 1; done) | (push_cast; rfl) | (congr 1; push_cast; omega), HB3, (show Hid _ from ?_), (show Hid _ from ?_)⟩
            · show acc ++ l = _
              rw [List.take_add_one, HLJ.out, HA.out]; simp
            · show (acc ++ l).length = _
              rw [hlen3, HS.out, HR.out]
        · obtain rfl : j = n - 1 := by omega
          have hjz : ¬ (((n - 1 : Nat) : Int) < ((n - 1 : Nat) : Int)) := by omega
          go_wp2
          go_ret
          have e1 : LS.take (n - 1 + 1) = LS := List.take_of_length_le (by omega)
          have e2 : acc = LS.flatten := by rw [HA.out, e1]
          have e3 : acc.length = T := by rw [HR.out, e1, HT.out]
          exact ⟨T, rfl, by rw [← e2]; exact HB.out, by rw [← e2]; exact e3⟩

end Go.Proofs.YthmfhhkedmloeaaDoor.Given
