/- The reference's map: New; by hand. -/
import Derived.Test.YtlkhlmckgpjopaaDoorGivTurn
import Derived.Laws.Tables
namespace Go.Proofs.YtlkhlmckgpjopaaDoor.Given
open Go.RowKit Go.Maps Go.Sort Go.Shelf Go.Proofs.YtlkhlmckgpjopaaDoorW.PrintWords Go.Proofs.YtlkhlmckgpjopaaDoorW.PrintLast Go.Proofs.YtlkhlmckgpjopaaDoorW.PrintMore Go.Proofs.YtlkhlmckgpjopaaDoor.Base
set_option linter.unusedVariables false
set_option linter.unusedSimpArgs false
/-- A list of noughts, then of empty slices. -/
def isI : Value → Bool
  | .int .i64 z => decide (z = 0)
  | _ => false
def isS : Value → Bool
  | .slice none 0 0 => true
  | _ => false
theorem isI_of {v : Value} (h : isI v = true) : v = .int .i64 0 := by
  unfold isI at h
  split at h
  · rw [of_decide_eq_true h]
  · cases h
theorem isS_of {v : Value} (h : isS v = true) : v = .slice none 0 0 := by
  unfold isS at h
  split at h
  · rfl
  · cases h
def goesI : Nat → List Value → Bool
  | 0, l => l.all isS
  | n + 1, v :: l => isI v && goesI n l
  | _ + 1, [] => false
theorem goesI_at : ∀ (n : Nat) (l : List Value), goesI n l = true → (∀ k, k < n → l[k]? = some (.int .i64 0)) ∧ ∀ k, n + k < l.length → l[n + k]? = some (.slice none 0 0)
  | 0, l, h => ⟨fun k hk => absurd hk (by omega), fun k hk => by
      rw [Nat.zero_add] at hk ⊢
      rw [List.getElem?_eq_getElem hk, isS_of (List.all_eq_true.1 h _ (List.getElem_mem hk))]⟩
  | n + 1, [], h => by cases h
  | n + 1, v :: l, h => by
    have h : (isI v && goesI n l) = true := h
    rw [Bool.and_eq_true] at h
    have ih := goesI_at n l h.2
    refine ⟨fun k hk => ?_, fun k hk => ?_⟩
    · cases k with
      | zero => rw [isI_of h.1]; rfl
      | succ k => rw [List.getElem?_cons_succ]; exact ih.1 k (by omega)
    · rw [show n + 1 + k = (n + k) + 1 by omega, List.getElem?_cons_succ]
      exact ih.2 k (by simp at hk; omega)
set_option maxRecDepth 1000000 in
theorem zc_goes : goesI 828 Tryd.zeroCells72.toList = true := by kernel_rfl
set_option maxRecDepth 1000000 in
theorem zc_len : Tryd.zeroCells72.toList.length = 1656 := by kernel_rfl
set_option maxRecDepth 1000000 in
theorem zc_one : Tryd.zeroCells72.all (·.oneCell') = true := by
  have h := goesI_at _ _ zc_goes
  have hl := zc_len
  rw [Array.all_eq_true]
  intro i hi
  have hi' : i < Tryd.zeroCells72.toList.length := by simpa using hi
  have e : Tryd.zeroCells72[i] = Tryd.zeroCells72.toList[i]'hi' := by rw [Array.getElem_toList]
  rw [e]
  by_cases h0 : i < 828
  · have := h.1 i h0
    rw [List.getElem?_eq_getElem hi'] at this
    rw [Option.some.inj this]
    rfl
  · have := h.2 (i - 828) (by omega)
    rw [show 828 + (i - 828) = i by omega, List.getElem?_eq_getElem hi'] at this
    rw [Option.some.inj this]
    rfl
theorem run_build72 (w : World) : (Instr.build 72 #[]).run Tryd.prog w = .ok (.agg Tryd.zeroCells72) w := by
  simp [Instr.build, Tryd.zeroValue72, run_underlying Tryd.underlying72, Tryd.sizeOf69, Tryd.sizeOf70, Instr.fill, Value.cells]
theorem run_box72 (w : World) (Z : Array Value) : (Instr.box 72 (.agg Z)).run Tryd.prog w = .ok (.pointer (some ⟨w.heap.size, 0, none⟩)) (w.alloc (.cells Z 72 (0, 0))) := by
  simp [Instr.box, newVar, Value.cells, go_sem]
theorem rw_new (w : World) : RW (w.alloc (.cells Tryd.zeroCells72 72 (0, 0))) w.heap.size Tryd.zeroCells72 (adr []) (fun _ => none) where
  hp := heap_alloc_new w _
  sz := by rw [← Array.length_toList]; exact zc_len
  at_ := fun k hk => by
    rw [← Array.getElem?_toList, (goesI_at _ _ zc_goes).1 k hk, adr_nil]
    rfl
  new := fun k hk => ⟨_, by rw [← Array.getElem?_toList]; exact (goesI_at _ _ zc_goes).2 k (by rw [zc_len]; omega), rfl⟩
theorem setF_none {β : Type} {a : Int → Option β} {k : Int} (h : a k = none) : setF a k none = a := by
  funext j
  unfold setF
  by_cases e : j = k
  · rw [if_pos e, e, h]
  · rw [if_neg e]
theorem adr_out (l : List Int) {k : Int} (h : (l.length : Int) ≤ k) : adr l k = none := by
  unfold adr
  rw [if_neg]
  rintro ⟨h0, h1⟩
  rw [List.getD_eq_getElem?_getD, List.getElem?_eq_none (by omega)] at h1
  exact h1 rfl
/-- One address more. -/
theorem rw_step {w : World} {pr : Nat} {cs : Array Value} {l : List Int} {j : Nat} {f : Int → Option (List Int)} {y : Int} (h : RW w pr cs (adr (l.take j)) f) (hj : j < l.length) (hl : l.length ≤ 828) (hy : l.getD j 0 = y) : RM (w.setCell ⟨pr, j, none⟩ (.int .i64 y)) pr (adr (l.take (j + 1))) f := by
  have hyl : l[j]'hj = y := by rw [← hy, List.getD_eq_getElem?_getD, List.getElem?_eq_getElem hj]; rfl
  rw [List.take_succ_eq_append_getElem hj, hyl, adr_snoc, List.length_take, Nat.min_eq_left (by omega)]
  by_cases h0 : y = 0
  · subst h0
    rw [if_pos rfl]
    have h2 := h.setA (k := j) (by omega) none
    rw [setF_none (adr_out _ (by rw [List.length_take]; omega))] at h2
    exact ⟨_, h2⟩
  · rw [if_neg h0]
    exact ⟨_, h.setA (k := j) (by omega) (some y)⟩
set_option maxHeartbeats 2000000 in
set_option maxRecDepth 100000 in
theorem rnew_many (A : Option Addr) (n c : Nat) (w : World) (h : 828 < n) (hn : n ≤ 17592186044416) :
    Calls Tryd.prog 22 #[.slice A n c] w fun e w' => e = .returned (.tuple #[.pointer none, .int .i64 28]) ∧ Below w.heap.size w w' := by
  have h1 : decide ((828 : Int) < (n : Int)) = true := decide_eq_true (by omega)
  go_enter Tryd.func22, Tryd.ntmps22
  go_wp2
  go_ret2
  exact ⟨rfl, Below.refl _ w⟩
set_option maxHeartbeats 4000000 in
set_option maxRecDepth 100000 in
theorem rnew_ok (A : Option Addr) (c : Nat) (l : List Int) (w : World) (hok : ∀ x ∈ l, okA x) (hC : Kd.C (Kd.int .i64) w A l.length l) (hl : l.length ≤ 828) :
    Calls Tryd.prog 22 #[.slice A l.length c] w fun e w' => e = .returned (.tuple #[.pointer (some ⟨w.heap.size, 0, none⟩), .int .i64 0]) ∧ RM w' w.heap.size (adr l) (fun _ => none) ∧ Below w.heap.size w w' := by
  have h1 : decide ((828 : Int) < (l.length : Int)) = false := decide_eq_false (by omega)
  have h2 : (l.length : Int) ≤ 828 := by omega
  have HC := Lib.hid hC
  have HOK := Lib.hid hok
  have HN := Lib.hid (rw_new w)
  have HB0 : Hid (Below w.heap.size w (w.alloc (.cells Tryd.zeroCells72 72 (0, 0)))) := (Below.refl _ w).alloc (Nat.le_refl _) _
  clear hC hok
  go_enter Tryd.func22, Tryd.ntmps22
  go_wp2
  go_loopw [5] (fun i wr => ∃ j : Nat, j ≤ l.length ∧ i = .int .i64 j ∧ Hid (RM wr w.heap.size (adr (l.take j)) (fun _ => none)) ∧ Hid (Below w.heap.size w wr)) (fun i _ => l.length - (intOf i).toNat)
  case atStart => exact ⟨0, Nat.zero_le _, rfl, Lib.hid ⟨_, HN.out⟩, HB0⟩
  case round =>
    clear HN HB0
    obtain ⟨j, hj, rfl, HW, HB⟩ := hrel
    by_cases hlt : j < l.length
    · obtain ⟨b, off, rfl, hcl⟩ := addr_of_C HC.out (by omega)
      have hcell0 := hcl j hlt
      obtain ⟨y, hy⟩ : ∃ y, l.getD j 0 = y := ⟨_, rfl⟩
      rw [hy] at hcell0
      have hyl : l[j]'hlt = y := by rw [← hy, List.getD_eq_getElem?_getD, List.getElem?_eq_getElem hlt]; rfl
      have hyo : okA y := HOK.out y (hyl ▸ List.getElem_mem _)
      have hcell := pw_cell_below HB.out hcell0
      obtain ⟨cs, hR⟩ := HW.out
      have c1 : wr.cell? ⟨w.heap.size, j, none⟩ = some (.int .i64 ((adr (l.take j) (j : Int)).getD 0)) := (blk_cell hR.hp j).trans (hR.at_ j (by omega))
      have z1 := blk_thaw hR.hp j
      have HM : Hid (RM (wr.setCell ⟨w.heap.size, j, none⟩ (.int .i64 y)) w.heap.size (adr (l.take (j + 1))) (fun _ => none)) := rw_step hR hlt hl hy
      have HBS : Hid (Below w.heap.size w (wr.setCell ⟨w.heap.size, j, none⟩ (.int .i64 y))) := HB.out.grown (grown_set _ _ _ _) HB.out.size (fun q e => by cases e; exact Nat.le_refl _)
      have d1 : decide (y < 0) = false := decide_eq_false (by unfold okA at hyo; omega)
      have d2 : decide (65535 < y) = false := decide_eq_false (by unfold okA at hyo; omega)
      have hj2 : (j : Int) < 828 := by omega
      have hj3 : (j : Int) < (l.length : Int) := by omega
      have HM2 : Hid (RM (wr.setCell ⟨w.heap.size, j, none⟩ (.int .i64 y)).drew w.heap.size (adr (l.take (j + 1))) (fun _ => none)) := HM.out.below (below_drew (Below.refl _ _))
      have HBS2 : Hid (Below w.heap.size w (wr.setCell ⟨w.heap.size, j, none⟩ (.int .i64 y)).drew) := below_drew HBS.out
      clear hcl hy hyl hcell0 hR HW hyo
      go_wp2_with fail
      go_region
      go_wp2
      go_roundw
      case rel => exact ⟨j + 1, by omega, by go_num, HM2, HBS2⟩
      case measure => simp [intOf]; omega
    · obtain rfl : j = l.length := by omega
      rw [List.take_length] at HW
      go_wp2
      go_ret2
      exact ⟨rfl, HW.out, HB.out⟩
set_option maxHeartbeats 4000000 in
set_option maxRecDepth 100000 in
theorem rnew_bad (A : Option Addr) (c : Nat) (l : List Int) (w : World) (j0 : Nat) (hj0 : j0 < l.length) (hbad : ¬ okA (l.getD j0 0)) (hok : ∀ x ∈ l.take j0, okA x) (hC : Kd.C (Kd.int .i64) w A l.length l) (hl : l.length ≤ 828) :
    Calls Tryd.prog 22 #[.slice A l.length c] w fun e w' => e = .returned (.tuple #[.pointer none, .int .i64 28]) ∧ Below w.heap.size w w' := by
  have h1 : decide ((828 : Int) < (l.length : Int)) = false := decide_eq_false (by omega)
  have h2 : (l.length : Int) ≤ 828 := by omega
  have HC := Lib.hid hC
  have HOK := Lib.hid hok
  have HN := Lib.hid (rw_new w)
  have HB0 : Hid (Below w.heap.size w (w.alloc (.cells Tryd.zeroCells72 72 (0, 0)))) := (Below.refl _ w).alloc (Nat.le_refl _) _
  clear hC hok
  go_enter Tryd.func22, Tryd.ntmps22
  go_wp2
  go_loopw [5] (fun i wr => ∃ j : Nat, j ≤ j0 ∧ i = .int .i64 j ∧ Hid (RM wr w.heap.size (adr (l.take j)) (fun _ => none)) ∧ Hid (Below w.heap.size w wr)) (fun i _ => l.length - (intOf i).toNat)
  case atStart => exact ⟨0, Nat.zero_le _, rfl, Lib.hid ⟨_, HN.out⟩, HB0⟩
  case round =>
    clear HN HB0
    obtain ⟨j, hj, rfl, HW, HB⟩ := hrel
    have hlt : j < l.length := by omega
    by_cases hj0l : j < j0
    · obtain ⟨b, off, rfl, hcl⟩ := addr_of_C HC.out (by omega)
      have hcell0 := hcl j hlt
      obtain ⟨y, hy⟩ : ∃ y, l.getD j 0 = y := ⟨_, rfl⟩
      rw [hy] at hcell0
      have hyl : l[j]'hlt = y := by rw [← hy, List.getD_eq_getElem?_getD, List.getElem?_eq_getElem hlt]; rfl
      have hyo : okA y := HOK.out y (List.mem_take_iff_getElem.2 ⟨j, by omega, hyl⟩)
      have hcell := pw_cell_below HB.out hcell0
      obtain ⟨cs, hR⟩ := HW.out
      have c1 : wr.cell? ⟨w.heap.size, j, none⟩ = some (.int .i64 ((adr (l.take j) (j : Int)).getD 0)) := (blk_cell hR.hp j).trans (hR.at_ j (by omega))
      have z1 := blk_thaw hR.hp j
      have HM : Hid (RM (wr.setCell ⟨w.heap.size, j, none⟩ (.int .i64 y)) w.heap.size (adr (l.take (j + 1))) (fun _ => none)) := rw_step hR hlt hl hy
      have HBS : Hid (Below w.heap.size w (wr.setCell ⟨w.heap.size, j, none⟩ (.int .i64 y))) := HB.out.grown (grown_set _ _ _ _) HB.out.size (fun q e => by cases e; exact Nat.le_refl _)
      have d1 : decide (y < 0) = false := decide_eq_false (by unfold okA at hyo; omega)
      have d2 : decide (65535 < y) = false := decide_eq_false (by unfold okA at hyo; omega)
      have hj2 : (j : Int) < 828 := by omega
      have hj3 : (j : Int) < (l.length : Int) := by omega
      have HM2 : Hid (RM (wr.setCell ⟨w.heap.size, j, none⟩ (.int .i64 y)).drew w.heap.size (adr (l.take (j + 1))) (fun _ => none)) := HM.out.below (below_drew (Below.refl _ _))
      have HBS2 : Hid (Below w.heap.size w (wr.setCell ⟨w.heap.size, j, none⟩ (.int .i64 y)).drew) := below_drew HBS.out
      clear hcl hy hyl hcell0 hR HW hyo
      go_wp2_with fail
      go_region
      go_wp2
      go_roundw
      case rel => exact ⟨j + 1, by omega, by go_num, HM2, HBS2⟩
      case measure => simp [intOf]; omega
    · obtain rfl : j = j0 := by omega
      obtain ⟨b, off, rfl, hcl⟩ := addr_of_C HC.out (by omega)
      have hcell0 := hcl j hlt
      obtain ⟨y, hy⟩ : ∃ y, l.getD j 0 = y := ⟨_, rfl⟩
      rw [hy] at hcell0 hbad
      have hcell := pw_cell_below HB.out hcell0
      have hb2 : y < 0 ∨ (¬ y < 0 ∧ 65535 < y) := by unfold okA at hbad; omega
      have hj3 : (j : Int) < (l.length : Int) := by omega
      clear hcl hy hcell0 hbad
      rcases hb2 with h0 | ⟨h0, h1⟩
      · have d1 : decide (y < 0) = true := decide_eq_true h0
        clear h0
        go_wp2
        go_ret2
        exact ⟨rfl, HB.out⟩
      · have d1 : decide (y < 0) = false := decide_eq_false h0
        have d2 : decide (65535 < y) = true := decide_eq_true h1
        clear h0 h1
        go_wp2
        go_ret2
        exact ⟨rfl, HB.out⟩
end Go.Proofs.YtlkhlmckgpjopaaDoor.Given
