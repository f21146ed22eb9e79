/- block.New: by hand. -/
import Derived.Test.YtlkhlmckgpjopaaDoorGivBlk4
namespace Go.Proofs.YtlkhlmckgpjopaaDoor.Given
open Go.RowKit Go.Maps Go.Proofs.YtlkhlmckgpjopaaDoorW.PrintWords Go.Proofs.YtlkhlmckgpjopaaDoorW.PrintLast Go.Proofs.YtlkhlmckgpjopaaDoorW.PrintMore Go.Proofs.YtlkhlmckgpjopaaDoor.Base
set_option linter.unusedVariables false
set_option linter.unusedSimpArgs false
theorem addr_add (b off j : Nat) : (⟨b, off, none⟩ : Addr).add j = ⟨b, off + j, none⟩ := by unfold Addr.add; split <;> simp_all
theorem addr_of_C {k : IntKind} {w : World} {A : Option Addr} {n : Nat} {xs : List Int} (h : Kd.C (Kd.int k) w A n xs) (h0 : 0 < n) : ∃ b off, A = some ⟨b, off, none⟩ ∧ ∀ j, j < n → w.cell? ⟨b, off + j, none⟩ = some (.int k (xs.getD j 0)) := by
  obtain ⟨ad, e, hc⟩ := (Kd.reads_of_C (d := (0 : Int)) h).2.2 h0
  have h1 := hc 0 h0
  have hs : ad.spot = none := by
    have a0 : ad.add 0 = ad := by simp [Addr.add]
    rw [a0] at h1
    cases hsp : ad.spot with
    | none => rfl
    | some s =>
      exfalso
      unfold World.cell? at h1
      split at h1
      · rw [hsp] at h1; simp at h1
      · cases h1
  obtain ⟨b, off, sp⟩ := ad
  simp only at hs
  subst hs
  exact ⟨b, off, e, fun j hj => by rw [← addr_add]; exact hc j hj⟩
/-- The addresses of a list. -/
def adr (l : List Int) : Int → Option Int := fun k => if 0 ≤ k ∧ l.getD k.toNat 0 ≠ 0 then some (l.getD k.toNat 0) else none
def okA (x : Int) : Prop := 0 ≤ x ∧ x ≤ 65535
theorem adr_nil : adr [] = fun _ => none := by
  funext k
  unfold adr
  rw [if_neg]
  simp
theorem adr_snoc (P : List Int) (y : Int) : adr (P ++ [y]) = if y = 0 then adr P else setF (adr P) (P.length : Int) (some y) := by
  funext k
  have h1 : ∀ i, i ≠ P.length → (P ++ [y]).getD i 0 = P.getD i 0 := by
    intro i hi
    rcases Nat.lt_or_ge i P.length with h | h
    · simp [List.getD_eq_getElem?_getD, List.getElem?_append_left h]
    · rw [List.getD_eq_getElem?_getD, List.getD_eq_getElem?_getD, List.getElem?_eq_none (by simp; omega), List.getElem?_eq_none h]
  have h2 : (P ++ [y]).getD P.length 0 = y := by simp [List.getD_eq_getElem?_getD]
  have h3 : P.getD P.length 0 = 0 := by rw [List.getD_eq_getElem?_getD, List.getElem?_eq_none (Nat.le_refl _)]; rfl
  by_cases hk : 0 ≤ k ∧ k.toNat = P.length
  · have hkk : k = (P.length : Int) := by omega
    unfold adr
    rw [hk.2, h2]
    by_cases hy : y = 0
    · rw [if_pos hy, if_neg (by simp [hy]), hk.2, h3, if_neg (by simp)]
    · rw [if_neg hy, if_pos ⟨hk.1, hy⟩, hkk]
      unfold setF
      rw [if_pos rfl]
  · have e : (if y = 0 then adr P else setF (adr P) (P.length : Int) (some y)) k = adr P k := by
      split
      · rfl
      · unfold setF; rw [if_neg (by omega)]
    rw [e]
    unfold adr
    by_cases h0 : 0 ≤ k
    · rw [h1 k.toNat (fun e => hk ⟨h0, e⟩)]
    · rw [if_neg (fun h => h0 h.1), if_neg (fun h => h0 h.1)]
set_option maxHeartbeats 2000000 in
set_option maxRecDepth 100000 in
theorem new_many (A : Option Addr) (n c : Nat) (w : World) (h : 828 < n) (hn : n ≤ 17592186044416) :
    Calls Tryd.prog 9 #[.slice A n c] w fun e w' => e = .returned (.tuple #[.pointer none, .int .i64 28]) ∧ Below w.heap.size w w' := by
  have h1 : decide ((828 : Int) < (n : Int)) = true := decide_eq_true (by omega)
  have hmm := @run_makeMap Tryd.prog
  go_enter Tryd.func9, Tryd.ntmps9
  go_wp2
  go_ret2
  exact ⟨rfl, (((Below.refl _ w).alloc (Nat.le_refl _) _).alloc (by simp) _).alloc (by simp; omega) _⟩
theorem bw_new (w : World) : BW (((w.alloc (.map #[] 0)).alloc (.map #[] 0)).alloc (.cells #[.map (some w.heap.size), .map (some (w.heap.size + 1))] 61)) w.heap.size (w.heap.size + 2) 0 w.heap.size (w.heap.size + 1) (.map []) (.map []) (adr []) (fun _ => none) (fun _ => none) where
  hp := by
    have := heap_alloc_new ((w.alloc (.map #[] 0)).alloc (.map #[] 0)) (.cells #[.map (some w.heap.size), .map (some (w.heap.size + 1))] 61)
    simpa using this
  bp := by omega
  ba := Nat.le_refl _
  bf := by omega
  ne := by omega
  oA := ((World.ownsMap_made w Tryd.prog 3 tokR).alloc _).alloc _
  hA := by rw [adr_nil]; exact Holds.empty
  oF := by
    have := (World.ownsMap_made (w.alloc (.map #[] 0)) Tryd.prog 3 tokR).alloc (.cells #[.map (some w.heap.size), .map (some (w.heap.size + 1))] 61)
    simpa using this
  hF := Holds.empty
  el := fun k => ⟨fun _ => rfl, fun r h => by cases h⟩
set_option maxHeartbeats 4000000 in
set_option maxRecDepth 100000 in
theorem new_ok (A : Option Addr) (c : Nat) (l : List Int) (w : World) (hC : Kd.C (Kd.int .i64) w A l.length l) (hl : l.length ≤ 828) (hok : ∀ x ∈ l, okA x) :
    Calls Tryd.prog 9 #[.slice A l.length c] w fun e w' => e = .returned (.tuple #[.pointer (some ⟨w.heap.size + 2, 0, none⟩), .int .i64 0]) ∧ BM w' w.heap.size (w.heap.size + 2) 828 (adr l) (fun _ => none) ∧ Below w.heap.size w w' := by
  have h1 : decide ((828 : Int) < (l.length : Int)) = false := decide_eq_false (by omega)
  have h2 : (l.length : Int) ≤ 828 := by omega
  have hmm := @run_makeMap Tryd.prog
  have hu := Tryd.underlying61
  have HC := Lib.hid hC
  have HOK := Lib.hid hok
  clear hC hok
  go_enter Tryd.func9, Tryd.ntmps9
  go_wp2
  have HW := Lib.hid (bw_new w)
  have HB0 : Hid (Below w.heap.size w (((w.alloc (.map #[] 0)).alloc (.map #[] 0)).alloc (.cells #[.map (some w.heap.size), .map (some (w.heap.size + 1))] 61))) := (((Below.refl _ w).alloc (Nat.le_refl _) _).alloc (by simp) _).alloc (by simp; omega) _
  go_loopw [16] (fun i wr => ∃ j : Nat, j ≤ l.length ∧ i = .int .i64 j ∧ Hid (∃ DA, BW wr w.heap.size (w.heap.size + 2) j w.heap.size (w.heap.size + 1) DA (.map []) (adr (l.take j)) (fun _ => none) (fun _ => none)) ∧ Hid (Below w.heap.size w wr)) (fun i _ => l.length - (intOf i).toNat)
  case atStart => exact ⟨0, Nat.zero_le _, rfl, Lib.hid ⟨_, HW.out⟩, HB0⟩
  case round =>
    clear HW HB0
    obtain ⟨j, hj, rfl, HW, HB⟩ := hrel
    by_cases hlt : j < l.length
    · obtain ⟨b, off, rfl, hcl⟩ := addr_of_C HC.out (by omega)
      have hcell0 := hcl j hlt
      obtain ⟨y, hy⟩ : ∃ y, l.getD j 0 = y := ⟨_, rfl⟩
      rw [hy] at hcell0
      have hyl : l[j]'hlt = y := by rw [← hy, List.getD_eq_getElem?_getD, List.getElem?_eq_getElem hlt]; rfl
      have hyo : okA y := HOK.out y (hyl ▸ List.getElem_mem _)
      have hcell := pw_cell_below HB.out hcell0
      have HTK : Hid (adr (l.take (j + 1)) = if y = 0 then adr (l.take j) else setF (adr (l.take j)) (j : Int) (some y)) := by
        show _ = _
        rw [List.take_succ_eq_append_getElem hlt, hyl, adr_snoc, List.length_take, Nat.min_eq_left (by omega)]
      obtain ⟨DA, hW⟩ := HW.out
      have c0 : wr.cell? ⟨w.heap.size + 2, 0, none⟩ = some (.map (some w.heap.size)) := (blk_cell hW.hp 0).trans rfl
      have HW2 := Lib.hid hW
      have hj2 : (j : Int) ≤ 828 := by omega
      clear hcl hy hyl hcell0 hW HW
      obtain ⟨hy0, hy1⟩ := hyo
      by_cases hz : y = 0
      · subst hz
        go_wp2_with (go_at_call 26; refine (addr_no 0 _ (.inl (by decide))).mono ?_; rintro e w1 ⟨rfl, rfl⟩)
        go_roundw
        case rel => exact ⟨j + 1, by omega, by go_num, by rw [HTK.out, if_pos (by trivial)]; exact Lib.hid ⟨DA, by have h := HW2.out; exact { h with oA := h.oA.mono (Nat.le_succ _), oF := h.oF.mono (Nat.le_succ _) }⟩, HB⟩
        case measure => simp [intOf]; omega
      · have HZ := Lib.hid hz
        have hy2 : 1 ≤ y := by omega
        clear hz
        go_wp2_with (first | (go_at_call 26; refine (addr_yes y _ hy2 hy1).mono ?_; rintro e w1 ⟨rfl, rfl⟩) | (at_mapUpdate; refine wp_upd _ rfl _ _ _ 57 rfl 3 3 law3 Tryd.underlying57 w.heap.size j DA _ rfl HW2.out.oA HW2.out.hA (by unfold maxLen; omega) (j : Int) (.int .i64 y) rfl rfl (keyOf_int_mk Tryd.underlying3 (wf_i (by omega) (by omega))) ?_; intro w3 D3 ho3 hh3 hg3; have HB3 := Lib.hid (HW2.out.turnA (Nat.le_succ _) hg3 ho3 (hA_set (a := adr (l.take j)) (k := (j : Int)) (v := some y) hh3 (fun j => rfl))); have HE3 : Hid (Below w.heap.size w w3) := HB.out.grown hg3 HB.out.size (fun q e => by cases e; exact Nat.le_refl _); clear ho3 hh3 hg3))
        go_roundw
        case rel => exact ⟨j + 1, by omega, by go_num, by rw [HTK.out, if_neg HZ.out]; exact Lib.hid ⟨_, HB3.out⟩, HE3⟩
        case measure => simp [intOf]; omega
    · obtain rfl : j = l.length := by omega
      rw [List.take_length] at HW
      go_wp2
      go_ret2
      obtain ⟨DA, hW⟩ := HW.out
      refine ⟨rfl, ⟨_, _, _, _, _, { hW with oA := hW.oA.mono hl, oF := hW.oF.mono hl }⟩, HB.out⟩
set_option maxHeartbeats 4000000 in
set_option maxRecDepth 100000 in
theorem new_bad (A : Option Addr) (c : Nat) (l : List Int) (w : World) (j0 : Nat) (hj0 : j0 < l.length) (hbad : ¬ okA (l.getD j0 0)) (hC : Kd.C (Kd.int .i64) w A l.length l) (hl : l.length ≤ 828) (hok : ∀ x ∈ l.take j0, okA x) :
    Calls Tryd.prog 9 #[.slice A l.length c] w fun e w' => e = .returned (.tuple #[.pointer none, .int .i64 28]) ∧ Below w.heap.size w w' := by
  have h1 : decide ((828 : Int) < (l.length : Int)) = false := decide_eq_false (by omega)
  have h2 : (l.length : Int) ≤ 828 := by omega
  have hmm := @run_makeMap Tryd.prog
  have hu := Tryd.underlying61
  have HC := Lib.hid hC
  have HOK := Lib.hid hok
  clear hC hok
  go_enter Tryd.func9, Tryd.ntmps9
  go_wp2
  have HW := Lib.hid (bw_new w)
  have HB0 : Hid (Below w.heap.size w (((w.alloc (.map #[] 0)).alloc (.map #[] 0)).alloc (.cells #[.map (some w.heap.size), .map (some (w.heap.size + 1))] 61))) := (((Below.refl _ w).alloc (Nat.le_refl _) _).alloc (by simp) _).alloc (by simp; omega) _
  go_loopw [16] (fun i wr => ∃ j : Nat, j ≤ j0 ∧ i = .int .i64 j ∧ Hid (∃ DA, BW wr w.heap.size (w.heap.size + 2) j w.heap.size (w.heap.size + 1) DA (.map []) (adr (l.take j)) (fun _ => none) (fun _ => none)) ∧ Hid (Below w.heap.size w wr)) (fun i _ => l.length - (intOf i).toNat)
  case atStart => exact ⟨0, Nat.zero_le _, rfl, Lib.hid ⟨_, HW.out⟩, HB0⟩
  case round =>
    clear HW HB0
    obtain ⟨j, hj, rfl, HW, HB⟩ := hrel
    have hlt : j < l.length := by omega
    by_cases hj0l : j < j0
    · obtain ⟨b, off, rfl, hcl⟩ := addr_of_C HC.out (by omega)
      have hcell0 := hcl j hlt
      obtain ⟨y, hy⟩ : ∃ y, l.getD j 0 = y := ⟨_, rfl⟩
      rw [hy] at hcell0
      have hyl : l[j]'hlt = y := by rw [← hy, List.getD_eq_getElem?_getD, List.getElem?_eq_getElem hlt]; rfl
      have hyo : okA y := HOK.out y (List.mem_take_iff_getElem.2 ⟨j, by omega, hyl⟩)
      have hcell := pw_cell_below HB.out hcell0
      have HTK : Hid (adr (l.take (j + 1)) = if y = 0 then adr (l.take j) else setF (adr (l.take j)) (j : Int) (some y)) := by
        show _ = _
        rw [List.take_succ_eq_append_getElem hlt, hyl, adr_snoc, List.length_take, Nat.min_eq_left (by omega)]
      obtain ⟨DA, hW⟩ := HW.out
      have c0 : wr.cell? ⟨w.heap.size + 2, 0, none⟩ = some (.map (some w.heap.size)) := (blk_cell hW.hp 0).trans rfl
      have HW2 := Lib.hid hW
      have hj2 : (j : Int) ≤ 828 := by omega
      clear hcl hy hyl hcell0 hW HW
      obtain ⟨hy0, hy1⟩ := hyo
      by_cases hz : y = 0
      · subst hz
        go_wp2_with (go_at_call 26; refine (addr_no 0 _ (.inl (by decide))).mono ?_; rintro e w1 ⟨rfl, rfl⟩)
        go_roundw
        case rel => exact ⟨j + 1, by omega, by go_num, by rw [HTK.out, if_pos (by trivial)]; exact Lib.hid ⟨DA, by have h := HW2.out; exact { h with oA := h.oA.mono (Nat.le_succ _), oF := h.oF.mono (Nat.le_succ _) }⟩, HB⟩
        case measure => simp [intOf]; omega
      · have HZ := Lib.hid hz
        have hy2 : 1 ≤ y := by omega
        clear hz
        go_wp2_with (first | (go_at_call 26; refine (addr_yes y _ hy2 hy1).mono ?_; rintro e w1 ⟨rfl, rfl⟩) | (at_mapUpdate; refine wp_upd _ rfl _ _ _ 57 rfl 3 3 law3 Tryd.underlying57 w.heap.size j DA _ rfl HW2.out.oA HW2.out.hA (by unfold maxLen; omega) (j : Int) (.int .i64 y) rfl rfl (keyOf_int_mk Tryd.underlying3 (wf_i (by omega) (by omega))) ?_; intro w3 D3 ho3 hh3 hg3; have HB3 := Lib.hid (HW2.out.turnA (Nat.le_succ _) hg3 ho3 (hA_set (a := adr (l.take j)) (k := (j : Int)) (v := some y) hh3 (fun j => rfl))); have HE3 : Hid (Below w.heap.size w w3) := HB.out.grown hg3 HB.out.size (fun q e => by cases e; exact Nat.le_refl _); clear ho3 hh3 hg3))
        go_roundw
        case rel => exact ⟨j + 1, by omega, by go_num, by rw [HTK.out, if_neg HZ.out]; exact Lib.hid ⟨_, HB3.out⟩, HE3⟩
        case measure => simp [intOf]; omega
    · obtain rfl : j = j0 := by omega
      obtain ⟨b, off, rfl, hcl⟩ := addr_of_C HC.out (by omega)
      have hcell0 := hcl j hlt
      obtain ⟨y, hy⟩ : ∃ y, l.getD j 0 = y := ⟨_, rfl⟩
      rw [hy] at hcell0 hbad
      have hcell := pw_cell_below HB.out hcell0
      have hb2 : y < 1 ∨ 65535 < y := by unfold okA at hbad; omega
      have hyz : (y != 0) = true := bne_iff_ne.2 (fun e => hbad (by rw [e]; exact ⟨by decide, by decide⟩))
      have HB2 := Lib.hid hb2
      clear hcl hy hcell0 hbad hb2
      go_wp2_with (go_at_call 26; refine (addr_no y _ HB2.out).mono ?_; rintro e w1 ⟨rfl, rfl⟩)
      go_ret2
      exact ⟨rfl, HB.out⟩
end Go.Proofs.YtlkhlmckgpjopaaDoor.Given
