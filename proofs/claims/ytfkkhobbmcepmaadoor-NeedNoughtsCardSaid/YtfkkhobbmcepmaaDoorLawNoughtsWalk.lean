/- The walk of NeedNoughts: by hand. -/
import Derived.Test.YtfkkhobbmcepmaaDoorGivAlive13
import Derived.Test.YtfkkhobbmcepmaaDoorGivTh
namespace Go.Proofs.YtfkkhobbmcepmaaDoor.NoughtsWalk
open Go.RowKit Go.Shelf Go.Maps Go.Proofs.YtfkkhobbmcepmaaDoorW.PrintWords Go.Proofs.YtfkkhobbmcepmaaDoorW.PrintLast Go.Proofs.YtfkkhobbmcepmaaDoorW.PrintMore Go.Proofs.YtfkkhobbmcepmaaDoor.Base Go.Proofs.YtfkkhobbmcepmaaDoor.Given
set_option linter.unusedVariables false
set_option linter.unusedSimpArgs false
theorem w64 {n : Int} (h0 : -9223372036854775808 ≤ n) (h1 : n ≤ 9223372036854775807) : wrap64 n = n := by unfold wrap64; omega
theorem rd_get {xs : List Int} {i : Nat} (h : i < xs.length) : rd xs (i : Int) = xs[i] := by simp [rd, h]
theorem sameI_loop (x y : List Int) (hl : x.length = y.length) (hn : x.length ≤ 9223372036854775807) (d : Nat) : ∀ (k i : Nat), i + d = x.length → d < k →
    moraineref00_SameInts.l0 k x y (i : Int) = some (decide (x.drop i = y.drop i)) := by
  induction d with
  | zero =>
    intro k i hi hk
    obtain ⟨k, rfl⟩ : ∃ m, k = m + 1 := ⟨k - 1, by omega⟩
    simp only [moraineref00_SameInts.l0]
    rw [if_neg (by omega), List.drop_of_length_le (by omega), List.drop_of_length_le (by omega)]; simp
  | succ d ih =>
    intro k i hi hk
    obtain ⟨k, rfl⟩ : ∃ m, k = m + 1 := ⟨k - 1, by omega⟩
    simp only [moraineref00_SameInts.l0]
    rw [if_pos (by omega), if_pos (by omega), if_pos (by omega), rd_get (show i < x.length by omega), rd_get (show i < y.length by omega)]
    have ex : x.drop i = x[i] :: x.drop (i + 1) := List.drop_eq_getElem_cons (by omega)
    have ey : y.drop i = y[i] :: y.drop (i + 1) := List.drop_eq_getElem_cons (by omega)
    by_cases h : x[i] = y[i]
    · rw [if_pos h, w64 (by omega) (by omega)]
      have := ih k (i + 1) (by omega) (by omega)
      rw [show ((i : Int) + 1) = ((i + 1 : Nat) : Int) by omega, this]
      exact congrArg some (decide_eq_decide.2 ⟨fun e => by rw [ex, ey, h, e], fun e => by rw [ex, ey] at e; exact (List.cons.inj e).2⟩)
    · rw [if_neg h, decide_eq_false (fun e => by rw [ex, ey] at e; exact h (List.cons.inj e).1)]
theorem sameI_eq (x y : List Int) (hn : x.length ≤ 9223372036854775807) (k : Nat) (hk : x.length < k) : moraineref00_SameInts.f k x y = some (decide (x = y)) := by
  unfold moraineref00_SameInts.f
  by_cases hl : x.length = y.length
  · rw [if_pos (by omega)]
    have := sameI_loop x y hl hn x.length k 0 (by omega) hk
    simpa using this
  · rw [if_neg (by omega)]
    have : x ≠ y := fun e => hl (by rw [e])
    simp [this]
theorem infoB : (Tryd.prog.info? 5).map (fun i => (i.zero, i.size, i.bytes)) = some (some (.int .u8 0), (Kd.int .u8).sz, 1) := by kernel_rfl
theorem there_at (A : Option Addr) (c : Nat) (b L : List Int) (hL : thL b = L) (wd : World) (hb : b.length ≤ 1000000) (hc : b.length ≤ c) (hC : Kd.C (Kd.int .u8) wd A b.length b) (n : Nat) (hn : b.length = n) :
    Calls Tryd.prog 7 #[.slice A n c] wd fun e w' => ∃ A' c', e = .returned (.slice A' L.length c') ∧ L.length ≤ c' ∧ Kd.C (Kd.int .i64) w' A' L.length L ∧ Below wd.heap.size wd w' := by
  subst hn
  refine (there_calls A c b wd hb hc hC).mono ?_
  rintro e w' ⟨v, rfl, hrow, hB⟩
  rw [th_thL, hL] at hrow
  obtain ⟨A', c', rfl, h1, h2⟩ := int_slice hrow
  exact ⟨A', c', rfl, h1, h2, hB⟩
set_option maxHeartbeats 4000000 in
set_option maxRecDepth 100000 in
theorem good (A0 : Option Addr) (c0 : Nat) (b : List Int) (n : Int) (w : World) (hC : Kd.C (Kd.int .u8) w A0 b.length b) (hc : b.length ≤ c0) (hl : b.length ≤ 20000) (h0 : 0 ≤ n) (h1 : n ≤ 20000) :
    Calls Tryd.prog 3 #[.slice A0 b.length c0, .int .i64 n] w fun e w' => e = .returned (.bool true) ∧ Below w.heap.size w w' := by
  obtain ⟨m, rfl⟩ := Int.eq_ofNat_of_zero_le h0
  have d1 : decide ((20000 : Int) < (b.length : Int)) = false := decide_eq_false (by omega)
  have d2 : decide ((m : Int) < 0) = false := decide_eq_false (by omega)
  have d3 : decide ((20000 : Int) < (m : Int)) = false := decide_eq_false (by omega)
  have hl2 : (b.length : Int) ≤ 20000 := by omega
  have HC := Lib.hid hC
  obtain ⟨L, hL⟩ : ∃ L, thL b = L := ⟨_, rfl⟩
  have HL := Lib.hid hL
  have HLL : Hid (L.length ≤ 20000) := by show _ ≤ _; rw [← hL]; have := thL_len b; unfold chN at this; omega
  clear hC hL
  go_enter Tryd.func3, Tryd.ntmps3
  go_wp2_with fail
  refine (alive_calls _).mono ?_
  rintro e w1 ⟨rfl, hB⟩
  have HB1 := Lib.hid hB
  clear hB
  go_wp2_with (first | ((with_reducible refine gate_dst (N := 24) rfl ?_); refine Kd.R_make (Kd.int .u8) (w0 := w1) w1.heap.size 5 rfl (N := 24) rfl 22 (.tmp 23) (.tmp 23) rfl (m : Int) rfl rfl Tryd.underlying22 (.int .u8 0) 1 infoB rfl (by decide) (by decide) 0 (ok := fun _ => True) (okp := fun _ => True) rfl (fun _ h => h) trivial (by omega) (by omega) (Below.refl _ _) (Nat.le_refl _) ?_; intro v5 w2 hR hB _ _; obtain ⟨A5, c5, rfl⟩ := Kd.R_slice hR; rw [Int.toNat_natCast] at hR; have HR5 := Lib.hid hR; have H12 := Lib.hid hB; clear hR hB))
  have hR5 := Kd.R_reads' HR5.out
  rw [List.length_replicate] at hR5
  have HC5 : Hid (Kd.C (Kd.int .u8) w2 A5 m (List.replicate m 0)) := hR5.2.2
  have hc5 : m ≤ c5 := hR5.2.1
  have HB2 : Hid (Below w.heap.size w w2) := HB1.out.trans (H12.out.mono HB1.out.size)
  clear hR5 HR5 H12 HB1
  refine (there_at A0 c0 b L HL.out w2 (by omega) hc (Kd.C_below HC.out HB2.out) _ rfl).mono ?_
  rintro e w3 ⟨A6, c6, rfl, hc6, hC6, hB⟩
  have HC6 := Lib.hid hC6
  have HC5b := Lib.hid (Kd.C_below HC5.out hB)
  have HB3 : Hid (Below w.heap.size w w3) := HB2.out.trans (hB.mono HB2.out.size)
  clear hC6 hB HC5 HB2
  go_wp2_with fail
  refine (moraineref00_CopyBytes.calls A0 c0 b b w3 (Kd.C_below HC.out HB3.out) hc (by unfold moraineref00_CopyBytes.f; simp; omega)).mono ?_
  rintro e w4 ⟨v7, rfl, hR, hB⟩
  have HR7 := Lib.hid hR
  have H34 := Lib.hid hB
  clear hR hB
  go_wp2_with (first | ((with_reducible refine gate_builtin (b := .append) (xs := #[.tmp 29, .tmp 30]) rfl ?_); at_builtin; refine Kd.R_append_rows (Kd.int .u8) (w0 := w3) w3.heap.size rfl (.tmp 29) (.tmp 30) 22 5 (.int .u8 0) 1 rfl Tryd.underlying22 infoB rfl (by decide) (by omega) v7 b (List.replicate m 0) _ _ _ (fun _ => True) (fun _ => False) rfl rfl HR7.out (Kd.C_below HC5b.out H34.out) (fun _ _ h => h) (fun _ h => h.elim) (fun _ _ => trivial) H34.out H34.out.size (by omega) ?_; intro v8 w5 hR8 hB8 _ _; have HR8 := Lib.hid hR8; have H35 := Lib.hid hB8; obtain ⟨A7, c7, rfl⟩ := Kd.R_slice hR8; clear hR8 hB8))
  have hR8 := Kd.R_reads' HR8.out
  have hlen : (b ++ List.replicate m 0).length = b.length + m := by rw [List.length_append, List.length_replicate]
  have HB5 : Hid (Below w.heap.size w w5) := HB3.out.trans (H35.out.mono HB3.out.size)
  have HC6b := Lib.hid (Kd.C_below HC6.out H35.out)
  have HC5c := Lib.hid (Kd.C_below HC5b.out H35.out)
  rw [hlen] at hR8
  refine (there_at A7 c7 (b ++ List.replicate m 0) L (by rw [thL_noughts]; exact HL.out) w5 (by omega) (by rw [hlen]; exact hR8.2.1) (by rw [hlen]; exact hR8.2.2) _ (by simp)).mono ?_
  rintro e w6 ⟨A8, c8, rfl, hc8, hC8, hB⟩
  have HC8 := Lib.hid hC8
  have HC6c := Lib.hid (Kd.C_below HC6b.out hB)
  have HC5d := Lib.hid (Kd.C_below HC5c.out hB)
  have HB6 : Hid (Below w.heap.size w w6) := HB5.out.trans (hB.mono HB5.out.size)
  clear hC8 hB hR8 HR8 H35 HC6b HC5c HB5 HR7 H34 HB3 HC6 HC5b
  have hLL : L.length ≤ 20000 := HLL.out
  have HUP : Hid (L.Pairwise (· < ·)) := by show List.Pairwise _ L; rw [← HL.out]; exact thL_up b
  have HME : Hid (∀ x ∈ L, 0 ≤ x ∧ x * 56 < (b.length : Int)) := by show ∀ x ∈ L, _; rw [← HL.out]; exact fun x hx => thL_mem hx
  go_wp2
  go_loopw [9] (fun i wr => ∃ (j : Nat), j ≤ L.length ∧ i = .int .i64 j ∧ Hid (Below w6.heap.size w6 wr)) (fun i _ => (20000 - intOf i).toNat)
  case atStart => exact ⟨0, by omega, rfl, Below.refl _ _⟩
  case round =>
    obtain ⟨j, hj, rfl, HB⟩ := hrel
    rcases Nat.lt_or_ge j L.length with hlt | hge
    · have hlt2 : (j : Int) < (L.length : Int) := by omega
      have hll : (L.length : Int) ≤ 20000 := by omega
      obtain ⟨g6, o6, rfl, hcell⟩ := addr_of_C (Kd.C_below HC6c.out HB.out) (by omega)
      have hcj := hcell j hlt
      have hmem := HME.out L[j] (List.getElem_mem hlt)
      obtain ⟨x, hx⟩ : ∃ x, L[j] = x := ⟨_, rfl⟩
      rw [show L.getD j 0 = L[j] by simp [hlt], hx] at hcj
      rw [hx] at hmem
      have e1 : decide (x < 0) = false := decide_eq_false (by omega)
      have e2 : IntKind.i64.wrap (x * 56) = x * 56 := IntWalk.i64_in _ (by omega)
      have e3 : decide ((b.length : Int) ≤ x * 56) = false := decide_eq_false (by omega)
      rcases Nat.eq_zero_or_pos j with h0 | h0
      · subst h0
        simp only [Nat.add_zero] at hcj
        clear hcell hx hmem
        go_wp2
        go_region
        go_wp2
        go_roundw
        case rel => exact ⟨1, by omega, by simp, by first | exact HB | exact below_drew HB.out⟩
        case measure => simp [intOf]
      · obtain ⟨i, rfl⟩ : ∃ i, j = i + 1 := ⟨j - 1, by omega⟩
        have hci := hcell i (by omega)
        have hup := (List.pairwise_iff_getElem.1 HUP.out) i (i + 1) (by omega) hlt (by omega)
        obtain ⟨y, hy⟩ : ∃ y, L[i] = y := ⟨_, rfl⟩
        rw [show L.getD i 0 = L[i] by simp [show i < L.length by omega], hy] at hci
        rw [hx, hy] at hup
        have e4 : decide ((0 : Int) < ((i + 1 : Nat) : Int)) = true := decide_eq_true (by omega)
        have e5 : IntKind.i64.wrap (((i + 1 : Nat) : Int) - 1) = (i : Int) := by rw [IntWalk.i64_in _ (by omega)]; omega
        have e6 : decide (x ≤ y) = false := decide_eq_false (by omega)
        have hil : (i : Int) < (L.length : Int) := by omega
        clear hcell hx hmem hy hup
        go_wp2
        go_region
        go_wp2
        go_roundw
        case rel => exact ⟨i + 1 + 1, by omega, by simp, by first | exact HB | exact below_drew HB.out⟩
        case measure => simp [intOf]; omega
    · obtain rfl : j = L.length := by omega
      have HBq : Hid (Below w.heap.size w wr) := HB6.out.trans (HB.out.mono HB6.out.size)
      have hsm := moraineref00_SameInts.calls (L.length + 1) A6 c6 L A8 c8 L true wr (Kd.C_below HC6c.out HB.out) hc6 (Kd.C_below HC8.out HB.out) hc8 (by rw [sameI_eq L L (by omega) _ (by omega)]; simp)
      have HSM := Lib.hid hsm
      clear hsm hj hge
      go_wp2_with fail
      refine HSM.out.mono ?_
      rintro e w7 ⟨rfl, ⟨nd, rfl⟩⟩
      have hB7 : Below wr.heap.size wr (wr.drewN nd) := pw_below_drewN (Below.refl _ wr) nd
      have HB7 : Hid (Below w.heap.size w (wr.drewN nd)) := HBq.out.trans (hB7.mono HBq.out.size)
      have HC5e := Lib.hid (Kd.C_below (Kd.C_below HC5d.out HB.out) hB7)
      obtain ⟨w7, hw7⟩ : ∃ z, z = wr.drewN nd := ⟨_, rfl⟩
      rw [← hw7] at HB7 HC5e ⊢
      clear hB7 hw7
      go_wp2_with fail
      refine (there_at A5 c5 (List.replicate m 0) [] (thL_zeros m) w7 (by simp; omega) (by simp; exact hc5) (by rw [List.length_replicate]; exact HC5e.out) m (by simp)).mono ?_
      rintro e w8 ⟨A9, c9, rfl, hc9, hC9, hB⟩
      have HB8 : Hid (Below w.heap.size w w8) := HB7.out.trans (hB.mono HB7.out.size)
      clear hC9 hB hc9
      go_wp2
      go_ret
      exact ⟨rfl, HB8.out⟩
set_option maxHeartbeats 1000000 in
theorem out1 (A0 : Option Addr) (c0 k : Nat) (n : Int) (w : World) (hk : k ≤ 9223372036854775807) (h : 20000 < k) :
    Calls Tryd.prog 3 #[.slice A0 k c0, .int .i64 n] w fun e w' => e = .returned (.bool true) ∧ Below w.heap.size w w' := by
  have d0 : decide ((20000 : Int) < (k : Int)) = true := decide_eq_true (by omega)
  have d1 : (k : Int) ≤ 9223372036854775807 := by omega
  go_enter Tryd.func3, Tryd.ntmps3
  go_wp2_with fail
  refine (alive_calls _).mono ?_
  rintro e w1 ⟨rfl, hB⟩
  have HB1 := Lib.hid hB
  clear hB
  go_wp2
  go_ret
  exact ⟨rfl, HB1.out⟩
set_option maxHeartbeats 1000000 in
theorem out2 (A0 : Option Addr) (c0 k : Nat) (n : Int) (w : World) (h : k ≤ 20000) (h2 : n < 0) :
    Calls Tryd.prog 3 #[.slice A0 k c0, .int .i64 n] w fun e w' => e = .returned (.bool true) ∧ Below w.heap.size w w' := by
  have d0 : decide ((20000 : Int) < (k : Int)) = false := decide_eq_false (by omega)
  have d1 : (k : Int) ≤ 20000 := by omega
  have d2 : decide (n < 0) = true := decide_eq_true (by omega)
  go_enter Tryd.func3, Tryd.ntmps3
  go_wp2_with fail
  refine (alive_calls _).mono ?_
  rintro e w1 ⟨rfl, hB⟩
  have HB1 := Lib.hid hB
  clear hB
  go_wp2
  go_ret
  exact ⟨rfl, HB1.out⟩
set_option maxHeartbeats 1000000 in
theorem out3 (A0 : Option Addr) (c0 k : Nat) (n : Int) (w : World) (h : k ≤ 20000) (h2 : 20000 < n) :
    Calls Tryd.prog 3 #[.slice A0 k c0, .int .i64 n] w fun e w' => e = .returned (.bool true) ∧ Below w.heap.size w w' := by
  have d0 : decide ((20000 : Int) < (k : Int)) = false := decide_eq_false (by omega)
  have d1 : (k : Int) ≤ 20000 := by omega
  have d2 : decide (n < 0) = false := decide_eq_false (by omega)
  have d3 : decide ((20000 : Int) < n) = true := decide_eq_true (by omega)
  go_enter Tryd.func3, Tryd.ntmps3
  go_wp2_with fail
  refine (alive_calls _).mono ?_
  rintro e w1 ⟨rfl, hB⟩
  have HB1 := Lib.hid hB
  clear hB
  go_wp2
  go_ret
  exact ⟨rfl, HB1.out⟩
end Go.Proofs.YtfkkhobbmcepmaaDoor.NoughtsWalk
namespace Go.Proofs.YtfkkhobbmcepmaaDoor.PNeedNoughts
open Go.RowKit Go.Proofs.YtfkkhobbmcepmaaDoorW.PrintWords Go.Proofs.YtfkkhobbmcepmaaDoorW.PrintLast Go.Proofs.YtfkkhobbmcepmaaDoorW.PrintMore Go.Proofs.YtfkkhobbmcepmaaDoor.Given Go.Proofs.YtfkkhobbmcepmaaDoor.NoughtsWalk
set_option linter.unusedVariables false
def morainelaw13_NeedNoughts.f (b : List Int) (n : Int) : Option Bool := some true
theorem morainelaw13_NeedNoughts.calls (A0 : Option Addr) (c0 : Nat) (b : List Int) (n : Int) (r : Bool) (w : World) (hC : Kd.C (Kd.int .u8) w A0 b.length b) (hc : b.length ≤ c0) (h : morainelaw13_NeedNoughts.f b n = some r) :
    Calls Tryd.prog 3 #[.slice A0 b.length c0, .int .i64 n] w fun e w' => e = .returned (.bool r) ∧ Below w.heap.size w w' := by
  cases h
  by_cases h1 : 20000 < b.length
  · exact out1 A0 c0 b.length n w hC.2.1 h1
  · by_cases h2 : n < 0
    · exact out2 A0 c0 b.length n w (by omega) h2
    · by_cases h3 : 20000 < n
      · exact out3 A0 c0 b.length n w (by omega) h3
      · exact good A0 c0 b n w hC hc (by omega) (by omega) (by omega)
end Go.Proofs.YtfkkhobbmcepmaaDoor.PNeedNoughts
namespace Go.Proofs.YtfkkhobbmcepmaaDoor.Pure
theorem NeedNoughts {P1 P2 : Prop} (b : List Int) (n : Int) (_ : P1) (_ : P2) : PNeedNoughts.morainelaw13_NeedNoughts.f b n = some true := rfl
end Go.Proofs.YtfkkhobbmcepmaaDoor.Pure
