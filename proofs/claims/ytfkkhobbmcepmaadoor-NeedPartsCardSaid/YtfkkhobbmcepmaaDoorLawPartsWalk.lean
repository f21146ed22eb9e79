/- The walk of NeedParts: by hand. -/
import Derived.Test.YtfkkhobbmcepmaaDoorGivAlive13
import Derived.Test.YtfkkhobbmcepmaaDoorGivTh
namespace Go.Proofs.YtfkkhobbmcepmaaDoor.PartsWalk
open Go.RowKit Go.Shelf Go.Maps Go.Proofs.YtfkkhobbmcepmaaDoorW.PrintWords Go.Proofs.YtfkkhobbmcepmaaDoorW.PrintLast Go.Proofs.YtfkkhobbmcepmaaDoorW.PrintMore Go.Proofs.YtfkkhobbmcepmaaDoor.Base Go.Proofs.YtfkkhobbmcepmaaDoor.Given
set_option linter.unusedVariables false
set_option linter.unusedSimpArgs false
theorem w64 {n : Int} (h0 : -9223372036854775808 ≤ n) (h1 : n ≤ 9223372036854775807) : wrap64 n = n := by unfold wrap64; omega
theorem rd_get {xs : List Int} {i : Nat} (h : i < xs.length) : rd xs (i : Int) = xs[i] := by simp [rd, h]
theorem sameI_loop (x y : List Int) (hl : x.length = y.length) (hn : x.length ≤ 9223372036854775807) (d : Nat) : ∀ (k i : Nat), i + d = x.length → d < k →
    moraineref00_SameInts.l0 k x y (i : Int) = some (decide (x.drop i = y.drop i)) := by
  induction d with
  | zero =>
    intro k i hi hk
    obtain ⟨k, rfl⟩ : ∃ m, k = m + 1 := ⟨k - 1, by omega⟩
    simp only [moraineref00_SameInts.l0]
    rw [if_neg (by omega), List.drop_of_length_le (by omega), List.drop_of_length_le (by omega)]; simp
  | succ d ih =>
    intro k i hi hk
    obtain ⟨k, rfl⟩ : ∃ m, k = m + 1 := ⟨k - 1, by omega⟩
    simp only [moraineref00_SameInts.l0]
    rw [if_pos (by omega), if_pos (by omega), if_pos (by omega), rd_get (show i < x.length by omega), rd_get (show i < y.length by omega)]
    have ex : x.drop i = x[i] :: x.drop (i + 1) := List.drop_eq_getElem_cons (by omega)
    have ey : y.drop i = y[i] :: y.drop (i + 1) := List.drop_eq_getElem_cons (by omega)
    by_cases h : x[i] = y[i]
    · rw [if_pos h, w64 (by omega) (by omega)]
      have := ih k (i + 1) (by omega) (by omega)
      rw [show ((i : Int) + 1) = ((i + 1 : Nat) : Int) by omega, this]
      exact congrArg some (decide_eq_decide.2 ⟨fun e => by rw [ex, ey, h, e], fun e => by rw [ex, ey] at e; exact (List.cons.inj e).2⟩)
    · rw [if_neg h, decide_eq_false (fun e => by rw [ex, ey] at e; exact h (List.cons.inj e).1)]
theorem sameI_eq (x y : List Int) (hn : x.length ≤ 9223372036854775807) (k : Nat) (hk : x.length < k) : moraineref00_SameInts.f k x y = some (decide (x = y)) := by
  unfold moraineref00_SameInts.f
  by_cases hl : x.length = y.length
  · rw [if_pos (by omega)]
    have := sameI_loop x y hl hn x.length k 0 (by omega) hk
    simpa using this
  · rw [if_neg (by omega)]
    have : x ≠ y := fun e => hl (by rw [e])
    simp [this]
theorem infoB : (Tryd.prog.info? 5).map (fun i => (i.zero, i.size, i.bytes)) = some (some (.int .u8 0), (Kd.int .u8).sz, 1) := by kernel_rfl
theorem there_at (A : Option Addr) (c : Nat) (b L : List Int) (hL : thL b = L) (wd : World) (hb : b.length ≤ 1000000) (hc : b.length ≤ c) (hC : Kd.C (Kd.int .u8) wd A b.length b) (n : Nat) (hn : b.length = n) :
    Calls Tryd.prog 7 #[.slice A n c] wd fun e w' => ∃ A' c', e = .returned (.slice A' L.length c') ∧ L.length ≤ c' ∧ Kd.C (Kd.int .i64) w' A' L.length L ∧ Below wd.heap.size wd w' := by
  subst hn
  refine (there_calls A c b wd hb hc hC).mono ?_
  rintro e w' ⟨v, rfl, hrow, hB⟩
  rw [th_thL, hL] at hrow
  obtain ⟨A', c', rfl, h1, h2⟩ := int_slice hrow
  exact ⟨A', c', rfl, h1, h2, hB⟩
set_option maxHeartbeats 4000000 in
set_option maxRecDepth 100000 in
theorem good (A0 : Option Addr) (c0 : Nat) (a : List Int) (A1 : Option Addr) (c1 : Nat) (b : List Int) (q : Nat) (w : World) (hC0 : Kd.C (Kd.int .u8) w A0 a.length a) (hc0 : a.length ≤ c0) (hC1 : Kd.C (Kd.int .u8) w A1 b.length b) (hc1 : b.length ≤ c1) (hla : a.length ≤ 50000) (hlb : b.length ≤ 50000) (hq : a.length = 56 * q) :
    Calls Tryd.prog 5 #[.slice A0 a.length c0, .slice A1 b.length c1] w fun e w' => e = .returned (.bool true) ∧ Below w.heap.size w w' := by
  have d1 : decide ((50000 : Int) < (a.length : Int)) = false := decide_eq_false (by omega)
  have d2 : decide ((50000 : Int) < (b.length : Int)) = false := decide_eq_false (by omega)
  have hla2 : (a.length : Int) ≤ 50000 := by omega
  have hlb2 : (b.length : Int) ≤ 50000 := by omega
  have d3 : (a.length : Int).tmod 56 = 0 := by rw [Int.tmod_eq_emod_of_nonneg (by omega)]; omega
  have d4 : ((0 : Int) != 0) = false := by simp
  have d5 : (a.length : Int).tdiv 56 = (q : Int) := by rw [Int.tdiv_eq_ediv_of_nonneg (by omega)]; omega
  have d6 : IntKind.i64.wrap (q : Int) = (q : Int) := IntWalk.i64_in _ (by omega)
  have d7 : IntKind.i64.wrap 0 = 0 := IntWalk.i64_in _ (by omega)
  have HC0 := Lib.hid hC0
  have HC1 := Lib.hid hC1
  obtain ⟨X, hX⟩ : ∃ L, thL a = L := ⟨_, rfl⟩
  obtain ⟨Y, hY⟩ : ∃ L, thL b = L := ⟨_, rfl⟩
  have HX := Lib.hid hX
  have HY := Lib.hid hY
  have HZ : Hid (thL (a ++ b) = X ++ Y.map fun x => x + (q : Int)) := by show _ = _; rw [thL_parts a b q hq, hX, hY]
  have HXL : Hid (X.length ≤ 50000) := by show _ ≤ _; rw [← hX]; have := thL_len a; unfold chN at this; omega
  have HYL : Hid (Y.length ≤ 50000) := by show _ ≤ _; rw [← hY]; have := thL_len b; unfold chN at this; omega
  have HME : Hid (∀ x ∈ Y, 0 ≤ x ∧ x * 56 < (b.length : Int)) := by show ∀ x ∈ Y, _; rw [← hY]; exact fun x hx => thL_mem hx
  have HQ := Lib.hid hq
  clear hC0 hC1 hX hY hq
  go_enter Tryd.func5, Tryd.ntmps5
  go_wp2_with fail
  refine (alive_calls _).mono ?_
  rintro e w1 ⟨rfl, hB⟩
  have HB1 := Lib.hid hB
  clear hB
  go_wp2_with fail
  refine (there_at A0 c0 a X HX.out w1 (by omega) hc0 (Kd.C_below HC0.out HB1.out) _ rfl).mono ?_
  rintro e w2 ⟨A5, c5, rfl, hc5, hC5, hB⟩
  have HC5 := Lib.hid hC5
  have HB2 : Hid (Below w.heap.size w w2) := HB1.out.trans (hB.mono HB1.out.size)
  clear hC5 hB HB1
  go_wp2_with fail
  refine (there_at A1 c1 b Y HY.out w2 (by omega) hc1 (Kd.C_below HC1.out HB2.out) _ rfl).mono ?_
  rintro e w3 ⟨A6, c6, rfl, hc6, hC6, hB⟩
  have HC6 := Lib.hid hC6
  have HC5b := Lib.hid (Kd.C_below HC5.out hB)
  have HB3 : Hid (Below w.heap.size w w3) := HB2.out.trans (hB.mono HB2.out.size)
  clear hC6 hB HC5 HB2
  go_wp2_with fail
  refine (moraineref00_CopyBytes.calls A0 c0 a a w3 (Kd.C_below HC0.out HB3.out) hc0 (by unfold moraineref00_CopyBytes.f; simp; omega)).mono ?_
  rintro e w4 ⟨v7, rfl, hR, hB⟩
  have HR7 := Lib.hid hR
  have H34 := Lib.hid hB
  have HC1b : Hid (Kd.C (Kd.int .u8) w4 A1 b.length b) := Kd.C_below (Kd.C_below HC1.out HB3.out) hB
  clear hR hB
  go_wp2_with (first | ((with_reducible refine gate_builtin (b := .append) (xs := #[.tmp 32, .tmp 33]) rfl ?_); at_builtin; refine Kd.R_append_rows (Kd.int .u8) (w0 := w3) w3.heap.size rfl (.tmp 32) (.tmp 33) 22 5 (.int .u8 0) 1 rfl Tryd.underlying22 infoB rfl (by decide) (by omega) v7 a b _ _ _ (fun _ => True) (fun _ => False) rfl rfl HR7.out HC1b.out (fun _ _ h => h) (fun _ h => h.elim) (fun _ _ => trivial) H34.out H34.out.size (by omega) ?_; intro v8 w5 hR8 hB8 _ _; have HR8 := Lib.hid hR8; have H35 := Lib.hid hB8; obtain ⟨A7, c7, rfl⟩ := Kd.R_slice hR8; clear hR8 hB8))
  have hR8 := Kd.R_reads' HR8.out
  have hlen : (a ++ b).length = a.length + b.length := List.length_append
  have HB5 : Hid (Below w.heap.size w w5) := HB3.out.trans (H35.out.mono HB3.out.size)
  have HC6b := Lib.hid (Kd.C_below HC6.out H35.out)
  have HC5c := Lib.hid (Kd.C_below HC5b.out H35.out)
  obtain ⟨Z, hZ⟩ : ∃ Z, (X ++ Y.map fun x => x + (q : Int)) = Z := ⟨_, rfl⟩
  have hZl : Z.length = X.length + Y.length := by rw [← hZ, List.length_append, List.length_map]
  have HZE := Lib.hid hZ
  rw [hlen] at hR8
  refine (there_at A7 c7 (a ++ b) Z (by rw [HZ.out]; exact hZ) w5 (by omega) (by rw [hlen]; exact hR8.2.1) (by rw [hlen]; exact hR8.2.2) _ (by simp)).mono ?_
  rintro e w6 ⟨A8, c8, rfl, hc8, hC8, hB⟩
  have HC8 := Lib.hid hC8
  have HC5d := Lib.hid (Kd.C_below HC5c.out hB)
  have HC6c := Lib.hid (Kd.C_below HC6b.out hB)
  have HB6 : Hid (Below w.heap.size w w6) := HB5.out.trans (hB.mono HB5.out.size)
  rw [hZl] at hc8
  have HC8n : Hid (Kd.C (Kd.int .i64) w6 A8 (X.length + Y.length) Z) := by rw [← hZl]; exact HC8.out
  have HC8x : Hid (Kd.C (Kd.int .i64) w6 A8 X.length X) := by
    have := Kd.C_take (m := X.length) HC8.out (by omega)
    rwa [← HZE.out, List.take_left'] at this
    rfl
  rw [hZl]
  have hXL : (X.length : Int) ≤ 50000 := by have := HXL.out; omega
  have hYL : (Y.length : Int) ≤ 50000 := by have := HYL.out; omega
  have e1 : IntKind.i64.wrap ((X.length : Int) + (Y.length : Int)) = (X.length : Int) + (Y.length : Int) := IntWalk.i64_in _ (by omega)
  have e2 : (((X.length : Int) + (Y.length : Int)) != ((X.length : Int) + (Y.length : Int))) = false := by simp
  have e3 : (((X.length + Y.length : Nat) : Int)) = (X.length : Int) + (Y.length : Int) := by omega
  have e4 : X.length ≤ X.length + Y.length := by omega
  have e5 : X.length + Y.length ≤ c8 := hc8
  clear hC8 hB hR8 HR8 H35 HC5c HC6b HB5 HR7 H34 HB3 HC5b HC6 HC1b hZ hlen
  go_wp2_with fail
  have hsm := moraineref00_SameInts.calls (X.length + 1) A8 c8 X A5 c5 X true w6 HC8x.out (by omega) HC5d.out hc5 (by rw [sameI_eq X X (by have := HXL.out; omega) _ (by omega)]; simp)
  refine hsm.mono ?_
  rintro e w7 ⟨rfl, ⟨nd, rfl⟩⟩
  have hB7 : Below w6.heap.size w6 (w6.drewN nd) := pw_below_drewN (Below.refl _ w6) nd
  have HB7 : Hid (Below w.heap.size w (w6.drewN nd)) := HB6.out.trans (hB7.mono HB6.out.size)
  have HC8e : Hid (Kd.C (Kd.int .i64) (w6.drewN nd) A8 (X.length + Y.length) Z) := Kd.C_below HC8n.out hB7
  have HC6e : Hid (Kd.C (Kd.int .i64) (w6.drewN nd) A6 Y.length Y) := Kd.C_below HC6c.out hB7
  obtain ⟨w7, hw7⟩ : ∃ z, z = w6.drewN nd := ⟨_, rfl⟩
  rw [← hw7] at HB7 HC8e HC6e ⊢
  clear hB7 hw7 hsm HC8n HC6c HC8x HC8 HC5d HB6 hc8
  go_wp2
  go_loopw [9] (fun i wr => ∃ (j : Nat), j ≤ Y.length ∧ i = .int .i64 j ∧ Hid (Below w7.heap.size w7 wr)) (fun i _ => (50000 - intOf i).toNat)
  case atStart => exact ⟨0, by omega, rfl, Below.refl _ _⟩
  case round =>
    obtain ⟨j, hj, rfl, HB⟩ := hrel
    rcases Nat.lt_or_ge j Y.length with hlt | hge
    · have hlt2 : (j : Int) < (Y.length : Int) := by omega
      have hZ := HZE.out
      obtain ⟨g8, o8, rfl, hcell8⟩ := addr_of_C (Kd.C_below HC8e.out HB.out) (by omega)
      obtain ⟨g6, o6, rfl, hcell6⟩ := addr_of_C (Kd.C_below HC6e.out HB.out) (by omega)
      have hc6j := hcell6 j hlt
      have hc8j := hcell8 (X.length + j) (by omega)
      have hme := HME.out Y[j] (List.getElem_mem hlt)
      rw [show Y.getD j 0 = Y[j] by simp [hlt]] at hc6j
      rw [← hZ, List.getD_eq_getElem?_getD, List.getElem?_append_right (by omega), show X.length + j - X.length = j by omega, List.getElem?_map, List.getElem?_eq_getElem hlt, Option.map_some, Option.getD_some] at hc8j
      obtain ⟨y, hy⟩ : ∃ y, Y[j] = y := ⟨_, rfl⟩
      rw [hy] at hc6j hc8j hme
      have hqb : (q : Int) ≤ 50000 := by have := HQ.out; omega
      obtain ⟨u, hu⟩ : ∃ u, y + (q : Int) = u := ⟨_, rfl⟩
      obtain ⟨N, hN⟩ : ∃ N, X.length + j = N := ⟨_, rfl⟩
      have f1 : IntKind.i64.wrap (y + (q : Int)) = u := by rw [IntWalk.i64_in _ (by omega)]; exact hu
      have f2 : (u != u) = false := by simp
      have f3 : IntKind.i64.wrap ((X.length : Int) + (j : Int)) = (N : Int) := by rw [IntWalk.i64_in _ (by omega)]; omega
      rw [hu, hN] at hc8j
      have f4 : N < X.length + Y.length := by omega
      have f5 : (N : Int) < (X.length : Int) + (Y.length : Int) := by omega
      clear hZ hcell8 hcell6 hme hy hu hN
      go_wp2
      go_region
      go_wp2
      go_roundw
      case rel => exact ⟨j + 1, by omega, by simp, by first | exact HB | exact below_drew HB.out⟩
      case measure => simp [intOf]; omega
    · obtain rfl : j = Y.length := by omega
      have HBq : Hid (Below w.heap.size w wr) := HB7.out.trans (HB.out.mono HB7.out.size)
      go_wp2
      go_ret
      exact ⟨rfl, HBq.out⟩
set_option maxHeartbeats 1000000 in
theorem out1 (A0 : Option Addr) (c0 k : Nat) (A1 : Option Addr) (c1 m : Nat) (w : World) (hk : k ≤ 9223372036854775807) (h : 50000 < k) :
    Calls Tryd.prog 5 #[.slice A0 k c0, .slice A1 m c1] w fun e w' => e = .returned (.bool true) ∧ Below w.heap.size w w' := by
  have d0 : decide ((50000 : Int) < (k : Int)) = true := decide_eq_true (by omega)
  have d1 : (k : Int) ≤ 9223372036854775807 := by omega
  go_enter Tryd.func5, Tryd.ntmps5
  go_wp2_with fail
  refine (alive_calls _).mono ?_
  rintro e w1 ⟨rfl, hB⟩
  have HB1 := Lib.hid hB
  clear hB
  go_wp2
  go_ret
  exact ⟨rfl, HB1.out⟩
set_option maxHeartbeats 1000000 in
theorem out2 (A0 : Option Addr) (c0 k : Nat) (A1 : Option Addr) (c1 m : Nat) (w : World) (hk : k ≤ 50000) (hm : m ≤ 9223372036854775807) (h : 50000 < m) :
    Calls Tryd.prog 5 #[.slice A0 k c0, .slice A1 m c1] w fun e w' => e = .returned (.bool true) ∧ Below w.heap.size w w' := by
  have d0 : decide ((50000 : Int) < (k : Int)) = false := decide_eq_false (by omega)
  have d1 : (k : Int) ≤ 50000 := by omega
  have d2 : decide ((50000 : Int) < (m : Int)) = true := decide_eq_true (by omega)
  have d3 : (m : Int) ≤ 9223372036854775807 := by omega
  go_enter Tryd.func5, Tryd.ntmps5
  go_wp2_with fail
  refine (alive_calls _).mono ?_
  rintro e w1 ⟨rfl, hB⟩
  have HB1 := Lib.hid hB
  clear hB
  go_wp2
  go_ret
  exact ⟨rfl, HB1.out⟩
set_option maxHeartbeats 1000000 in
theorem out3 (A0 : Option Addr) (c0 k : Nat) (A1 : Option Addr) (c1 m : Nat) (w : World) (hk : k ≤ 50000) (hm : m ≤ 50000) (h : k % 56 ≠ 0) :
    Calls Tryd.prog 5 #[.slice A0 k c0, .slice A1 m c1] w fun e w' => e = .returned (.bool true) ∧ Below w.heap.size w w' := by
  have d0 : decide ((50000 : Int) < (k : Int)) = false := decide_eq_false (by omega)
  have d1 : (k : Int) ≤ 50000 := by omega
  have d2 : decide ((50000 : Int) < (m : Int)) = false := decide_eq_false (by omega)
  have d3 : (m : Int) ≤ 50000 := by omega
  obtain ⟨z, hz⟩ : ∃ z, (k : Int) % 56 = z := ⟨_, rfl⟩
  have d4 : (k : Int).tmod 56 = z := by rw [Int.tmod_eq_emod_of_nonneg (by omega)]; exact hz
  have d5 : (z != 0) = true := bne_iff_ne.2 (by omega)
  have d6 : IntKind.i64.wrap z = z := IntWalk.i64_in _ (by omega)
  clear hz h
  go_enter Tryd.func5, Tryd.ntmps5
  go_wp2_with fail
  refine (alive_calls _).mono ?_
  rintro e w1 ⟨rfl, hB⟩
  have HB1 := Lib.hid hB
  clear hB
  go_wp2
  go_ret
  exact ⟨rfl, HB1.out⟩
end Go.Proofs.YtfkkhobbmcepmaaDoor.PartsWalk
namespace Go.Proofs.YtfkkhobbmcepmaaDoor.PNeedParts
open Go.RowKit Go.Proofs.YtfkkhobbmcepmaaDoorW.PrintWords Go.Proofs.YtfkkhobbmcepmaaDoorW.PrintLast Go.Proofs.YtfkkhobbmcepmaaDoorW.PrintMore Go.Proofs.YtfkkhobbmcepmaaDoor.Given Go.Proofs.YtfkkhobbmcepmaaDoor.PartsWalk
set_option linter.unusedVariables false
def morainelaw13_NeedParts.f (a b : List Int) : Option Bool := some true
theorem morainelaw13_NeedParts.calls (A0 : Option Addr) (c0 : Nat) (a : List Int) (A1 : Option Addr) (c1 : Nat) (b : List Int) (r : Bool) (w : World) (hC0 : Kd.C (Kd.int .u8) w A0 a.length a) (hc0 : a.length ≤ c0) (hC1 : Kd.C (Kd.int .u8) w A1 b.length b) (hc1 : b.length ≤ c1) (h : morainelaw13_NeedParts.f a b = some r) :
    Calls Tryd.prog 5 #[.slice A0 a.length c0, .slice A1 b.length c1] w fun e w' => e = .returned (.bool r) ∧ Below w.heap.size w w' := by
  cases h
  by_cases h1 : 50000 < a.length
  · exact out1 A0 c0 a.length A1 c1 b.length w hC0.2.1 h1
  · by_cases h2 : 50000 < b.length
    · exact out2 A0 c0 a.length A1 c1 b.length w (by omega) hC1.2.1 h2
    · by_cases h3 : a.length % 56 = 0
      · exact good A0 c0 a A1 c1 b (a.length / 56) w hC0 hc0 hC1 hc1 (by omega) (by omega) (by omega)
      · exact out3 A0 c0 a.length A1 c1 b.length w (by omega) (by omega) h3
end Go.Proofs.YtfkkhobbmcepmaaDoor.PNeedParts
namespace Go.Proofs.YtfkkhobbmcepmaaDoor.Pure
theorem NeedParts {P1 P2 : Prop} (a b : List Int) (_ : P1) (_ : P2) : PNeedParts.morainelaw13_NeedParts.f a b = some true := rfl
end Go.Proofs.YtfkkhobbmcepmaaDoor.Pure
