/- The walk of FileErrors: by hand (generrors17.py). -/
import Derived.Test.YthahdombnmkokaaDoorLawPartsW17
import Derived.Test.YthahdombnmkokaaDoorGivSto3
namespace Go.Proofs.YthahdombnmkokaaDoor.ErrorsW17
open Go.RowKit Go.Maps Go.Sort Go.Shelf Go.Proofs.YthahdombnmkokaaDoorW.PrintWords Go.Proofs.YthahdombnmkokaaDoorW.PrintLast Go.Proofs.YthahdombnmkokaaDoorW.PrintMore Go.Proofs.YthahdombnmkokaaDoor.Base Go.Proofs.YthahdombnmkokaaDoor.Given
set_option linter.unusedVariables false
set_option linter.unusedSimpArgs false
theorem first_bad : ∀ l : List Int, (∀ x ∈ l, okA x) ∨ ∃ j, j < l.length ∧ ¬ okA (l.getD j 0) ∧ ∀ x ∈ l.take j, okA x
  | [] => .inl (fun x h => absurd h (by simp))
  | x :: l => by
    by_cases hx : okA x
    · rcases first_bad l with h | ⟨j, h1, h2, h3⟩
      · exact .inl (fun y hy => (List.mem_cons.1 hy).elim (fun e => e ▸ hx) (h y))
      · exact .inr ⟨j + 1, by simpa using h1, by simpa using h2, fun y hy => by rw [List.take_succ_cons] at hy; exact (List.mem_cons.1 hy).elim (fun e => e ▸ hx) (h3 y)⟩
    · exact .inr ⟨0, by simp, by simpa using hx, fun y hy => absurd hy (by simp)⟩
def GoodN (size : Int) (l : List Int) : Prop := 0 ≤ size ∧ size ≤ 46368 ∧ l.length ≤ (size.toNat + 55) / 56 ∧ ∀ x ∈ l, okA x
set_option maxRecDepth 100000 in
set_option maxHeartbeats 4000000 in
theorem fnew_no (w : World) (size : Int) (A : Option Addr) (c : Nat) (l : List Int) (hC : Kd.C (Kd.int .i64) w A l.length l) (hl : l.length ≤ 1000) (ps : Nat) (hno : ¬ GoodN size l) :
    Calls Tryd.prog 9 #[.int .i64 size, .slice A l.length c, .iface 29 (.pointer (some ⟨ps, 0, none⟩))] w fun e w' => e = .returned (.tuple #[.pointer none, .int .i64 28]) ∧ Below w.heap.size w w' := by
  have hl2 : (l.length : Int) ≤ 1000 := by omega
  by_cases h1 : size < 0
  · have d0 : decide (size < 0) = true := decide_eq_true h1
    clear h1 hno
    go_enter Tryd.func9, Tryd.ntmps9
    go_wp2
    go_ret2
    exact ⟨rfl, Below.refl _ _⟩
  · have d0 : decide (size < 0) = false := decide_eq_false h1
    by_cases h2 : 46368 < size
    · have d1 : decide (46368 < size) = true := decide_eq_true h2
      clear h1 h2 hno
      go_enter Tryd.func9, Tryd.ntmps9
      go_wp2
      go_ret2
      exact ⟨rfl, Below.refl _ _⟩
    · have d1 : decide (46368 < size) = false := decide_eq_false h2
      obtain ⟨sz, rfl⟩ : ∃ k : Nat, size = (k : Int) := ⟨size.toNat, by omega⟩
      have hsz : sz ≤ 46368 := by omega
      have hs2 : (sz : Int) ≤ 46368 := by omega
      obtain ⟨nb, hnb⟩ : ∃ nb : Nat, nb = (sz + 55) / 56 := ⟨_, rfl⟩
      have hnb2 : (nb : Int) ≤ 829 := by omega
      have HNB := Lib.hid hnb
      have HSZ := Lib.hid hsz
      have HC := Lib.hid hC
      by_cases h3 : nb < l.length
      · have d2 : decide ((nb : Int) < (l.length : Int)) = true := decide_eq_true (by omega)
        have d3 : decide (nb < l.length) = true := decide_eq_true h3
        clear h1 h2 h3 hno hnb hsz hC
        go_enter Tryd.func9, Tryd.ntmps9
        go_wp2_with fail
        refine (nb_calls sz nb HSZ.out HNB.out w).mono ?_
        rintro e w1 ⟨rfl, hB⟩
        have HB1 := Lib.hid hB
        clear hB
        go_wp2
        go_ret2
        exact ⟨rfl, HB1.out⟩
      · have d2 : decide ((nb : Int) < (l.length : Int)) = false := decide_eq_false (by omega)
        have d3 : decide (nb < l.length) = false := decide_eq_false h3
        rcases first_bad l with hok | ⟨j, j1, j2, j3⟩
        · exact absurd ⟨by omega, by omega, by simp; omega, hok⟩ hno
        · have hl8 : l.length ≤ 828 := by omega
          have HJ : Hid (j < l.length ∧ ¬ okA (l.getD j 0) ∧ ∀ x ∈ l.take j, okA x) := ⟨j1, j2, j3⟩
          have HL8 := Lib.hid hl8
          clear h1 h2 h3 hno hnb hsz hC j1 j2 j3 hl8
          go_enter Tryd.func9, Tryd.ntmps9
          go_wp2_with fail
          refine (nb_calls sz nb HSZ.out HNB.out w).mono ?_
          rintro e w1 ⟨rfl, hB⟩
          have HB1 := Lib.hid hB
          have HC1 := Lib.hid (Kd.C_below HC.out hB)
          clear hB
          go_wp2_with fail
          refine (new_bad A c l w1 j HJ.out.1 HJ.out.2.1 HC1.out HL8.out HJ.out.2.2).mono ?_
          rintro e w2 ⟨rfl, hB⟩
          have HB2 : Hid (Below w.heap.size w w2) := HB1.out.trans (hB.mono HB1.out.size)
          clear hB
          go_wp2
          go_ret2
          exact ⟨rfl, HB2.out⟩
/-- What a call leaves: all well, or an error and the file as it was. -/
def EndE (q p bA bF N size : Nat) (a : Int → Option Int) (fr : Value) (w w' : World) (e : Ending) : Prop :=
  ∃ r, e = .returned (.int .i64 r) ∧ FT q bA bF w w' ∧ (r = 0 ∨ ((r = 28 ∨ r = 14) ∧ FX w' q p bA bF N size a (fun _ => none) fr))
theorem write_E {w : World} {q p bA bF N size : Nat} {a : Int → Option Int} {fr : Value} (h : FX w q p bA bF N size a (fun _ => none) fr) (hN : N < 900000) (hn1 : size ≤ 46368) {o : Int → Option (List Int)} (hT : Tells w q o) (at_ : Int) (A : Option Addr) (cp : Nat) (d : List Int) (hC : Kd.C (Kd.int .u8) w A d.length d) (hc : d.length ≤ cp) (hd : d.length ≤ 20000) :
    Calls Tryd.prog 10 #[.pointer (some ⟨q, 0, none⟩), .int .i64 at_, .slice A d.length cp] w fun e w' => EndE q p bA bF N size a fr w w' e := by
  by_cases hb : at_ < 0 ∨ 46368 < at_ ∨ 46368 - at_ < d.length
  · refine (write_bad q at_ A d.length cp w (by omega) hb).mono ?_
    rintro e w' ⟨rfl, rfl⟩
    exact ⟨_, rfl, FT.refl _ _ _ _, Or.inr ⟨Or.inl rfl, h⟩⟩
  · rcases Nat.eq_zero_or_pos d.length with hz | hp
    · obtain rfl : d = [] := List.eq_nil_of_length_eq_zero hz
      refine (show Calls _ _ #[_, _, .slice A 0 cp] w _ from write_none q at_ A cp w (by omega) (by omega)).mono ?_
      rintro e w' ⟨rfl, rfl⟩
      exact ⟨_, rfl, FT.refl _ _ _ _, Or.inl rfl⟩
    · obtain ⟨at0, rfl⟩ : ∃ at0 : Nat, at_ = (at0 : Int) := ⟨at_.toNat, by omega⟩
      refine (write_some h hN (by omega) (by omega) hT at0 A cp d hC hc hp (by omega)).mono ?_
      rintro e w' (⟨rfl, _, hB⟩ | ⟨rfl, _, hft⟩)
      · exact ⟨_, rfl, FT.below hB, Or.inr ⟨Or.inr rfl, h.below hB⟩⟩
      · exact ⟨_, rfl, hft, Or.inl rfl⟩
theorem trunc_E {w : World} {q p bA bF N size : Nat} {a : Int → Option Int} {fr : Value} (h : FX w q p bA bF N size a (fun _ => none) fr) (hN : N < 900000) {o : Int → Option (List Int)} (hT : Tells w q o) (m : Int) :
    Calls Tryd.prog 11 #[.pointer (some ⟨q, 0, none⟩), .int .i64 m] w fun e w' => EndE q p bA bF N size a fr w w' e := by
  by_cases hb : m < 0 ∨ 46368 < m
  · refine (trunc_bad q m w hb).mono ?_
    rintro e w' ⟨rfl, rfl⟩
    exact ⟨_, rfl, FT.refl _ _ _ _, Or.inr ⟨Or.inl rfl, h⟩⟩
  · obtain ⟨k, rfl⟩ : ∃ k : Nat, m = (k : Int) := ⟨m.toNat, by omega⟩
    refine (trunc_good h hN (fun _ hq => absurd rfl hq) hT k (by omega)).mono ?_
    rintro e w' (⟨rfl, _, hB⟩ | ⟨rfl, hft, _⟩)
    · exact ⟨_, rfl, FT.below hB, Or.inr ⟨Or.inr rfl, h.below hB⟩⟩
    · exact ⟨_, rfl, hft, Or.inl rfl⟩
theorem adr_get (l : List Int) (j : Nat) : (adr l (j : Int)).getD 0 = l.getD j 0 := by
  unfold adr
  by_cases h : (0 : Int) ≤ (j : Int) ∧ l.getD (j : Int).toNat 0 ≠ 0
  · rw [if_pos h, Option.getD_some, Int.toNat_natCast]
  · rw [if_neg h, Option.getD_none]
    rw [Int.toNat_natCast] at h
    exact (Classical.byContradiction fun hn => h ⟨by omega, fun hq => hn hq.symm⟩)
theorem adr_pos (l : List Int) (hok : ∀ x ∈ l, okA x) (k x : Int) (h : adr l k = some x) : 0 < x := by
  unfold adr at h
  by_cases e : 0 ≤ k ∧ l.getD k.toNat 0 ≠ 0
  · rw [if_pos e] at h
    have hv := Option.some.inj h
    have hlt : k.toNat < l.length := by
      by_cases q : k.toNat < l.length
      · exact q
      · exact absurd (by rw [List.getD_eq_getElem?_getD, List.getElem?_eq_none (by omega)]; rfl) e.2
    have hq := hok _ (List.getElem_mem hlt)
    have e2 : l.getD k.toNat 0 = l[k.toNat] := by rw [List.getD_eq_getElem?_getD, List.getElem?_eq_getElem hlt]; rfl
    have hz := e.2
    rw [e2] at hv hz
    unfold okA at hq
    omega
  · rw [if_neg e] at h; cases h
theorem rec_one {w : World} {x0 x1 x2 : Int} {A : Option Addr} {c : Nat} {D : List Int} (hC : Kd.C (Kd.int .u8) w A D.length D) (hc : D.length ≤ c) {N : Nat} (hN : w.heap.size = N) :
    Kd.C (kRec 5 .u8) (w.alloc (.cells #[.int .i64 x0, .int .i64 x1, .int .i64 x2, .slice A D.length c] 36)) (some ⟨N, 0, none⟩) [(x0, x1, x2, D)].length [(x0, x1, x2, D)] := by
  subst hN
  have hb := (Below.refl w.heap.size w).alloc (Nat.le_refl _) (.cells #[.int .i64 x0, .int .i64 x1, .int .i64 x2, .slice A D.length c] 36)
  refine ⟨rfl, by simp, fun _ => ⟨_, rfl, fun j r hj => ?_⟩⟩
  obtain rfl : j = 0 := by have := (List.getElem?_eq_some_iff.1 hj).1; simpa using this
  obtain rfl : (x0, x1, x2, D) = r := by simpa using hj
  refine ⟨[.int .i64 x0, .int .i64 x1, .int .i64 x2, .slice A D.length c], rfl, ⟨[_], [_, _, _], rfl, rfl, ⟨[_], [_, _], rfl, rfl, ⟨[_], [_], rfl, rfl, ⟨A, c, rfl, hc, Kd.C_below hC hb⟩⟩⟩⟩, fun i u hu => ?_⟩
  have hbk : (w.alloc (.cells #[.int .i64 x0, .int .i64 x1, .int .i64 x2, .slice A D.length c] 36)).heap[w.heap.size]? = some (.cells #[.int .i64 x0, .int .i64 x1, .int .i64 x2, .slice A D.length c] 36 (0, 0)) := heap_alloc_new w _
  rw [addr_add, Nat.zero_add, blk_cell hbk]
  match i, hu with
  | 0, hu => simp at hu; subst hu; rfl
  | 1, hu => simp at hu; subst hu; rfl
  | 2, hu => simp at hu; subst hu; rfl
  | 3, hu => simp at hu; subst hu; rfl
set_option maxRecDepth 100000 in
set_option maxHeartbeats 16000000 in
theorem walk (size : Int) (A0 : Option Addr) (c0 : Nat) (l : List Int) (A1 : Option Addr) (c1 : Nat) (R : List (List Int)) (x0 x1 x2 : Int) (A2 : Option Addr) (c2 : Nat) (D : List Int) (w : World) (hC0 : Kd.C (Kd.int .i64) w A0 l.length l) (hc0 : l.length ≤ c0) (hC1 : Kd.C kRow w A1 R.length R) (hc1 : R.length ≤ c1) (hC2 : Kd.C (Kd.int .u8) w A2 D.length D) (hc2 : D.length ≤ c2)
    (hs0 : l.length ≤ 140737488351232) (hs1 : R.length ≤ 140737488351232) (hb1 : ∀ r ∈ R, r.length ≤ 140737488351232) (hs2 : D.length ≤ 140737488351232) :
    Calls Tryd.prog 5 #[.int .i64 size, .slice A0 l.length c0, .slice A1 R.length c1, .agg #[.int .i64 x0, .int .i64 x1, .int .i64 x2, .slice A2 D.length c2]] w fun e w' => e = .returned (.bool true) ∧ Below w.heap.size w w' := by
  obtain ⟨b1, d1⟩ : ∃ b, decide (1000 < (l.length : Int)) = b := ⟨_, rfl⟩
  obtain ⟨b2, d2⟩ : ∃ b, decide (x0 < 1) = b := ⟨_, rfl⟩
  obtain ⟨b3, d3⟩ : ∃ b, decide (2 < x0) = b := ⟨_, rfl⟩
  have hb0 : Below w.heap.size w (w.alloc (.cells #[.int .i64 x0, .int .i64 x1, .int .i64 x2, .slice A2 D.length c2] 36)) := (Below.refl w.heap.size w).alloc (Nat.le_refl _) _
  have hbk : (w.alloc (.cells #[.int .i64 x0, .int .i64 x1, .int .i64 x2, .slice A2 D.length c2] 36)).heap[w.heap.size]? = some (.cells #[.int .i64 x0, .int .i64 x1, .int .i64 x2, .slice A2 D.length c2] 36 (0, 0)) := heap_alloc_new w _
  have HB0 := Lib.hid hb0
  have HBK := Lib.hid hbk
  have HC0 := Lib.hid hC0
  have HC1 := Lib.hid hC1
  have HC2 := Lib.hid hC2
  have HK0 := Lib.hid hc0
  have HK1 := Lib.hid hc1
  have HK2 := Lib.hid hc2
  have HS1 := Lib.hid hs1
  have HB1 := Lib.hid hb1
  have HS2 := Lib.hid hs2
  have hl2 : (l.length : Int) ≤ 140737488351232 := by omega
  clear hb0 hbk hC0 hC1 hC2 hc0 hc1 hc2 hs0 hs1 hb1 hs2
  go_enter Tryd.func5, Tryd.ntmps5
  go_wp2_with fail
  refine (alive_calls _).mono ?_
  rintro e w1 ⟨rfl, hB⟩
  have HBa := Lib.hid (HB0.out.trans (hB.mono HB0.out.size))
  have HBKa := Lib.hid (blk_below HBK.out hB)
  have e0 : w1.cell? ⟨w.heap.size, 0, none⟩ = some (.int .i64 x0) := (blk_cell HBKa.out 0).trans rfl
  have e1 : w1.cell? ⟨w.heap.size, 1, none⟩ = some (.int .i64 x1) := (blk_cell HBKa.out 1).trans rfl
  have e2 : w1.cell? ⟨w.heap.size, 2, none⟩ = some (.int .i64 x2) := (blk_cell HBKa.out 2).trans rfl
  have e3 : w1.cell? ⟨w.heap.size, 3, none⟩ = some (.slice A2 D.length c2) := (blk_cell HBKa.out 3).trans rfl
  have HC1a := Lib.hid (Kd.C_below HC1.out HBa.out)
  have HC2a := Lib.hid (Kd.C_below HC2.out HBa.out)
  clear hB HBK
  go_wp2_with fail
  have hbb := (Below.refl w1.heap.size w1).alloc (Nat.le_refl _) (.cells #[.int .i64 x0, .int .i64 x1, .int .i64 x2, .slice A2 D.length c2] 36)
  refine (great_calls (q := 5) A1 c1 R (some ⟨w1.heap.size, 0, none⟩) 1 [(x0, x1, x2, D)] _ (Kd.C_below HC1a.out hbb) HK1.out HS1.out HB1.out (rec_one HC2a.out HK2.out rfl) (by simp) (fun r hr => (List.mem_singleton.1 hr) ▸ HS2.out)).mono ?_
  rintro e w2 ⟨g, rfl, hg, hB⟩
  have hb2 := hbb.trans (hB.mono hbb.size)
  have HB2 : Hid (Below w.heap.size w w2) := HBa.out.trans (hb2.mono HBa.out.size)
  have HBK2 := Lib.hid (blk_below HBKa.out hb2)
  have f0 : w2.cell? ⟨w.heap.size, 0, none⟩ = some (.int .i64 x0) := (blk_cell HBK2.out 0).trans rfl
  have HG := Lib.hid hg
  clear hg hB hbb hb2 e0 e1 e2 e3 HC1a HC2a HBKa HBa HB0
  cases g with
  | true =>
    go_wp2
    go_ret
    exact ⟨rfl, HB2.out⟩
  | false =>
    cases b1 with
    | true =>
      go_wp2
      go_ret
      exact ⟨rfl, HB2.out⟩
    | false =>
      cases b2 with
      | true =>
        go_wp2
        go_ret
        exact ⟨rfl, HB2.out⟩
      | false =>
        cases b3 with
        | true =>
          go_wp2
          go_ret
          exact ⟨rfl, HB2.out⟩
        | false =>
          have HGG := Lib.hid (HG.out rfl)
          clear HG
          have hl1 : (l.length : Int) ≤ 1000 := by have := of_decide_eq_false d1; omega
          have hx0 : x0 = 1 ∨ x0 = 2 := by have := of_decide_eq_false d2; have := of_decide_eq_false d3; omega
          have HX0 := Lib.hid hx0
          have HC12 := Lib.hid (Kd.C_below HC1.out HB2.out)
          clear hx0 hl2
          go_wp2_with fail
          refine (source_calls A1 c1 R w2 HC12.out HK1.out HGG.out.1 HGG.out.2.1).mono ?_
          rintro e w3 ⟨ps, rfl, hSX, hB⟩
          have HB3 : Hid (Below w.heap.size w w3) := HB2.out.trans (hB.mono HB2.out.size)
          have HBK3 := Lib.hid (blk_below HBK2.out hB)
          have HSX := Lib.hid hSX
          have HC03 := Lib.hid (Kd.C_below HC0.out HB3.out)
          clear hSX hB HB2 HBK2 f0 HC12
          by_cases hno : ¬ GoodN size l
          · go_wp2_with fail
            refine (fnew_no w3 size A0 c0 l HC03.out (by omega) ps hno).mono ?_
            rintro e w4 ⟨rfl, hB⟩
            have HB4 : Hid (Below w.heap.size w w4) := HB3.out.trans (hB.mono HB3.out.size)
            clear hB
            go_wp2
            go_ret
            exact ⟨rfl, HB4.out⟩
          obtain ⟨s0, s1, s2, s3⟩ := Classical.not_not.1 hno
          clear hno
          obtain ⟨sz, rfl⟩ : ∃ k : Nat, size = (k : Int) := ⟨size.toNat, by omega⟩
          rw [Int.toNat_natCast] at s2
          have HSZ : Hid (sz ≤ 46368) := by show _ ≤ _; omega
          have HOK := Lib.hid s3
          have HSL := Lib.hid s2
          clear s0 s1 s2 s3
          go_wp2_with fail
          refine (fnew_ok w3 sz HSZ.out A0 c0 l HC03.out HSL.out HOK.out ps).mono ?_
          rintro e w4 ⟨q, p, bA, bF, rfl, hX, g1, g2, g3, g4, hB⟩
          have HB4 : Hid (Below w.heap.size w w4) := HB3.out.trans (hB.mono HB3.out.size)
          have HBK4 := Lib.hid (blk_below HBK3.out hB)
          have HX4 := Lib.hid hX
          have HSX4 := Lib.hid (HSX.out.below hB)
          have HQ : Hid (w.heap.size ≤ q ∧ w.heap.size ≤ bA ∧ w.heap.size ≤ bF) := by have := HB3.out.size; show _ ∧ _; omega
          have HC24 := Lib.hid (Kd.C_below HC2.out HB4.out)
          have HT4 := Lib.hid (tells_store hX (adr_pos l HOK.out) HSX4.out (by rw [ones_len, List.length_map]; exact Nat.le_refl _) (fun r hr => by obtain ⟨y, _, rfl⟩ := List.mem_map.1 hr; exact row56_len y) (by rw [ones_len]; have := HGG.out.1; omega))
          have k0 : w4.cell? ⟨w.heap.size, 0, none⟩ = some (.int .i64 x0) := (blk_cell HBK4.out 0).trans rfl
          have k1 : w4.cell? ⟨w.heap.size, 1, none⟩ = some (.int .i64 x1) := (blk_cell HBK4.out 1).trans rfl
          have k2 : w4.cell? ⟨w.heap.size, 2, none⟩ = some (.int .i64 x2) := (blk_cell HBK4.out 2).trans rfl
          have k3 : w4.cell? ⟨w.heap.size, 3, none⟩ = some (.slice A2 D.length c2) := (blk_cell HBK4.out 3).trans rfl
          clear hX g1 g2 g3 g4 hB HB3 HBK3 HSX HC03
          rcases HX0.out with hx0 | hx0
          · subst hx0
            go_wp2_with fail
            refine (write_E HX4.out (by omega) HSZ.out HT4.out x1 A2 c2 D HC24.out HK2.out (HGG.out.2.2.2 _ List.mem_cons_self)).mono ?_
            rintro e w5 ⟨rr, rfl, hft, hE⟩
            have HB5 := Lib.hid (hft.under HB4.out HQ.out)
            clear hft
            rcases hE with rfl | ⟨hr, hx5⟩
            · go_wp2
              go_ret
              exact ⟨rfl, HB5.out⟩
            have HX5 := Lib.hid hx5
            clear hx5
            rcases hr with rfl | rfl
            all_goals
              go_wp2_with fail
              refine (size_calls HX5.out).mono ?_
              rintro e w6 ⟨rfl, rfl⟩
              go_wp2_with fail
              refine (blocks_calls HX5.out).mono ?_
              rintro e w6 ⟨rfl, rfl⟩
              go_wp2_with fail
              refine (fresh_at HX5.out.bx.bm (by omega) (M := []) (Rises.nil (fun k h => h rfl))).mono ?_
              rintro e w6 ⟨A6, c6, rfl, hc6, hC6, hB⟩
              have HX6 := Lib.hid (HX5.out.below hB)
              have HB6 : Hid (Below w.heap.size w w6) := HB5.out.trans (hB.mono HB5.out.size)
              clear hc6 hC6 hB HX5 HB5
              go_wp2
              go_loopw [12] (fun i wr => ∃ j : Nat, j ≤ l.length ∧ i = .int .i64 j ∧ Hid (FX wr q p bA bF 828 (sz : Int) (adr l) (fun _ => none) (.iface 29 (.pointer (some ⟨ps, 0, none⟩)))) ∧ Hid (Below w.heap.size w wr)) (fun i _ => l.length - (intOf i).toNat)
              case atStart => exact ⟨0, Nat.zero_le _, rfl, HX6, HB6⟩
              case round =>
                clear HX6 HB6
                obtain ⟨j, hj, rfl, HXr, HBr⟩ := hrel
                rcases Nat.lt_or_ge j l.length with hlt | hge
                · have hlt2 : (j : Int) < (l.length : Int) := by omega
                  have hlt3 : (j : Int) ≤ 1000 := by omega
                  obtain ⟨g0, o0, rfl, hcl⟩ := addr_of_C8 HC0.out (by omega)
                  have hcell := hcl j hlt
                  have HAJ : Hid ((adr l (j : Int)).getD 0 = l.getD j 0) := adr_get l j
                  obtain ⟨y, hy⟩ : ∃ y, l.getD j 0 = y := ⟨_, rfl⟩
                  rw [hy] at hcell HAJ
                  have k0 := pw_cell_below (below_drew HBr.out) hcell
                  have HXd := Lib.hid (HXr.out.below (below_drew (Below.refl wr.heap.size wr)))
                  have HBd := Lib.hid (below_drew HBr.out)
                  have HKW : Hid ((Lit.int .i64 (j : Int)).wf = true) := wf_i (by omega) (by omega)
                  have HLT := Lib.hid hlt
                  clear hcl hcell hy hlt
                  go_wp2_with fail
                  go_region_held3 (fun w' => w'.cell? ⟨g0, o0 + j, none⟩ = some (.int .i64 y)) (first | exact k0 | go_keep) (first | (go_at_call 15; refine (blocks_calls HXd.out).mono ?_; rintro e w7 ⟨rfl, rfl⟩) | (go_at_call 20; refine (at_calls HXd.out.bx.bm (j : Int) HKW.out).mono ?_; rintro e w7 ⟨rfl, rfl⟩; rw [HAJ.out]))
                  all_goals
                    go_wp2
                    go_roundw
                    case rel => exact ⟨j + 1, HLT.out, by go_num, HXd, HBd⟩
                    case measure => have := HLT.out; simp [intOf]; omega
                · obtain rfl : j = l.length := by omega
                  go_wp2
                  go_ret
                  exact ⟨rfl, HBr.out⟩
          · subst hx0
            go_wp2_with fail
            refine (trunc_E HX4.out (by omega) HT4.out x2).mono ?_
            rintro e w5 ⟨rr, rfl, hft, hE⟩
            have HB5 := Lib.hid (hft.under HB4.out HQ.out)
            clear hft
            rcases hE with rfl | ⟨hr, hx5⟩
            · go_wp2
              go_ret
              exact ⟨rfl, HB5.out⟩
            have HX5 := Lib.hid hx5
            clear hx5
            rcases hr with rfl | rfl
            all_goals
              go_wp2_with fail
              refine (size_calls HX5.out).mono ?_
              rintro e w6 ⟨rfl, rfl⟩
              go_wp2_with fail
              refine (blocks_calls HX5.out).mono ?_
              rintro e w6 ⟨rfl, rfl⟩
              go_wp2_with fail
              refine (fresh_at HX5.out.bx.bm (by omega) (M := []) (Rises.nil (fun k h => h rfl))).mono ?_
              rintro e w6 ⟨A6, c6, rfl, hc6, hC6, hB⟩
              have HX6 := Lib.hid (HX5.out.below hB)
              have HB6 : Hid (Below w.heap.size w w6) := HB5.out.trans (hB.mono HB5.out.size)
              clear hc6 hC6 hB HX5 HB5
              go_wp2
              go_loopw [12] (fun i wr => ∃ j : Nat, j ≤ l.length ∧ i = .int .i64 j ∧ Hid (FX wr q p bA bF 828 (sz : Int) (adr l) (fun _ => none) (.iface 29 (.pointer (some ⟨ps, 0, none⟩)))) ∧ Hid (Below w.heap.size w wr)) (fun i _ => l.length - (intOf i).toNat)
              case atStart => exact ⟨0, Nat.zero_le _, rfl, HX6, HB6⟩
              case round =>
                clear HX6 HB6
                obtain ⟨j, hj, rfl, HXr, HBr⟩ := hrel
                rcases Nat.lt_or_ge j l.length with hlt | hge
                · have hlt2 : (j : Int) < (l.length : Int) := by omega
                  have hlt3 : (j : Int) ≤ 1000 := by omega
                  obtain ⟨g0, o0, rfl, hcl⟩ := addr_of_C8 HC0.out (by omega)
                  have hcell := hcl j hlt
                  have HAJ : Hid ((adr l (j : Int)).getD 0 = l.getD j 0) := adr_get l j
                  obtain ⟨y, hy⟩ : ∃ y, l.getD j 0 = y := ⟨_, rfl⟩
                  rw [hy] at hcell HAJ
                  have k0 := pw_cell_below (below_drew HBr.out) hcell
                  have HXd := Lib.hid (HXr.out.below (below_drew (Below.refl wr.heap.size wr)))
                  have HBd := Lib.hid (below_drew HBr.out)
                  have HKW : Hid ((Lit.int .i64 (j : Int)).wf = true) := wf_i (by omega) (by omega)
                  have HLT := Lib.hid hlt
                  clear hcl hcell hy hlt
                  go_wp2_with fail
                  go_region_held3 (fun w' => w'.cell? ⟨g0, o0 + j, none⟩ = some (.int .i64 y)) (first | exact k0 | go_keep) (first | (go_at_call 15; refine (blocks_calls HXd.out).mono ?_; rintro e w7 ⟨rfl, rfl⟩) | (go_at_call 20; refine (at_calls HXd.out.bx.bm (j : Int) HKW.out).mono ?_; rintro e w7 ⟨rfl, rfl⟩; rw [HAJ.out]))
                  all_goals
                    go_wp2
                    go_roundw
                    case rel => exact ⟨j + 1, HLT.out, by go_num, HXd, HBd⟩
                    case measure => have := HLT.out; simp [intOf]; omega
                · obtain rfl : j = l.length := by omega
                  go_wp2
                  go_ret
                  exact ⟨rfl, HBr.out⟩
end Go.Proofs.YthahdombnmkokaaDoor.ErrorsW17
namespace Go.Proofs.YthahdombnmkokaaDoor.PFileErrors
open Go.RowKit Go.Proofs.YthahdombnmkokaaDoorW.PrintWords Go.Proofs.YthahdombnmkokaaDoorW.PrintLast Go.Proofs.YthahdombnmkokaaDoorW.PrintMore Go.Proofs.YthahdombnmkokaaDoor.Base Go.Proofs.YthahdombnmkokaaDoor.Given
set_option linter.unusedVariables false
def Fits (l : List Int) (R : List (List Int)) (D : List Int) : Prop := l.length ≤ 140737488351232 ∧ R.length ≤ 140737488351232 ∧ (∀ r ∈ R, r.length ≤ 140737488351232) ∧ D.length ≤ 140737488351232
noncomputable def morainelaw17_FileErrors.f (_ : Int) (l : List Int) (R : List (List Int)) (_ _ _ : Int) (D : List Int) : Option Bool := @ite _ (Fits l R D) (Classical.propDecidable _) (some true) none
theorem morainelaw17_FileErrors.calls (size : Int) (A0 : Option Addr) (c0 : Nat) (l : List Int) (A1 : Option Addr) (c1 : Nat) (R : List (List Int)) (x0 x1 x2 : Int) (A2 : Option Addr) (c2 : Nat) (D : List Int) (r : Bool) (w : World) (hC0 : Kd.C (Kd.int .i64) w A0 l.length l) (hc0 : l.length ≤ c0) (hC1 : Kd.C kRow w A1 R.length R) (hc1 : R.length ≤ c1) (hC2 : Kd.C (Kd.int .u8) w A2 D.length D) (hc2 : D.length ≤ c2) (h : morainelaw17_FileErrors.f size l R x0 x1 x2 D = some r) :
    Calls Tryd.prog 5 #[.int .i64 size, .slice A0 l.length c0, .slice A1 R.length c1, .agg #[.int .i64 x0, .int .i64 x1, .int .i64 x2, .slice A2 D.length c2]] w fun e w' => e = .returned (.bool r) ∧ Below w.heap.size w w' := by
  unfold morainelaw17_FileErrors.f at h
  by_cases hf : Fits l R D
  · rw [if_pos hf] at h
    cases h
    exact ErrorsW17.walk size A0 c0 l A1 c1 R x0 x1 x2 A2 c2 D w hC0 hc0 hC1 hc1 hC2 hc2 hf.1 hf.2.1 hf.2.2.1 hf.2.2.2
  · rw [if_neg hf] at h
    cases h
end Go.Proofs.YthahdombnmkokaaDoor.PFileErrors
namespace Go.Proofs.YthahdombnmkokaaDoor.Pure
open Go.Proofs.YthahdombnmkokaaDoor.PFileErrors Go.Proofs.YthahdombnmkokaaDoor.Given
set_option linter.unusedVariables false
theorem FileErrors {P1 P2 P3 : Prop} (size : Int) (l : List Int) (R : List (List Int)) (x0 x1 x2 : Int) (D : List Int) (_ : P1) (_ : P2) (h2 : l.length * 8 ≤ 140737488351232) (_ : P3) (h3 : R.length * 24 ≤ 140737488351232) (h4 : ∀ r ∈ R, r.length ≤ 140737488351232) (h5 : D.length ≤ 140737488351232) : morainelaw17_FileErrors.f size l R x0 x1 x2 D = some true :=
  if_pos ⟨by omega, by omega, h4, h5⟩
end Go.Proofs.YthahdombnmkokaaDoor.Pure
