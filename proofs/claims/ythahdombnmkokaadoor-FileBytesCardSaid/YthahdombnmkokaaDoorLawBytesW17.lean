/- The walk of FileBytes: by hand (genbytes17.py). -/
import Derived.Test.YthahdombnmkokaaDoorHFils2
import Derived.Laws.Tables
namespace Go.Proofs.YthahdombnmkokaaDoor.BytesW17
open Go.RowKit Go.Maps Go.Sort Go.Shelf Go.Proofs.YthahdombnmkokaaDoorW.PrintWords Go.Proofs.YthahdombnmkokaaDoorW.PrintLast Go.Proofs.YthahdombnmkokaaDoorW.PrintMore Go.Proofs.YthahdombnmkokaaDoor.Base Go.Proofs.YthahdombnmkokaaDoor.Given
set_option linter.unusedVariables false
set_option linter.unusedSimpArgs false
theorem under {q bA bF : Nat} {w w0 w1 : World} (k : FT q bA bF w0 w1) (hb : Below w.heap.size w w0) (hg : w.heap.size ≤ q ∧ w.heap.size ≤ bA ∧ w.heap.size ≤ bF) : Below w.heap.size w w1 :=
  hb.trans (k.tr.from_ hb.size (by rintro b (rfl | rfl | rfl); exact hg.2.1; exact hg.2.2; exact hg.1))
theorem sameB_at (A0 : Option Addr) (c0 : Nat) (A1 : Option Addr) (c1 : Nat) (M : List Int) (w : World) (hM : M.length ≤ 1000000) (h0 : Kd.C (Kd.int .u8) w A0 M.length M) (hc0 : M.length ≤ c0) (h1 : Kd.C (Kd.int .u8) w A1 M.length M) (hc1 : M.length ≤ c1) :
    Calls Tryd.prog 13 #[.slice A0 M.length c0, .slice A1 M.length c1] w fun e w' => e = .returned (.bool true) ∧ Below w.heap.size w w' := by
  refine (moraineref00_SameBytes.calls (M.length + 1) A0 c0 M A1 c1 M true w h0 hc0 h1 hc1 (by rw [same_eq M M (by omega) _ (by omega)]; simp)).mono ?_
  rintro e w' ⟨rfl, hd⟩
  obtain ⟨nd, rfl⟩ := hd
  exact ⟨rfl, pw_below_drewN (Below.refl _ _) nd⟩
theorem off_new {w : World} {base : Nat} {ok : Nat → Prop} {v : Value} {xs : List Int} (h : Kd.R (Kd.int .u8) 5 w base ok v xs) : ∀ b, w.heap.size ≤ b → Off v b := fun b hb e => by have := (own8_lt h b e.symm).2; omega
theorem box_ne {w : World} {base : Nat} {ok : Nat → Prop} {v : Value} {xs : List Int} (h : Kd.R (Kd.int .u8) 5 w base ok v xs) {i : Nat} {cs : Array Value} (hi : w.heap[i]? = some (.cells cs 36 (0, 0))) : some i ≠ v.ownBlock := fun e => by
  obtain ⟨cs', hc⟩ := own8_typed h i e.symm
  rw [hi] at hc
  injection hc with hc
  injection hc with _ hc
  exact absurd hc (by decide)
theorem off_cut {A : Option Addr} {n m c : Nat} {b : Nat} (h : Off (.slice A n c) b) : Off (.slice A m c) b := by
  unfold Off at h ⊢
  cases A with
  | none => simp [Value.ownBlock]
  | some a => simpa [Value.ownBlock] using h
theorem zero_of {G : Nat → Prop} {w : World} {q p bA bF N n : Nat} {c : Nat → Int} {fr : Value} (h : FS G w q p bA bF N n c fr) : Hid (∀ k, n ≤ k → c k = 0) := by
  obtain ⟨f, hx, hi⟩ := h
  exact hi.zero
def lenV : Value → Nat
  | .slice _ n _ => n
  | _ => 0
/-- The box of a call. -/
abbrev bx (x0 x1 x2 : Int) (A : Option Addr) (n c : Nat) : Array Value := #[.int .i64 x0, .int .i64 x1, .int .i64 x2, .slice A n c]
set_option maxRecDepth 100000 in
set_option maxHeartbeats 16000000 in
theorem walk {qt : TypeId} (A0 : Option Addr) (c0 : Nat) (t : List Rec3) (w : World) (hC : Kd.C (kRec qt .u8) w A0 t.length t) (hc : t.length ≤ c0) (hs : t.length ≤ 140737488351232) (hb : ∀ r ∈ t, r.2.2.2.length ≤ 140737488351232) :
    Calls Tryd.prog 3 #[.slice A0 t.length c0] w fun e w' => e = .returned (.bool true) ∧ Below w.heap.size w w' := by
  have HC := Lib.hid hC
  have HS := Lib.hid hs
  have HBB := Lib.hid hb
  have hl2 : (t.length : Int) ≤ 140737488351232 := by omega
  clear hC hs hb
  go_enter Tryd.func3, Tryd.ntmps3
  go_wp2_with fail
  refine (alive_calls _).mono ?_
  rintro e w1 ⟨rfl, hB⟩
  have HB1 := Lib.hid hB
  have HC1 := Lib.hid (Kd.C_below HC.out hB)
  clear hB
  go_wp2_with fail
  refine (great_nil A0 c0 t w1 HC1.out HS.out HBB.out).mono ?_
  rintro e w2 ⟨g, rfl, hg, hB⟩
  have HB2 : Hid (Below w.heap.size w w2) := HB1.out.trans (hB.mono HB1.out.size)
  have HG := Lib.hid hg
  clear hg hB HC1 HB1
  cases g with
  | true =>
    go_wp2
    go_ret
    exact ⟨rfl, HB2.out⟩
  | false =>
    have HGG := Lib.hid (HG.out rfl)
    clear HG
    go_wp2_with fail
    refine (fnew_S (G := fun _ => True) _ _).mono ?_
    rintro e w3 ⟨q, p, bA, bF, rfl, hS, g1, g2, g3, g4, hB⟩
    have HB3 : Hid (Below w.heap.size w w3) := (HB2.out.alloc HB2.out.size _).trans (hB.mono (by have := HB2.out.size; simp; omega))
    have HS3 := Lib.hid hS
    have HQ : Hid (w.heap.size ≤ q ∧ w.heap.size ≤ bA ∧ w.heap.size ≤ bF) := by have := HB2.out.size; simp at g1 g3 g4; show _ ∧ _; omega
    clear hS g1 g2 g3 g4 hB
    go_wp2_with ((with_reducible refine gate_dst (N := 33) rfl ?_); refine Kd.R_lit (Kd.int .u8) (w0 := w3) w3.heap.size 5 ?hg (N := 33) ?hd (xs := ([] : List Int)) (inner := []) (ok := fun _ => True) (okp := fun _ => True) ?hr ?hp (fun _ hk => hk) trivial (Below.refl _ _) (Nat.le_refl _) (by simp) ?_; (case hd => rfl); (case hg => rfl); (case hr => first | (go_simp; done) | (go_simp; rfl)); (case hp => exact (Reps.none _ _)); intro v4 w4 ho hb4 hg_ hnew_; have HR4 := Lib.hid (Kd.R_lower ho HB3.out.size); have HB4 : Hid (Below w.heap.size w w4) := HB3.out.trans (hb4.mono HB3.out.size); have HS4 : Hid (FS (Off v4) w4 q p bA bF 828 0 (fun _ => 0) (.iface 29 (.pointer (some ⟨w2.heap.size, 0, none⟩)))) := (HS3.out.reg (fun b hb _ e => by have := (own8_lt ho b e.symm).1; omega)).below hb4; clear ho hb4 hg_ hnew_)
    go_loopw [5, 6] (fun v i wr => ∃ (j n : Nat) (c : Nat → Int), j ≤ t.length ∧ i = .int .i64 j ∧ Hid (FS (Off v) wr q p bA bF (828 + 829 * j) n c (.iface 29 (.pointer (some ⟨w2.heap.size, 0, none⟩)))) ∧ Hid (∀ k, n ≤ k → c k = 0) ∧ Hid (Kd.R (Kd.int .u8) 5 wr w.heap.size (fun _ => True) v (listC c 0 n)) ∧ Hid (Below w.heap.size w wr)) (fun _ i _ => (1000 - intOf i).toNat)
    case atStart => exact ⟨0, 0, _, by omega, rfl, HS4, Lib.hid (fun _ _ => rfl), HR4, HB4⟩
    case round =>
      clear HS3 HB3 HB2 HS4 HR4 HB4
      obtain ⟨j, n, c, hj, rfl, HSr, HZ, HR, HB⟩ := hrel
      have hl3 : (t.length : Int) ≤ 60 := by have := HGG.out.1; omega
      rcases Nat.lt_or_ge j t.length with hlt | hge
      · have hlt2 : (j : Int) < (t.length : Int) := by omega
        obtain ⟨g0, o0, rfl, hcell⟩ := rec_of_C HC.out (by omega)
        have hjl := List.getElem?_eq_getElem hlt
        obtain ⟨r, hr⟩ : ∃ r, t[j] = r := ⟨_, rfl⟩
        rw [hr] at hjl
        have hrm : r ∈ t := hr ▸ List.getElem_mem hlt
        obtain ⟨Ad, cd, k0, k1, k2, k3, k4, k5⟩ := hcell j r hjl
        have HCD := Lib.hid k5
        have HLD := Lib.hid k4
        have HLD2 := Lib.hid (HGG.out.2 r hrm)
        have HLT := Lib.hid hlt
        have e0 := pw_cell_below HB.out k0
        have e1 := pw_cell_below HB.out k1
        have e2 := pw_cell_below HB.out k2
        have e3 := pw_cell_below HB.out k3
        obtain ⟨x0, h0⟩ : ∃ x, r.1 = x := ⟨_, rfl⟩
        obtain ⟨x1, h1⟩ : ∃ x, r.2.1 = x := ⟨_, rfl⟩
        obtain ⟨x2, h2⟩ : ∃ x, r.2.2.1 = x := ⟨_, rfl⟩
        obtain ⟨D, h3⟩ : ∃ x, r.2.2.2 = x := ⟨_, rfl⟩
        rw [h0] at e0
        rw [h1] at e1
        rw [h2] at e2
        rw [h3] at e3 HCD HLD HLD2
        clear hcell hjl hr hrm k0 k1 k2 k3 k4 k5 h0 h1 h2 h3 hlt
        obtain ⟨bb, hbb⟩ : ∃ b, b = wr.heap.size := ⟨_, rfl⟩
        have hb5 := (Below.refl wr.heap.size wr).alloc (Nat.le_refl _) (.cells #[.int .i64 x0, .int .i64 x1, .int .i64 x2, .slice Ad D.length cd] 36)
        have HS5 := Lib.hid (HSr.out.below hb5)
        have HR5 := Lib.hid (Kd.R_below HR.out hb5)
        have HB5 : Hid (Below w.heap.size w (wr.alloc (.cells #[.int .i64 x0, .int .i64 x1, .int .i64 x2, .slice Ad D.length cd] 36))) := HB.out.trans (hb5.mono HB.out.size)
        have HK5 : Hid ((wr.alloc (.cells #[.int .i64 x0, .int .i64 x1, .int .i64 x2, .slice Ad D.length cd] 36)).heap[bb]? = some (.cells (bx x0 x1 x2 Ad D.length cd) 36 (0, 0))) := by rw [hbb]; exact heap_alloc_new wr _
        have HLn := Lib.hid HSr.out.le
        have HBBQ := Lib.hid hbb
        have hdl : (D.length : Int) ≤ 20000 := by have := HLD2.out; omega
        clear hb5 HSr HR HB hbb
        by_cases w1_ : x0 = 1
        · subst w1_
          by_cases u1 : 3000 < x1 ∧ x1 ≤ 46368
          · have y1 : decide (3000 < x1) = true := decide_eq_true u1.1
            have y2 : decide (x1 ≤ 46368) = true := decide_eq_true u1.2
            clear u1
            go_wp2
            go_ret
            exact ⟨rfl, HB5.out⟩
          have HU := Lib.hid u1
          obtain ⟨q1, y1⟩ : ∃ b, decide (3000 < x1) = b := ⟨_, rfl⟩
          have y2 : q1 = true → decide (x1 ≤ 46368) = false := fun h => decide_eq_false (fun h2 => u1 ⟨of_decide_eq_true (y1.trans h), h2⟩)
          have HY2 := Lib.hid y2
          clear u1 y2
          have hcall := Lib.hid (write_S HS5.out (by omega) x1 Ad cd D (Kd.C_below HCD.out HB5.out) HLD.out (by have := HLD2.out; omega) (off_new HR5.out))
          cases q1 with
          | true =>
            have y2 := HY2.out rfl
            go_wp2_with fail
            rw [← HBBQ.out]
            refine hcall.out.mono ?_
            clear hcall
            rintro e w6 (⟨hbad, rfl, rfl⟩ | ⟨ha0, ha1, rfl, hft, hs6⟩)
            · have f0 := (blk_cell HK5.out 0).trans (rfl : _ = some (Value.int .i64 1))
              have f1 := (blk_cell HK5.out 1).trans (rfl : _ = some (Value.int .i64 x1))
              have f3 := (blk_cell HK5.out 3).trans (rfl : _ = some (Value.slice Ad D.length cd))
              have v1 : decide (0 ≤ x1) = true ∧ decide (x1 ≤ 3000) = false ∨ decide (0 ≤ x1) = false := by
                by_cases h : 0 ≤ x1
                · exact Or.inl ⟨decide_eq_true h, decide_eq_false (by have := HLD2.out; omega)⟩
                · exact Or.inr (decide_eq_false h)
              clear hbad
              rcases v1 with ⟨v1, v2⟩ | v1
              all_goals
                go_wp2
                go_roundw
                case rel => exact ⟨j + 1, n, c, HLT.out, by go_num, HS5.out.mono (by omega), HZ, HR5, HB5⟩
                case measure => simp [intOf]; omega
            · exact absurd ⟨of_decide_eq_true y1, by omega⟩ HU.out
          | false =>
            go_wp2_with fail
            rw [← HBBQ.out]
            refine hcall.out.mono ?_
            clear hcall
            rintro e w6 (⟨hbad, rfl, rfl⟩ | ⟨ha0, ha1, rfl, hft, hs6⟩)
            · have f0 := (blk_cell HK5.out 0).trans (rfl : _ = some (Value.int .i64 1))
              have f1 := (blk_cell HK5.out 1).trans (rfl : _ = some (Value.int .i64 x1))
              have f3 := (blk_cell HK5.out 3).trans (rfl : _ = some (Value.slice Ad D.length cd))
              have v1 : decide (0 ≤ x1) = true ∧ decide (x1 ≤ 3000) = false ∨ decide (0 ≤ x1) = false := by
                by_cases h : 0 ≤ x1
                · exact Or.inl ⟨decide_eq_true h, decide_eq_false (by have := HLD2.out; omega)⟩
                · exact Or.inr (decide_eq_false h)
              clear hbad
              rcases v1 with ⟨v1, v2⟩ | v1
              all_goals
                go_wp2
                go_roundw
                case rel => exact ⟨j + 1, n, c, HLT.out, by go_num, HS5.out.mono (by omega), HZ, HR5, HB5⟩
                case measure => simp [intOf]; omega
            · obtain ⟨at0, rfl⟩ : ∃ k : Nat, x1 = (k : Int) := ⟨x1.toNat, by omega⟩
              rw [Int.toNat_natCast] at hs6
              have hat3 : (at0 : Int) ≤ 3000 := by have := of_decide_eq_false y1; omega
              obtain ⟨n2, hn2⟩ : ∃ n2, n2 = if D.length = 0 then n else max n (at0 + D.length) := ⟨_, rfl⟩
              obtain ⟨c2, hc2⟩ : ∃ c2, c2 = wrC c at0 D := ⟨_, rfl⟩
              rw [← hn2, ← hc2] at hs6
              have HS6 := Lib.hid hs6
              have HR6 := Lib.hid (hft.r8 HS5.out HR5.out)
              have HB6 := Lib.hid (under hft HB5.out HQ.out)
              have HK6 := Lib.hid (hft.box HS5.out HK5.out (by decide))
              have HN2 := Lib.hid hn2
              have HC2 := Lib.hid hc2
              clear hn2 hc2 hs6 hft ha0 ha1 HS5 HR5 HB5 HK5 HU HY2 y1
              go_wp2
              go_loopw [5] (fun v wr => ∃ z : Nat, (z = 0 ∨ n + z ≤ at0 + D.length) ∧ (D.length = 0 → z = 0) ∧ Hid (FS (Off v) wr q p bA bF (828 + 829 * j + 829) n2 c2 (.iface 29 (.pointer (some ⟨w2.heap.size, 0, none⟩)))) ∧ Hid (Kd.R (Kd.int .u8) 5 wr w.heap.size (fun _ => True) v (padz c n z)) ∧ Hid (Below w.heap.size w wr) ∧ Hid (wr.heap[bb]? = some (.cells (bx 1 at0 x2 Ad D.length cd) 36 (0, 0)))) (fun v _ => 100000 - lenV v)
              case atStart => exact ⟨0, Or.inl rfl, fun _ => rfl, HS6, Lib.hid (by rw [padz_zero]; exact HR6.out), HB6, HK6⟩
              case round =>
                clear HS6 HR6 HB6 HK6
                obtain ⟨z, hz, hz0, HS7, HR7, HB7, HK7⟩ := hrel
                have f0 := (blk_cell HK7.out 0).trans (rfl : _ = some (Value.int .i64 1))
                have f1 := (blk_cell HK7.out 1).trans (rfl : _ = some (Value.int .i64 (at0 : Int)))
                have f3 := (blk_cell HK7.out 3).trans (rfl : _ = some (Value.slice Ad D.length cd))
                have hpl := padz_len c n z
                obtain ⟨M, hM⟩ : ∃ M, M = padz c n z := ⟨_, rfl⟩
                rw [← hM] at HR7 hpl
                have HM := Lib.hid hM
                obtain ⟨Am, cm, rfl⟩ := Kd.R_slice HR7.out
                have hMl : (M.length : Int) ≤ 70000 := by have := HLn.out; omega
                have HPL := Lib.hid hpl
                have HZZ := Lib.hid hz
                have HZ0 := Lib.hid hz0
                clear hM hpl
                by_cases hgo : 0 < D.length ∧ M.length < at0 + D.length
                · have v1 : decide (0 < (D.length : Int)) = true := decide_eq_true (by omega)
                  have v1' : decide (0 < D.length) = true := decide_eq_true (by omega)
                  have v2 : decide ((M.length : Int) < (at0 : Int) + (D.length : Int)) = true := decide_eq_true (by omega)
                  have HGO := Lib.hid hgo
                  clear hgo hz hz0
                  obtain ⟨M8, hM8⟩ : ∃ M8, M8 = M ++ [0] := ⟨_, rfl⟩
                  have HLM8 : Hid (M8.length = M.length + 1 ∧ M.length < 100000) := by { refine ⟨?_, by omega⟩; rw [hM8, List.length_append]; rfl }
                  have HM8 := Lib.hid hM8
                  clear hM8
                  go_wp2_with ((with_reducible refine gate_builtin (b := .append) (xs := #[.tmp 96, .tmp 97]) rfl ?_); at_builtin; refine Kd.R_append (Kd.int .u8) (w0 := w) w.heap.size rfl (.tmp 96) (.tmp 97) 34 5 (.int .u8 0) 1 rfl Tryd.underlying34 infoB1 rfl (by decide) (by decide) _ M 0 [.int .u8 0] (fun _ => True) (fun _ => False) rfl rfl ?aP (fun _ hk => hk.elim) ?aF ?aO ?aB ?aS ?aL ?_; (case aP => exact rfl); (case aF => exact (fun _ _ => trivial)); (case aO => exact HR7.out); (case aB => exact HB7.out); (case aS => exact HB7.out.size); (case aL => omega); intro v8 w8 ho hb hg hat; have HS8 := Lib.hid (HS7.out.append (own8_typed HR7.out) hg hat); have HK8 := Lib.hid (blk_grown HK7.out hg (box_ne HR7.out HK7.out)); have HB8 := Lib.hid hb; rw [← HM8.out] at ho; obtain ⟨A8, c8, rfl⟩ := Kd.R_slice ho; have HR8 := Lib.hid ho; clear ho hb hg hat)
                  go_roundw
                  case rel => exact ⟨z + 1, Or.inr (by have := HGO.out.2; have := HPL.out; omega), fun h => by have := HGO.out.1; omega, HS8, Lib.hid (by rw [padz_succ, ← HM.out, ← HM8.out]; exact HR8.out), HB8, HK8⟩
                  case measure => have := HLM8.out; show 100000 - lenV _ < 100000 - lenV _; simp [lenV]; omega
                · have HSP : Hid (splice (padz c n z) at0 (D.take D.length) = listC c2 0 n2) := by
                    show _ = _
                    rcases Nat.eq_zero_or_pos D.length with h0 | h0
                    · obtain rfl : D = [] := List.eq_nil_of_length_eq_zero h0
                      have e := HZ0.out rfl
                      have e2 : n2 = n := by rw [HN2.out]; exact if_pos List.length_nil
                      rw [e, HC2.out, e2, padz_zero, wrC_nil _ _ _ rfl]
                      simp [splice]
                    · have e : n2 = max n (at0 + D.length) := by rw [HN2.out, if_neg (by omega)]
                      rw [e, HC2.out]
                      exact splice_all c n z at0 D HZ.out (by have := HPL.out; rcases HZZ.out with h | h <;> omega)
                  have HNO := Lib.hid hgo
                  have HFIT : Hid (0 < D.length → at0 + D.length ≤ M.length) := fun h => by omega
                  obtain ⟨b1, v1⟩ : ∃ b, decide (0 < (D.length : Int)) = b := ⟨_, rfl⟩
                  have v1' : decide (0 < D.length) = b1 := by rw [← v1]; exact decide_eq_decide.2 (by omega)
                  have v2 : b1 = true → decide ((M.length : Int) < (at0 : Int) + (D.length : Int)) = false := fun h => decide_eq_false (by have := of_decide_eq_true (v1.trans h); omega)
                  have HV2 := Lib.hid v2
                  clear hgo hz hz0 v2
                  cases b1 with
                  | false =>
                    have hD0 : D.length = 0 := by have := of_decide_eq_false v1'; omega
                    obtain rfl : D = [] := List.eq_nil_of_length_eq_zero hD0
                    have v3 : decide ((0 : Int) < ((List.length ([] : List Int) : Nat) : Int)) = false := rfl
                    clear v1 v1'
                    go_wp2
                    go_loopw [9] (fun k wr => k = .int .i64 0 ∧ Hid (FS (Off (.slice Am M.length cm)) wr q p bA bF (828 + 829 * j + 829) n2 c2 (.iface 29 (.pointer (some ⟨w2.heap.size, 0, none⟩)))) ∧ Hid (Kd.R (Kd.int .u8) 5 wr w.heap.size (fun _ => True) (.slice Am M.length cm) M) ∧ Hid (Below w.heap.size w wr) ∧ Hid (wr.heap[bb]? = some (.cells (bx 1 at0 x2 Ad 0 cd) 36 (0, 0)))) (fun _ _ => 0)
                    case atStart => exact ⟨rfl, HS7, HR7, HB7, HK7⟩
                    case round =>
                      clear HS7 HR7 HB7 HK7 f0 f1 f3
                      obtain ⟨rfl, HS7, HR7, HB7, HK7⟩ := hrel
                      have f0 := (blk_cell HK7.out 0).trans (rfl : _ = some (Value.int .i64 1))
                      have f3 := (blk_cell HK7.out 3).trans (rfl : _ = some (Value.slice Ad 0 cd))
                      have HME : Hid (M = listC c2 0 n2) := by
                        have e := HSP.out
                        show _ = _
                        rw [← e, ← HM.out]
                        simp [splice]
                      go_wp2
                      go_roundw
                      case rel => exact ⟨j + 1, n2, c2, HLT.out, by go_num, HS7.out.mono (by omega), zero_of HS7.out, Lib.hid (by rw [← HME.out]; exact HR7.out), HB7⟩
                      case measure => simp [intOf]; omega
                  | true =>
                    have hD0 : 0 < D.length := of_decide_eq_true v1'
                    have v2 := HV2.out rfl
                    have hM0 : 0 < M.length := by have := HFIT.out hD0; omega
                    obtain ⟨ga, cur, rfl, _, _, _, hgac, _, _⟩ := R_open HR7.out hM0
                    have HGA : Hid (∃ cs, wr.heap[ga]? = some (.cells cs 5 (0, 0))) := ⟨_, hgac⟩
                    have HF2 := Lib.hid (HFIT.out hD0)
                    have HD0 := Lib.hid hD0
                    clear hgac hM0
                    go_wp2
                    go_loopw [9] (fun k wr => ∃ i : Nat, i ≤ D.length ∧ k = .int .i64 i ∧ Hid (FS (Off (.slice (some ⟨ga, 0, none⟩) M.length cm)) wr q p bA bF (828 + 829 * j + 829) n2 c2 (.iface 29 (.pointer (some ⟨w2.heap.size, 0, none⟩)))) ∧ Hid (Kd.R (Kd.int .u8) 5 wr w.heap.size (fun _ => True) (.slice (some ⟨ga, 0, none⟩) M.length cm) (splice M at0 (D.take i))) ∧ Hid (Below w.heap.size w wr) ∧ Hid (wr.heap[bb]? = some (.cells (bx 1 at0 x2 Ad D.length cd) 36 (0, 0)))) (fun k _ => (100000 - intOf k).toNat)
                    case atStart => exact ⟨0, Nat.zero_le _, rfl, HS7, Lib.hid (by rw [splice_zero]; exact HR7.out), HB7, HK7⟩
                    case round =>
                      clear HS7 HR7 HB7 HK7 HGA f0 f1 f3
                      obtain ⟨i, hi, rfl, HS7, HR7, HB7, HK7⟩ := hrel
                      rcases Nat.lt_or_ge i D.length with hil | hil
                      · have hil2 : (i : Int) < (D.length : Int) := by omega
                        have f1 := (blk_cell (blk_drew HK7.out) 1).trans (rfl : _ = some (Value.int .i64 (at0 : Int)))
                        have f3' := (blk_cell HK7.out 3).trans (rfl : _ = some (Value.slice Ad D.length cd))
                        have f3 := (blk_cell (blk_drew HK7.out) 3).trans (rfl : _ = some (Value.slice Ad D.length cd))
                        obtain ⟨gd, od, rfl, hdc⟩ := addr_of_C8 (Kd.C_below HCD.out (below_drew HB7.out)) (by omega)
                        have f5 := hdc i hil
                        obtain ⟨y, hy⟩ : ∃ y, D.getD i 0 = y := ⟨_, rfl⟩
                        rw [hy] at f5
                        have HSL : Hid ((splice M at0 (D.take i)).length = M.length) := by
                          show _ = _
                          rw [splice_len _ _ _ (by rw [List.length_take]; have := HF2.out; omega)]
                        have HRD := Lib.hid (Kd.R_drew HR7.out)
                        obtain ⟨ga2, cur, e2, _, hcm, _, hgac, hcul, _⟩ := R_open HRD.out (by rw [HSL.out]; have := HF2.out; omega)
                        obtain rfl : ga = ga2 := by injection e2 with e2; injection e2
                        have hcs : M.length ≤ cur.length := by omega
                        have hix : (at0 : Int) + (i : Int) < (M.length : Int) := by have := HF2.out; omega
                        have hix2 : at0 + i < M.length := by have := HF2.out; omega
                        obtain ⟨uo, f6⟩ : ∃ u, wr.drew.cell? ⟨ga, at0 + i, none⟩ = some u := ⟨cur[at0 + i]'(by omega), by rw [blk_cell hgac]; simp⟩
                        have f7 := blk_thaw hgac (at0 + i)
                        have HSW := Lib.hid ((HS7.out.below (below_drew (Below.refl wr.heap.size wr))).store ⟨_, hgac⟩ (at0 + i) (.int .u8 y))
                        have HRW : Hid (Kd.R (Kd.int .u8) 5 (wr.drew.setCell ⟨ga, at0 + i, none⟩ (.int .u8 y)) w.heap.size (fun _ => True) (.slice (some ⟨ga, 0, none⟩) M.length cm) (splice M at0 (D.take (i + 1)))) := by
                          have h := R_set1 HRD.out (at0 + i) (by rw [HSL.out]; exact hix2) y
                          rw [← hy, splice_step M at0 D i hil (by have := HF2.out; omega)] at h
                          rw [← hy]
                          exact h
                        have HBW : Hid (Below w.heap.size w (wr.drew.setCell ⟨ga, at0 + i, none⟩ (.int .u8 y))) := (below_drew HB7.out).grown (grown_set _ _ _ _) (below_drew HB7.out).size (fun q e => by cases e; exact (own8_lt HR7.out ga rfl).1)
                        have HKW : Hid ((wr.drew.setCell ⟨ga, at0 + i, none⟩ (.int .u8 y)).heap[bb]? = some (.cells (bx 1 at0 x2 (some ⟨gd, od, none⟩) D.length cd) 36 (0, 0))) := blk_far (blk_drew HK7.out) (blk_ne (blk_drew HK7.out) hgac (by decide)) _
                        have HIL := Lib.hid hil
                        have hi0 : (0 : Int) ≤ (at0 : Int) + (i : Int) := by omega
                        have hit : ((at0 : Int) + (i : Int)).toNat = at0 + i := by omega
                        clear hdc hy hcm hgac hcul hcs hix2 hil e2
                        go_wp2_with fail
                        go_region
                        all_goals
                          go_wp2
                          go_roundw
                          case rel => exact ⟨i + 1, HIL.out, by go_num, HSW, HRW, HBW, HKW⟩
                          case measure => have := HIL.out; simp [intOf]; omega
                      · obtain rfl : i = D.length := by omega
                        have f0 := (blk_cell HK7.out 0).trans (rfl : _ = some (Value.int .i64 1))
                        have f3 := (blk_cell HK7.out 3).trans (rfl : _ = some (Value.slice Ad D.length cd))
                        have HR9 : Hid (Kd.R (Kd.int .u8) 5 wr w.heap.size (fun _ => True) (.slice (some ⟨ga, 0, none⟩) M.length cm) (listC c2 0 n2)) := by
                          have h := HR7.out
                          rw [HM.out, HSP.out] at h
                          rw [← HM.out] at h
                          exact h
                        go_wp2
                        go_roundw
                        case rel => exact ⟨j + 1, n2, c2, HLT.out, by go_num, HS7.out.mono (by omega), zero_of HS7.out, HR9, HB7⟩
                        case measure => simp [intOf]; omega
        · by_cases w2_ : x0 = 2
          · subst w2_
            by_cases u1 : 3000 < x2 ∧ x2 ≤ 46368
            · have y1 : decide (3000 < x2) = true := decide_eq_true u1.1
              have y2 : decide (x2 ≤ 46368) = true := decide_eq_true u1.2
              clear u1
              go_wp2
              go_ret
              exact ⟨rfl, HB5.out⟩
            have HU := Lib.hid u1
            obtain ⟨q1, y1⟩ : ∃ b, decide (3000 < x2) = b := ⟨_, rfl⟩
            have y2 : q1 = true → decide (x2 ≤ 46368) = false := fun h => decide_eq_false (fun h2 => u1 ⟨of_decide_eq_true (y1.trans h), h2⟩)
            have HY2 := Lib.hid y2
            clear u1 y2
            have hcall := Lib.hid (trunc_S HS5.out (by omega) x2 (off_new HR5.out))
            cases q1 with
            | true =>
              have y2 := HY2.out rfl
              go_wp2_with fail
              rw [← HBBQ.out]
              refine hcall.out.mono ?_
              clear hcall
              rintro e w6 (⟨hbad, rfl, rfl⟩ | ⟨ha0, ha1, rfl, hft, hs6⟩)
              · have f2 := (blk_cell HK5.out 2).trans (rfl : _ = some (Value.int .i64 x2))
                have v1 : decide (0 ≤ x2) = true ∧ decide (x2 ≤ 3000) = false ∨ decide (0 ≤ x2) = false := by
                  by_cases h : 0 ≤ x2
                  · exact Or.inl ⟨decide_eq_true h, decide_eq_false (by omega)⟩
                  · exact Or.inr (decide_eq_false h)
                clear hbad
                rcases v1 with ⟨v1, v2⟩ | v1
                all_goals
                  go_wp2
                  go_roundw
                  case rel => exact ⟨j + 1, n, c, HLT.out, by go_num, HS5.out.mono (by omega), HZ, HR5, HB5⟩
                  case measure => simp [intOf]; omega
              · exact absurd ⟨of_decide_eq_true y1, by omega⟩ HU.out
            | false =>
              go_wp2_with fail
              rw [← HBBQ.out]
              refine hcall.out.mono ?_
              clear hcall
              rintro e w6 (⟨hbad, rfl, rfl⟩ | ⟨ha0, ha1, rfl, hft, hs6⟩)
              · have f2 := (blk_cell HK5.out 2).trans (rfl : _ = some (Value.int .i64 x2))
                have v1 : decide (0 ≤ x2) = true ∧ decide (x2 ≤ 3000) = false ∨ decide (0 ≤ x2) = false := by
                  by_cases h : 0 ≤ x2
                  · exact Or.inl ⟨decide_eq_true h, decide_eq_false (by omega)⟩
                  · exact Or.inr (decide_eq_false h)
                clear hbad
                rcases v1 with ⟨v1, v2⟩ | v1
                all_goals
                  go_wp2
                  go_roundw
                  case rel => exact ⟨j + 1, n, c, HLT.out, by go_num, HS5.out.mono (by omega), HZ, HR5, HB5⟩
                  case measure => simp [intOf]; omega
              · obtain ⟨m, rfl⟩ : ∃ k : Nat, x2 = (k : Int) := ⟨x2.toNat, by omega⟩
                rw [Int.toNat_natCast] at hs6
                have hm3 : (m : Int) ≤ 3000 := by have := of_decide_eq_false y1; omega
                obtain ⟨c2, hc2⟩ : ∃ c2, c2 = cutC c m := ⟨_, rfl⟩
                rw [← hc2] at hs6
                have HS6 := Lib.hid hs6
                have HR6 := Lib.hid (hft.r8 HS5.out HR5.out)
                have HB6 := Lib.hid (under hft HB5.out HQ.out)
                have HK6 := Lib.hid (hft.box HS5.out HK5.out (by decide))
                have HC2 := Lib.hid hc2
                clear hc2 hs6 hft ha0 ha1 HS5 HR5 HB5 HK5 HU HY2 y1
                go_wp2
                go_loopw [5] (fun v wr => ∃ z : Nat, (z = 0 ∨ n + z ≤ m) ∧ Hid (FS (Off v) wr q p bA bF (828 + 829 * j + 829) m c2 (.iface 29 (.pointer (some ⟨w2.heap.size, 0, none⟩)))) ∧ Hid (Kd.R (Kd.int .u8) 5 wr w.heap.size (fun _ => True) v (padz c n z)) ∧ Hid (Below w.heap.size w wr) ∧ Hid (wr.heap[bb]? = some (.cells (bx 2 x1 m Ad D.length cd) 36 (0, 0)))) (fun v _ => 100000 - lenV v)
                case atStart => exact ⟨0, Or.inl rfl, HS6, Lib.hid (by rw [padz_zero]; exact HR6.out), HB6, HK6⟩
                case round =>
                  clear HS6 HR6 HB6 HK6
                  obtain ⟨z, hz, HS7, HR7, HB7, HK7⟩ := hrel
                  have f2 := (blk_cell HK7.out 2).trans (rfl : _ = some (Value.int .i64 (m : Int)))
                  have hpl := padz_len c n z
                  obtain ⟨M, hM⟩ : ∃ M, M = padz c n z := ⟨_, rfl⟩
                  rw [← hM] at HR7 hpl
                  have HM := Lib.hid hM
                  obtain ⟨Am, cm, rfl⟩ := Kd.R_slice HR7.out
                  have hMl : (M.length : Int) ≤ 70000 := by have := HLn.out; omega
                  have HPL := Lib.hid hpl
                  have HZZ := Lib.hid hz
                  clear hM hpl
                  by_cases hgo : M.length < m
                  · have v2 : decide ((M.length : Int) < (m : Int)) = true := decide_eq_true (by omega)
                    have v2' : decide (M.length < m) = true := decide_eq_true hgo
                    have HGO := Lib.hid hgo
                    clear hgo hz
                    obtain ⟨M8, hM8⟩ : ∃ M8, M8 = M ++ [0] := ⟨_, rfl⟩
                    have HLM8 : Hid (M8.length = M.length + 1 ∧ M.length < 100000) := by { refine ⟨?_, by omega⟩; rw [hM8, List.length_append]; rfl }
                    have HM8 := Lib.hid hM8
                    clear hM8
                    go_wp2_with ((with_reducible refine gate_builtin (b := .append) (xs := #[.tmp 151, .tmp 152]) rfl ?_); at_builtin; refine Kd.R_append (Kd.int .u8) (w0 := w) w.heap.size rfl (.tmp 151) (.tmp 152) 34 5 (.int .u8 0) 1 rfl Tryd.underlying34 infoB1 rfl (by decide) (by decide) _ M 0 [.int .u8 0] (fun _ => True) (fun _ => False) rfl rfl ?aP (fun _ hk => hk.elim) ?aF ?aO ?aB ?aS ?aL ?_; (case aP => exact rfl); (case aF => exact (fun _ _ => trivial)); (case aO => exact HR7.out); (case aB => exact HB7.out); (case aS => exact HB7.out.size); (case aL => omega); intro v8 w8 ho hb hg hat; have HS8 := Lib.hid (HS7.out.append (own8_typed HR7.out) hg hat); have HK8 := Lib.hid (blk_grown HK7.out hg (box_ne HR7.out HK7.out)); have HB8 := Lib.hid hb; rw [← HM8.out] at ho; obtain ⟨A8, c8, rfl⟩ := Kd.R_slice ho; have HR8 := Lib.hid ho; clear ho hb hg hat)
                    go_roundw
                    case rel => exact ⟨z + 1, Or.inr (by have := HGO.out; have := HPL.out; omega), HS8, Lib.hid (by rw [padz_succ, ← HM.out, ← HM8.out]; exact HR8.out), HB8, HK8⟩
                    case measure => have := HLM8.out; show 100000 - lenV _ < 100000 - lenV _; simp [lenV]; omega
                  · have v2 : decide ((M.length : Int) < (m : Int)) = false := decide_eq_false (by omega)
                    have v2' : decide (M.length < m) = false := decide_eq_false hgo
                    have hcut := cut_hi Am M.length cm m (by omega) (Kd.R_reads' HR7.out).2.1
                    have HTK : Hid (M.take m = listC c2 0 m) := by show _ = _; rw [HM.out, HC2.out]; exact padz_trunc c n z m HZ.out (by have := HPL.out; omega)
                    have HR9 : Hid (Kd.R (Kd.int .u8) 5 wr w.heap.size (fun _ => True) (.slice Am m cm) (listC c2 0 m)) := by rw [← HTK.out]; exact Kd.R_take HR7.out (by omega)
                    have HS9 : Hid (FS (Off (.slice Am m cm)) wr q p bA bF (828 + 829 * j + 829) m c2 (.iface 29 (.pointer (some ⟨w2.heap.size, 0, none⟩)))) := HS7.out.reg (fun b _ hb => off_cut hb)
                    clear hgo hz
                    go_wp2
                    go_roundw
                    case rel => exact ⟨j + 1, m, c2, HLT.out, by go_num, HS9.out.mono (by omega), zero_of HS9.out, HR9, HB7⟩
                    case measure => simp [intOf]; omega
          · have z1 : (x0 == 1) = false := beq_eq_false_iff_ne.2 w1_
            have z2 : (x0 == 2) = false := beq_eq_false_iff_ne.2 w2_
            clear w1_ w2_
            go_wp2
            go_roundw
            case rel => exact ⟨j + 1, n, c, HLT.out, by go_num, HS5.out.mono (by omega), HZ, HR5, HB5⟩
            case measure => simp [intOf]; omega
      · obtain rfl : j = t.length := by omega
        have HLn := Lib.hid HSr.out.le
        obtain ⟨P, hP⟩ : ∃ P : Int → Bool, ∀ k : Nat, P (k : Int) = true ↔ ∃ i, i < 56 ∧ c (k * 56 + i) ≠ 0 := ⟨fun k => @decide (∃ i, i < 56 ∧ c (k.toNat * 56 + i) ≠ 0) (Classical.propDecidable _), fun k => (@decide_eq_true_iff _ (Classical.propDecidable _)).trans (by rw [Int.toNat_natCast])⟩
        have HP := Lib.hid hP
        go_wp2_with fail
        refine (read_S HSr.out 0 100000 (by omega) (by omega) 0 n (by omega) (by have := HLn.out; omega)).mono ?_
        rintro e w4 ⟨A4, c4, rfl, hc4, hC4, hB⟩
        have HS4 := Lib.hid (HSr.out.below hB)
        have HB4 : Hid (Below w.heap.size w w4) := HB.out.trans (hB.mono HB.out.size)
        have HR4 := Lib.hid (Kd.R_below HR.out hB)
        obtain ⟨L, hL⟩ : ∃ L, L = listC c 0 n := ⟨_, rfl⟩
        have hn : L.length = n := by rw [hL, listC_len]
        subst hn
        have HL := Lib.hid hL
        rw [← HL.out] at hC4 hc4 HR4 ⊢
        have HC4 := Lib.hid hC4
        have HCC4 := Lib.hid hc4
        have hLl : (L.length : Int) ≤ 46368 := by have := HLn.out; omega
        clear hC4 hc4 hB hL HSr HR HB hP
        obtain ⟨Aa, ca, rfl⟩ := Kd.R_slice HR4.out
        have HRD := Lib.hid (Kd.R_reads' HR4.out)
        go_wp2_with fail
        refine (sameB_at A4 c4 Aa ca L w4 (by omega) HC4.out HCC4.out HRD.out.2.2 HRD.out.2.1).mono ?_
        rintro e w5 ⟨rfl, hB⟩
        have HS5 := Lib.hid (HS4.out.below hB)
        have HB5 : Hid (Below w.heap.size w w5) := HB4.out.trans (hB.mono HB4.out.size)
        have HA5 := Lib.hid (Kd.C_below HRD.out.2.2 hB)
        clear hB HS4 HR4 HB4 HRD HC4
        go_wp2_with fail
        refine (size_S HS5.out).mono ?_
        rintro e w6 ⟨rfl, rfl⟩
        obtain ⟨nb, hnb⟩ : ∃ nb, nb = (L.length + 55) / 56 := ⟨_, rfl⟩
        have hnb2 : (nb : Int) ≤ 829 := by omega
        have HNB := Lib.hid hnb
        have HZ2 := Lib.hid (zero_of HS5.out).out
        have HLC : Hid (∀ i, i < L.length → L.getD i 0 = c i) := fun i hi => by
          have h := listC_get c 0 L.length i hi
          rw [← HL.out, Nat.zero_add] at h
          exact h
        clear hnb HL
        go_wp2
        go_loopw [12, 13] (fun th k wr => ∃ (kk tt : Nat), kk ≤ nb ∧ tt ≤ kk ∧ th = .int .i64 tt ∧ k = .int .i64 kk ∧ Hid (tt = (selJ P kk).length) ∧ w5 = wr) (fun _ k _ => (1000 - intOf k).toNat)
        case atStart => exact ⟨0, 0, Nat.zero_le _, Nat.le_refl _, rfl, rfl, Lib.hid rfl, rfl⟩
        case round =>
          obtain ⟨kk, tt, hk, htk, rfl, rfl, HT, rfl⟩ := hrel
          have hk2 : (kk : Int) ≤ 829 := by omega
          have ht2 : (tt : Int) ≤ 829 := by omega
          have ek : IntKind.i64.wrap ((kk : Int) * 56) = (kk : Int) * 56 := IntWalk.i64_in _ (by omega)
          rcases Nat.lt_or_ge kk nb with hlt | hge
          · have hin : kk * 56 < L.length := by have := HNB.out; omega
            have v1 : decide ((kk : Int) * 56 < (L.length : Int)) = true := decide_eq_true (by omega)
            have HLT := Lib.hid hlt
            obtain ⟨ga, oa, rfl, hcl⟩ := addr_of_C8 HA5.out (by omega)
            have HCL := Lib.hid hcl
            have HIN := Lib.hid hin
            clear hcl hlt hin
            go_wp2
            go_loopw [14, 15] (fun so i wr => ∃ (ii : Nat) (b : Bool), kk * 56 ≤ ii ∧ ii ≤ kk * 56 + 56 ∧ ii ≤ L.length ∧ so = .bool b ∧ i = .int .i64 ii ∧ Hid (b = true ↔ ∃ x, kk * 56 ≤ x ∧ x < ii ∧ c x ≠ 0) ∧ w5 = wr) (fun _ i _ => (100000 - intOf i).toNat)
            case atStart => exact ⟨kk * 56, false, Nat.le_refl _, by omega, by have := HIN.out; omega, rfl, by simp, Lib.hid ⟨fun h => (by cases h), fun ⟨x, h1, h2, _⟩ => (by omega)⟩, rfl⟩
            case round =>
              obtain ⟨ii, b, hi1, hi2, hi3, rfl, rfl, HSO, rfl⟩ := hrel
              have hii : (ii : Int) ≤ 46368 := by omega
              by_cases hgo : ii < L.length ∧ ii < kk * 56 + 56
              · have v2 : decide ((ii : Int) < (L.length : Int)) = true := decide_eq_true (by omega)
                have v2' : decide (ii < L.length) = true := decide_eq_true hgo.1
                have v3 : decide ((ii : Int) < (kk : Int) * 56 + 56) = true := decide_eq_true (by omega)
                have v4 : (ii : Int) < (L.length : Int) := by omega
                have f1 := HCL.out ii hgo.1
                rw [HLC.out ii hgo.1] at f1
                obtain ⟨y, hy⟩ : ∃ y, c ii = y := ⟨_, rfl⟩
                rw [hy] at f1
                have HGO := Lib.hid hgo
                have HI1 := Lib.hid hi1
                have HY := Lib.hid hy
                clear hgo hi1 hi2 hi3 hy
                cases b with
                | true =>
                  go_wp2
                  go_roundw
                  case rel => exact ⟨ii + 1, true, by have := HI1.out; omega, by have := HGO.out.2; omega, by have := HGO.out.1; omega, rfl, by go_num, Lib.hid ⟨fun _ => by obtain ⟨x, h1, h2, h3⟩ := HSO.out.1 rfl; exact ⟨x, h1, by omega, h3⟩, fun _ => rfl⟩, trivial⟩
                  case measure => simp [intOf]; omega
                | false =>
                  by_cases hy0 : y = 0
                  · subst hy0
                    go_wp2
                    go_roundw
                    case rel => exact ⟨ii + 1, false, by have := HI1.out; omega, by have := HGO.out.2; omega, by have := HGO.out.1; omega, rfl, by go_num, Lib.hid ⟨fun h => (by cases h), fun ⟨x, h1, h2, h3⟩ => by
                        by_cases e : x = ii
                        · subst e; exact absurd HY.out h3
                        · exact HSO.out.2 ⟨x, h1, by omega, h3⟩⟩, trivial⟩
                    case measure => simp [intOf]; omega
                  · have v5 : (y != 0) = true := by simpa using hy0
                    have HY0 := Lib.hid hy0
                    clear hy0
                    go_wp2
                    go_roundw
                    case rel => exact ⟨ii + 1, true, by have := HI1.out; omega, by have := HGO.out.2; omega, by have := HGO.out.1; omega, rfl, by go_num, Lib.hid ⟨fun _ => ⟨ii, HI1.out, by omega, by rw [HY.out]; exact HY0.out⟩, fun _ => rfl⟩, trivial⟩
                    case measure => simp [intOf]; omega
              · have HPK : Hid (P (kk : Int) = b) := by
                  show _ = _
                  have h : P (kk : Int) = true ↔ b = true := by
                    rw [HP.out kk, HSO.out]
                    constructor
                    · rintro ⟨i, h1, h2⟩
                      refine ⟨kk * 56 + i, by omega, ?_, h2⟩
                      refine Classical.byContradiction fun hn => h2 (HZ2.out _ ?_)
                      omega
                    · rintro ⟨x, h1, h2, h3⟩
                      exact ⟨x - kk * 56, by omega, by rw [show kk * 56 + (x - kk * 56) = x by omega]; exact h3⟩
                  exact Bool.eq_iff_iff.2 h
                obtain ⟨b2, v2⟩ : ∃ b, decide ((ii : Int) < (L.length : Int)) = b := ⟨_, rfl⟩
                have v2' : decide (ii < L.length) = b2 := by rw [← v2]; exact decide_eq_decide.2 (by omega)
                have v3 : b2 = true → decide ((ii : Int) < (kk : Int) * 56 + 56) = false := fun h => decide_eq_false (fun h2 => hgo ⟨of_decide_eq_true (v2'.trans h), by omega⟩)
                have HV3 := Lib.hid v3
                clear hgo hi1 hi2 hi3 v3
                cases b with
                | true =>
                  cases b2 with
                  | true =>
                    have v3 := HV3.out rfl
                    go_wp2
                    go_roundw
                    case rel => exact ⟨kk + 1, tt + 1, HLT.out, by omega, by go_num, by go_num, Lib.hid (by rw [selJ_yes HPK.out, List.length_append, ← HT.out]; rfl), trivial⟩
                    case measure => simp [intOf]; omega
                  | false =>
                    go_wp2
                    go_roundw
                    case rel => exact ⟨kk + 1, tt + 1, HLT.out, by omega, by go_num, by go_num, Lib.hid (by rw [selJ_yes HPK.out, List.length_append, ← HT.out]; rfl), trivial⟩
                    case measure => simp [intOf]; omega
                | false =>
                  cases b2 with
                  | true =>
                    have v3 := HV3.out rfl
                    go_wp2
                    go_roundw
                    case rel => exact ⟨kk + 1, tt, HLT.out, by omega, rfl, by go_num, Lib.hid (by rw [selJ_no HPK.out]; exact HT.out), trivial⟩
                    case measure => simp [intOf]; omega
                  | false =>
                    go_wp2
                    go_roundw
                    case rel => exact ⟨kk + 1, tt, HLT.out, by omega, rfl, by go_num, Lib.hid (by rw [selJ_no HPK.out]; exact HT.out), trivial⟩
                    case measure => simp [intOf]; omega
          · obtain rfl : kk = nb := by omega
            have v1 : decide ((kk : Int) * 56 < (L.length : Int)) = false := decide_eq_false (by have := HNB.out; omega)
            have HNB2 : Hid (L.length ≤ kk * 56) := by have := HNB.out; show _ ≤ _; omega
            go_wp2_with fail
            refine (blocks_S HS5.out).mono ?_
            rintro e w7 ⟨rfl, rfl⟩
            go_wp2_with fail
            refine (there_S HS5.out (by omega) P HP.out kk HNB2.out).mono ?_
            rintro e w7 ⟨A7, c7, rfl, hc7, hC7, hB⟩
            rw [← HT.out]
            have HB7 : Hid (Below w.heap.size w w7) := HB5.out.trans (hB.mono HB5.out.size)
            clear hc7 hC7 hB
            go_wp2
            go_ret
            exact ⟨rfl, HB7.out⟩
end Go.Proofs.YthahdombnmkokaaDoor.BytesW17
namespace Go.Proofs.YthahdombnmkokaaDoor.PFileBytes
open Go.RowKit Go.Proofs.YthahdombnmkokaaDoorW.PrintWords Go.Proofs.YthahdombnmkokaaDoorW.PrintLast Go.Proofs.YthahdombnmkokaaDoorW.PrintMore Go.Proofs.YthahdombnmkokaaDoor.Base Go.Proofs.YthahdombnmkokaaDoor.Given
set_option linter.unusedVariables false
def Fits (t : List Rec3) : Prop := t.length ≤ 140737488351232 ∧ ∀ r ∈ t, r.2.2.2.length ≤ 140737488351232
noncomputable def morainelaw17_FileBytes.f (t : List Rec3) : Option Bool := @ite _ (Fits t) (Classical.propDecidable _) (some true) none
theorem morainelaw17_FileBytes.calls {q : TypeId} (A0 : Option Addr) (c0 : Nat) (t : List Rec3) (r : Bool) (w : World) (hC : Kd.C (kRec q .u8) w A0 t.length t) (hc : t.length ≤ c0) (h : morainelaw17_FileBytes.f t = some r) :
    Calls Tryd.prog 3 #[.slice A0 t.length c0] w fun e w' => e = .returned (.bool r) ∧ Below w.heap.size w w' := by
  unfold morainelaw17_FileBytes.f at h
  by_cases hf : Fits t
  · rw [if_pos hf] at h
    cases h
    exact BytesW17.walk A0 c0 t w hC hc hf.1 hf.2
  · rw [if_neg hf] at h
    cases h
end Go.Proofs.YthahdombnmkokaaDoor.PFileBytes
namespace Go.Proofs.YthahdombnmkokaaDoor.Pure
open Go.Proofs.YthahdombnmkokaaDoor.PFileBytes Go.Proofs.YthahdombnmkokaaDoor.Given
set_option linter.unusedVariables false
theorem FileBytes (t : List Rec3) (h2 : t.length ≤ 140737488351232) (h3 : ∀ r ∈ t, r.2.2.2.length ≤ 140737488351232) (h4 : ∀ r ∈ t, (Lit.int .i64 r.1).wf = true ∧ (Lit.int .i64 r.2.1).wf = true ∧ (Lit.int .i64 r.2.2.1).wf = true ∧ ∀ z ∈ r.2.2.2, (Lit.int .u8 z).wf = true) : morainelaw17_FileBytes.f t = some true :=
  if_pos ⟨h2, h3⟩
end Go.Proofs.YthahdombnmkokaaDoor.Pure
