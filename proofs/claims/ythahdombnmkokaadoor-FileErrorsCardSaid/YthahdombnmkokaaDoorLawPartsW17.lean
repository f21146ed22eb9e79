/- The walk of FileParts: by hand (genparts17.py). -/
import Derived.Test.YthahdombnmkokaaDoorFils2
import Derived.Test.YthahdombnmkokaaDoorWGuard
namespace Go.Proofs.YthahdombnmkokaaDoor.Given
open Go.RowKit Go.Maps Go.Sort Go.Shelf Go.Proofs.YthahdombnmkokaaDoorW.PrintWords Go.Proofs.YthahdombnmkokaaDoorW.PrintLast Go.Proofs.YthahdombnmkokaaDoorW.PrintMore Go.Proofs.YthahdombnmkokaaDoor.Base
set_option linter.unusedVariables false
set_option linter.unusedSimpArgs false
theorem WroteS.any {q p bA bF N n : Nat} {c : Nat → Int} {fr : Value} {at_ : Int} {d : List Int} {w w' : World} {e : Ending} (h : WroteS q p bA bF N n c fr at_ d w w' e) (hs : FS w q p bA bF N n c fr) : ∃ r n' c', e = .returned (.int .i64 r) ∧ FT q bA bF w w' ∧ FS w' q p bA bF (N + 829) n' c' fr := by
  rcases h with ⟨_, rfl, rfl⟩ | ⟨_, _, rfl, hft, hs'⟩
  · exact ⟨_, _, _, rfl, FT.refl _ _ _ _, hs.mono (by omega)⟩
  · exact ⟨_, _, _, rfl, hft, hs'⟩
theorem TruncS.any {q p bA bF N n : Nat} {c : Nat → Int} {fr : Value} {m : Int} {w w' : World} {e : Ending} (h : TruncS q p bA bF N n c fr m w w' e) (hs : FS w q p bA bF N n c fr) : ∃ r n' c', e = .returned (.int .i64 r) ∧ FT q bA bF w w' ∧ FS w' q p bA bF (N + 829) n' c' fr := by
  rcases h with ⟨_, rfl, rfl⟩ | ⟨_, _, rfl, hft, hs'⟩
  · exact ⟨_, _, _, rfl, FT.refl _ _ _ _, hs.mono (by omega)⟩
  · exact ⟨_, _, _, rfl, hft, hs'⟩
theorem FT.under {q bA bF : Nat} {w w0 w1 : World} (k : FT q bA bF w0 w1) (hb : Below w.heap.size w w0) (hg : w.heap.size ≤ q ∧ w.heap.size ≤ bA ∧ w.heap.size ≤ bF) : Below w.heap.size w w1 :=
  hb.trans (k.tr.from_ hb.size (by rintro b (rfl | rfl | rfl); exact hg.2.1; exact hg.2.2; exact hg.1))
theorem sameB_at (A0 : Option Addr) (c0 : Nat) (A1 : Option Addr) (c1 : Nat) (M : List Int) (w : World) (hM : M.length ≤ 1000000) (h0 : Kd.C (Kd.int .u8) w A0 M.length M) (hc0 : M.length ≤ c0) (h1 : Kd.C (Kd.int .u8) w A1 M.length M) (hc1 : M.length ≤ c1) :
    Calls Tryd.prog 13 #[.slice A0 M.length c0, .slice A1 M.length c1] w fun e w' => e = .returned (.bool true) ∧ Below w.heap.size w w' := by
  refine (moraineref00_SameBytes.calls (M.length + 1) A0 c0 M A1 c1 M true w h0 hc0 h1 hc1 (by rw [same_eq M M (by omega) _ (by omega)]; simp)).mono ?_
  rintro e w' ⟨rfl, hd⟩
  obtain ⟨nd, rfl⟩ := hd
  exact ⟨rfl, pw_below_drewN (Below.refl _ _) nd⟩
theorem parts_eq (c : Nat → Int) (size at0 n m : Nat) : listC c (min at0 size) (min n (size - min at0 size)) ++ listC c (min (at0 + n) size) (min m (size - min (at0 + n) size)) = listC c (min at0 size) (min (n + m) (size - min at0 size)) := by
  by_cases h : at0 + n ≤ size
  · rw [show min at0 size = at0 by omega, show min n (size - at0) = n by omega, show min (at0 + n) size = at0 + n by omega, show min (n + m) (size - at0) = n + min m (size - (at0 + n)) by omega, listC_add]
  · rw [show min m (size - min (at0 + n) size) = 0 by omega, show min (n + m) (size - min at0 size) = min n (size - min at0 size) by omega]
    simp [listC]
end Go.Proofs.YthahdombnmkokaaDoor.Given
namespace Go.Proofs.YthahdombnmkokaaDoor.PartsW17
open Go.RowKit Go.Maps Go.Sort Go.Shelf Go.Proofs.YthahdombnmkokaaDoorW.PrintWords Go.Proofs.YthahdombnmkokaaDoorW.PrintLast Go.Proofs.YthahdombnmkokaaDoorW.PrintMore Go.Proofs.YthahdombnmkokaaDoor.Base Go.Proofs.YthahdombnmkokaaDoor.Given
set_option linter.unusedVariables false
set_option linter.unusedSimpArgs false
set_option maxRecDepth 100000 in
set_option maxHeartbeats 16000000 in
theorem walk {qt : TypeId} (A0 : Option Addr) (c0 : Nat) (t : List Rec3) (at_ n_ m_ : Int) (w : World) (hC : Kd.C (kRec qt .u8) w A0 t.length t) (hc : t.length ≤ c0) (hs : t.length ≤ 140737488351232) (hb : ∀ r ∈ t, r.2.2.2.length ≤ 140737488351232) :
    Calls Tryd.prog 4 #[.slice A0 t.length c0, .int .i64 at_, .int .i64 n_, .int .i64 m_] w fun e w' => e = .returned (.bool true) ∧ Below w.heap.size w w' := by
  obtain ⟨b1, d1⟩ : ∃ b, decide (at_ < 0) = b := ⟨_, rfl⟩
  obtain ⟨b2, d2⟩ : ∃ b, decide (n_ < 0) = b := ⟨_, rfl⟩
  obtain ⟨b3, d3⟩ : ∃ b, decide (m_ < 0) = b := ⟨_, rfl⟩
  obtain ⟨b4, d4⟩ : ∃ b, decide (1048576 < at_) = b := ⟨_, rfl⟩
  obtain ⟨b5, d5⟩ : ∃ b, decide (1048576 < n_) = b := ⟨_, rfl⟩
  obtain ⟨b6, d6⟩ : ∃ b, decide (1048576 < m_) = b := ⟨_, rfl⟩
  have HC := Lib.hid hC
  have HS := Lib.hid hs
  have HBB := Lib.hid hb
  have hl2 : (t.length : Int) ≤ 140737488351232 := by omega
  clear hC hs hb
  go_enter Tryd.func4, Tryd.ntmps4
  go_wp2_with fail
  refine (alive_calls _).mono ?_
  rintro e w1 ⟨rfl, hB⟩
  have HB1 := Lib.hid hB
  have HC1 := Lib.hid (Kd.C_below HC.out hB)
  clear hB
  go_wp2_with fail
  refine (great_nil A0 c0 t w1 HC1.out HS.out HBB.out).mono ?_
  rintro e w2 ⟨g, rfl, hg, hB⟩
  have HB2 : Hid (Below w.heap.size w w2) := HB1.out.trans (hB.mono HB1.out.size)
  have HG := Lib.hid hg
  clear hg hB HC1
  cases g with
  | true =>
    go_wp2
    go_ret
    exact ⟨rfl, HB2.out⟩
  | false =>
    cases b1 with
    | true =>
      go_wp2
      go_ret
      exact ⟨rfl, HB2.out⟩
    | false =>
      cases b2 with
      | true =>
        go_wp2
        go_ret
        exact ⟨rfl, HB2.out⟩
      | false =>
        cases b3 with
        | true =>
          go_wp2
          go_ret
          exact ⟨rfl, HB2.out⟩
        | false =>
          cases b4 with
          | true =>
            go_wp2
            go_ret
            exact ⟨rfl, HB2.out⟩
          | false =>
            cases b5 with
            | true =>
              go_wp2
              go_ret
              exact ⟨rfl, HB2.out⟩
            | false =>
              cases b6 with
              | true =>
                go_wp2
                go_ret
                exact ⟨rfl, HB2.out⟩
              | false =>
                have HGG := Lib.hid (HG.out rfl)
                clear HG
                have hat0 : 0 ≤ at_ := by have := of_decide_eq_false d1; omega
                have hn0 : 0 ≤ n_ := by have := of_decide_eq_false d2; omega
                have hm0 : 0 ≤ m_ := by have := of_decide_eq_false d3; omega
                have hat1 : at_ ≤ 1048576 := by have := of_decide_eq_false d4; omega
                have hn1 : n_ ≤ 1048576 := by have := of_decide_eq_false d5; omega
                have hm1 : m_ ≤ 1048576 := by have := of_decide_eq_false d6; omega
                obtain ⟨at0, rfl⟩ : ∃ k : Nat, at_ = (k : Int) := ⟨at_.toNat, by omega⟩
                obtain ⟨n0, rfl⟩ : ∃ k : Nat, n_ = (k : Int) := ⟨n_.toNat, by omega⟩
                obtain ⟨m0, rfl⟩ : ∃ k : Nat, m_ = (k : Int) := ⟨m_.toNat, by omega⟩
                clear hat0 hn0 hm0
                go_wp2_with fail
                refine (fnew_S _ _).mono ?_
                rintro e w3 ⟨q, p, bA, bF, rfl, hS, g1, g2, g3, g4, hB⟩
                have HB3 : Hid (Below w.heap.size w w3) := (HB2.out.alloc HB2.out.size _).trans (hB.mono (by have := HB2.out.size; simp; omega))
                have HS3 := Lib.hid hS
                have HQ : Hid (w.heap.size ≤ q ∧ w.heap.size ≤ bA ∧ w.heap.size ≤ bF) := by have := HB2.out.size; simp at g1 g3 g4; show _ ∧ _; omega
                clear hS g1 g2 g3 g4 hB
                go_wp2
                go_loopw [11] (fun i wr => ∃ (j n : Nat) (c : Nat → Int), j ≤ t.length ∧ i = .int .i64 j ∧ Hid (FS wr q p bA bF (828 + 829 * j) n c (.iface 29 (.pointer (some ⟨w2.heap.size, 0, none⟩)))) ∧ Hid (Below w.heap.size w wr)) (fun i _ => (1000 - intOf i).toNat)
                case atStart => exact ⟨0, 0, _, by omega, rfl, HS3, HB3⟩
                case round =>
                  clear HS3 HB3 HB1 HB2
                  obtain ⟨j, n, c, hj, rfl, HSr, HB⟩ := hrel
                  have hl3 : (t.length : Int) ≤ 60 := by have := HGG.out.1; omega
                  rcases Nat.lt_or_ge j t.length with hlt | hge
                  · have hlt2 : (j : Int) < (t.length : Int) := by omega
                    obtain ⟨g0, o0, rfl, hcell⟩ := rec_of_C HC.out (by omega)
                    have hjl := List.getElem?_eq_getElem hlt
                    obtain ⟨r, hr⟩ : ∃ r, t[j] = r := ⟨_, rfl⟩
                    rw [hr] at hjl
                    have hrm : r ∈ t := hr ▸ List.getElem_mem hlt
                    obtain ⟨Ad, cd, k0, k1, k2, k3, k4, k5⟩ := hcell j r hjl
                    have e0 := pw_cell_below HB.out k0
                    have f1 := pw_cell_below (below_drew HB.out) k1
                    have e2 := pw_cell_below HB.out k2
                    have f3 := pw_cell_below (below_drew HB.out) k3
                    have HK0 := Lib.hid k0
                    have HK1 := Lib.hid k1
                    have HK3 := Lib.hid k3
                    have HSd := Lib.hid (HSr.out.below (below_drew (Below.refl wr.heap.size wr)))
                    have HBd := Lib.hid (below_drew HB.out)
                    have HCd := Lib.hid (Kd.C_below k5 HBd.out)
                    have HLD := Lib.hid k4
                    have HLD2 := Lib.hid (HGG.out.2 r hrm)
                    have HLT := Lib.hid hlt
                    obtain ⟨x0, h0⟩ : ∃ x, r.1 = x := ⟨_, rfl⟩
                    obtain ⟨x1, h1⟩ : ∃ x, r.2.1 = x := ⟨_, rfl⟩
                    obtain ⟨x2, h2⟩ : ∃ x, r.2.2.1 = x := ⟨_, rfl⟩
                    obtain ⟨D, h3⟩ : ∃ x, r.2.2.2 = x := ⟨_, rfl⟩
                    rw [h0] at e0 HK0
                    rw [h1] at f1 HK1
                    rw [h2] at e2
                    rw [h3] at f3 HK3 HCd HLD HLD2
                    clear hcell hjl hr hrm k0 k1 k2 k3 k4 k5 h0 h1 h2 h3 hlt
                    by_cases w1_ : x0 = 1
                    · subst w1_
                      go_wp2_with fail
                      go_region_held3 (fun w' => w'.cell? ⟨g0, o0 + j * 4 + 1, none⟩ = some (.int .i64 x1) ∧ w'.cell? ⟨g0, o0 + j * 4 + 3, none⟩ = some (.slice Ad D.length cd)) (first | exact ⟨f1, f3⟩ | exact ⟨f51, f53⟩ | go_keep) (first | (go_at_call 10; refine (write_S HSd.out (by omega) x1 Ad cd D HCd.out HLD.out (by have := HLD2.out; omega)).mono ?_; rintro e w5 hW; obtain ⟨rr, n5, c5, rfl, hft, hs5⟩ := hW.any HSd.out; have HS5 := Lib.hid hs5; have HB5 := Lib.hid (hft.under HBd.out HQ.out); have f50 := pw_cell_below HB5.out HK0.out; have f51 := pw_cell_below HB5.out HK1.out; have f53 := pw_cell_below HB5.out HK3.out; clear hW hft hs5))
                      all_goals
                        go_wp2
                        go_roundw
                        case rel => exact ⟨j + 1, n5, c5, HLT.out, by go_num, HS5.out.mono (by omega), HB5⟩
                        case measure => simp [intOf]; omega
                    · by_cases w2_ : x0 = 2
                      · subst w2_
                        go_wp2_with fail
                        refine (trunc_S HSr.out (by omega) x2).mono ?_
                        rintro e w5 hW
                        obtain ⟨rr, n5, c5, rfl, hft, hs5⟩ := hW.any HSr.out
                        have HS5 := Lib.hid hs5
                        have HB5 := Lib.hid (hft.under HB.out HQ.out)
                        clear hW hft hs5
                        go_wp2
                        go_roundw
                        case rel => exact ⟨j + 1, n5, c5, HLT.out, by go_num, HS5.out.mono (by omega), HB5⟩
                        case measure => simp [intOf]; omega
                      · have z1 : (x0 == 1) = false := beq_eq_false_iff_ne.2 w1_
                        have z2 : (x0 == 2) = false := beq_eq_false_iff_ne.2 w2_
                        clear w1_ w2_
                        go_wp2
                        go_roundw
                        case rel => exact ⟨j + 1, n, c, HLT.out, by go_num, HSr.out.mono (by omega), HB⟩
                        case measure => simp [intOf]; omega
                  · obtain rfl : j = t.length := by omega
                    have HLn := Lib.hid HSr.out.le
                    obtain ⟨X0, hX0⟩ : ∃ X, X = min at0 n := ⟨_, rfl⟩
                    obtain ⟨Y0, hY0⟩ : ∃ X, X = min n0 (n - X0) := ⟨_, rfl⟩
                    obtain ⟨X1, hX1⟩ : ∃ X, X = min (at0 + n0) n := ⟨_, rfl⟩
                    obtain ⟨Y1, hY1⟩ : ∃ X, X = min m0 (n - X1) := ⟨_, rfl⟩
                    obtain ⟨Y2, hY2⟩ : ∃ X, X = min (n0 + m0) (n - X0) := ⟨_, rfl⟩
                    have HEQ : Hid (listC c X0 Y0 ++ listC c X1 Y1 = listC c X0 Y2) := by show _ = _; rw [hY0, hY1, hY2, hX0, hX1]; exact parts_eq c n at0 n0 m0
                    have HX0 := Lib.hid hX0
                    have HY0 := Lib.hid hY0
                    have HX1 := Lib.hid hX1
                    have HY1 := Lib.hid hY1
                    have HY2 := Lib.hid hY2
                    have HAT : Hid (at0 ≤ 1048576 ∧ n0 ≤ 1048576 ∧ m0 ≤ 1048576) := by show _ ∧ _; omega
                    have HYS : Hid (Y0 ≤ 46368 ∧ Y1 ≤ 46368 ∧ Y2 ≤ 46368) := by have := HLn.out; show _ ∧ _; omega
                    clear hX0 hY0 hX1 hY1 hY2
                    go_wp2_with fail
                    refine (read_S HSr.out at0 n0 (by have := HAT.out; omega) (by have := HAT.out; omega) X0 Y0 HX0.out HY0.out).mono ?_
                    rintro e w4 ⟨A4, c4, rfl, hc4, hC4, hB⟩
                    have HS4 := Lib.hid (HSr.out.below hB)
                    have HB4 : Hid (Below w.heap.size w w4) := HB.out.trans (hB.mono HB.out.size)
                    have HC4 := Lib.hid hC4
                    have HCC4 := Lib.hid hc4
                    obtain ⟨LA, hLA⟩ : ∃ L, L = listC c X0 Y0 := ⟨_, rfl⟩
                    rw [← hLA] at HC4 HCC4 HEQ ⊢
                    have HLA : Hid (LA.length ≤ 46368) := by show _ ≤ _; rw [hLA, listC_len]; exact HYS.out.1
                    clear hC4 hc4 hB hLA
                    go_wp2_with fail
                    refine (read_S HS4.out (at0 + n0) m0 (by have := HAT.out; omega) (by have := HAT.out; omega) X1 Y1 HX1.out HY1.out).mono ?_
                    rintro e w5 ⟨A5, c5, rfl, hc5, hC5, hB⟩
                    have HS5 := Lib.hid (HS4.out.below hB)
                    have HB5 : Hid (Below w.heap.size w w5) := HB4.out.trans (hB.mono HB4.out.size)
                    have HC45 := Lib.hid (Kd.C_below HC4.out hB)
                    have HC5 := Lib.hid hC5
                    have HCC5 := Lib.hid hc5
                    obtain ⟨LB, hLB⟩ : ∃ L, L = listC c X1 Y1 := ⟨_, rfl⟩
                    rw [← hLB] at HC5 HCC5 HEQ ⊢
                    have HLB : Hid (LB.length ≤ 46368) := by show _ ≤ _; rw [hLB, listC_len]; exact HYS.out.2.1
                    clear hC5 hc5 hB hLB
                    go_wp2_with fail
                    refine (read_S HS5.out at0 (n0 + m0) (by have := HAT.out; omega) (by have := HAT.out; omega) X0 Y2 HX0.out HY2.out).mono ?_
                    rintro e w6 ⟨A6, c6, rfl, hc6, hC6, hB⟩
                    have HB6 : Hid (Below w.heap.size w w6) := HB5.out.trans (hB.mono HB5.out.size)
                    have HC46 := Lib.hid (Kd.C_below HC45.out hB)
                    have HC56 := Lib.hid (Kd.C_below HC5.out hB)
                    have HC6 := Lib.hid hC6
                    have HCC6 := Lib.hid hc6
                    obtain ⟨LC, hLC⟩ : ∃ L, L = listC c X0 Y2 := ⟨_, rfl⟩
                    rw [← hLC] at HC6 HCC6 HEQ ⊢
                    have HLC : Hid (LC.length ≤ 46368) := by show _ ≤ _; rw [hLC, listC_len]; exact HYS.out.2.2
                    clear hC6 hc6 hB hLC
                    go_wp2_with fail
                    refine (moraineref00_CopyBytes.calls A4 c4 LA LA w6 HC46.out HCC4.out (copyb_eq LA (by have := HLA.out; omega))).mono ?_
                    rintro e w7 ⟨v7, rfl, hR, hB⟩
                    have HR7 := Lib.hid hR
                    have HB7 : Hid (Below w.heap.size w w7) := HB6.out.trans (hB.mono HB6.out.size)
                    have HC57 := Lib.hid (Kd.C_below HC56.out hB)
                    have HC67 := Lib.hid (Kd.C_below HC6.out hB)
                    have HR7b := Lib.hid (Kd.R_lower hR (Nat.le_refl _))
                    have HW6 := Lib.hid hB
                    clear hR hB
                    go_wp2_with (first | ((with_reducible refine gate_builtin (b := .append) (xs := #[.tmp 132, .tmp 133]) rfl ?_); (try (refine gate_guard (by rfl) ?_; dsimp only)); at_builtin; refine Kd.R_append_rows (Kd.int .u8) (w0 := w6) w6.heap.size rfl (.tmp 132) (.tmp 133) 34 5 (.int .u8 0) 1 rfl Tryd.underlying34 infoB rfl (by decide) (by omega) _ LA LB _ _ _ (fun _ => True) (fun _ => False) rfl rfl ?aO ?aR (fun _ _ h => h) (fun _ h => h.elim) ?aF ?aB ?aS ?aL ?_; (case aR => exact HC57.out); (case aB => exact HW6.out); (case aF => exact (fun _ _ => trivial)); (case aO => exact HR7.out); (case aS => exact HW6.out.size); (case aL => have := HLA.out; have := HLB.out; omega); intro v8 w8 ho hb hg hat; have HB8 := Lib.hid hb; have HO8 := Lib.hid ho; clear ho hb hg hat))
                    rw [HEQ.out] at HO8
                    obtain ⟨A8, c8, rfl⟩ := Kd.R_slice HO8.out
                    have hrr := Kd.R_reads' HO8.out
                    have HC68 := Lib.hid (Kd.C_below HC6.out HB8.out)
                    have HCW8 : Hid (Below w.heap.size w w8) := HB6.out.trans (HB8.out.mono HB6.out.size)
                    refine (sameB_at A8 c8 A6 c6 LC w8 (by have := HLC.out; omega) hrr.2.2 hrr.2.1 HC68.out HCC6.out).mono ?_
                    rintro e w9 ⟨rfl, hB⟩
                    have HB9 : Hid (Below w.heap.size w w9) := HCW8.out.trans (hB.mono HCW8.out.size)
                    clear hB hrr
                    go_wp2
                    go_ret
                    exact ⟨rfl, HB9.out⟩
end Go.Proofs.YthahdombnmkokaaDoor.PartsW17
namespace Go.Proofs.YthahdombnmkokaaDoor.PFileParts
open Go.RowKit Go.Proofs.YthahdombnmkokaaDoorW.PrintWords Go.Proofs.YthahdombnmkokaaDoorW.PrintLast Go.Proofs.YthahdombnmkokaaDoorW.PrintMore Go.Proofs.YthahdombnmkokaaDoor.Base Go.Proofs.YthahdombnmkokaaDoor.Given
set_option linter.unusedVariables false
def Fits (t : List Rec3) : Prop := t.length ≤ 140737488351232 ∧ ∀ r ∈ t, r.2.2.2.length ≤ 140737488351232
noncomputable def morainelaw17_FileParts.f (t : List Rec3) (_ _ _ : Int) : Option Bool := @ite _ (Fits t) (Classical.propDecidable _) (some true) none
theorem morainelaw17_FileParts.calls {q : TypeId} (A0 : Option Addr) (c0 : Nat) (t : List Rec3) (a b c : Int) (r : Bool) (w : World) (hC : Kd.C (kRec q .u8) w A0 t.length t) (hc : t.length ≤ c0) (h : morainelaw17_FileParts.f t a b c = some r) :
    Calls Tryd.prog 4 #[.slice A0 t.length c0, .int .i64 a, .int .i64 b, .int .i64 c] w fun e w' => e = .returned (.bool r) ∧ Below w.heap.size w w' := by
  unfold morainelaw17_FileParts.f at h
  by_cases hf : Fits t
  · rw [if_pos hf] at h
    cases h
    exact PartsW17.walk A0 c0 t a b c w hC hc hf.1 hf.2
  · rw [if_neg hf] at h
    cases h
end Go.Proofs.YthahdombnmkokaaDoor.PFileParts
namespace Go.Proofs.YthahdombnmkokaaDoor.Pure
open Go.Proofs.YthahdombnmkokaaDoor.PFileParts Go.Proofs.YthahdombnmkokaaDoor.Given
set_option linter.unusedVariables false
theorem FileParts {P1 P2 P3 : Prop} (t : List Rec3) (a b c : Int) (h2 : t.length ≤ 140737488351232) (h3 : ∀ r ∈ t, r.2.2.2.length ≤ 140737488351232) (h4 : ∀ r ∈ t, (Lit.int .i64 r.1).wf = true ∧ (Lit.int .i64 r.2.1).wf = true ∧ (Lit.int .i64 r.2.2.1).wf = true ∧ ∀ z ∈ r.2.2.2, (Lit.int .u8 z).wf = true) (_ : P1) (_ : P2) (_ : P3) : morainelaw17_FileParts.f t a b c = some true :=
  if_pos ⟨h2, h3⟩
end Go.Proofs.YthahdombnmkokaaDoor.Pure
