/- The contract of moraineref09.Count: by hand. -/
import Derived.Test.YtogdnolkheifcaaGivCount
import Derived.Test.YtogdnolkheifcaaBase2x
import Derived.Test.YtogdnolkheifcaaPureGeoRef
import Derived.Deep.QuietTactic
import Derived.BigQuiet
import Derived.IntWalk
namespace Go.Proofs.Ytogdnolkheifcaa.Given
open Go.RowKit Go.Proofs.YtogdnolkheifcaaW.PrintWords Go.Proofs.YtogdnolkheifcaaW.PrintLast Go.Proofs.YtogdnolkheifcaaW.PrintMore Go.Proofs.Ytogdnolkheifcaa.Base Go.Proofs.Ytogdnolkheifcaa.Pure
set_option linter.unusedVariables false
set_option linter.unusedSimpArgs false

theorem infoBool : (Try.prog.info? 4).map (fun i => (i.zero, i.size, i.bytes)) = some (some (.bool false), Kd.bool.sz, 1) := by kernel_rfl
abbrev OB (w : World) (base : Nat) (A : Option Addr) (n c : Nat) (xs : List Bool) : Prop := w.ownsRow base 4 1 (.slice A n c) n (encs Value.bool xs)
theorem OB.form {w : World} {base n c : Nat} {A : Option Addr} {xs : List Bool} (h : OB w base A n c xs) (h0 : 0 < n) : ∃ g, A = some ⟨g, 0, none⟩ ∧ base ≤ g ∧ g < w.heap.size := by
  rcases h.2 with ⟨e, e2⟩ | ⟨g, cap, cur, e, hb, hh, _⟩
  · omega
  · injection e with e1 e2 e3
    exact ⟨g, e1, hb, (Array.getElem?_eq_some_iff.1 hh).1⟩
set_option maxHeartbeats 1000000 in
theorem rcount_no (d r s : Int) (A : Option Addr) (n c : Nat) (wd : World) (h : ¬ GR d r s) :
    Calls Try.prog 13 #[.agg #[.int .i64 d, .int .i64 r, .int .i64 s], .slice A n c] wd fun e w' => e = .returned (.tuple #[.slice none 0 0, .bool false]) ∧ Below wd.heap.size wd w' := by
  have H := Lib.hid ((refRight_eq d r s).trans (Right_neg h))
  clear h
  go_enter Try.func13, Try.ntmps13
  go_wp2_with (first | ((with_reducible refine gate_dst (N := 2) rfl ?_); refine box_event ?hg (N := 2) ?hd (cs := geoB d r s) (t := 23) ?hr ?_; (case hd => rfl); (case hg => rfl); (case hr => first | (go_simp; done) | (go_simp; rfl)); intro gb hgb w0 hbox hb; subst hgb; have HK : Hid (Keep wd (geoB d r s) 23 w0) := ⟨hbox, hb⟩; clear hbox hb) | ((with_reducible refine gate_dst (N := 11) rfl ?_); refine wpList_load_row rfl 23 (.tmp 2) rfl wd.heap.size rfl 23 (geoB d r s) (0, 0) _ HK.out.1 Try.underlying23 rfl (by kernel_rfl) ?_) | (go_at_call 28; refine (Base2x.moraineref03_Right.calls d r s false _ H.out).mono ?_; rintro e w1 ⟨rfl, hB⟩; have t_ := Lib.hid (Keep.step HK.out hB); clear HK; have HK := t_; clear t_ hB))
  go_ret2
  exact ⟨rfl, HK.out.2⟩

set_option maxHeartbeats 4000000 in
set_option maxRecDepth 100000 in
theorem rcount_yes (d r s : Int) (A : Option Addr) (c : Nat) (l : List Int) (wd : World) (hg : GR d r s) (hC : Kd.C (Kd.int .i64) wd A l.length l) (hc : l.length ≤ c) (hl : l.length ≤ 20000) (V : List Int × Bool) (hV : countV d r s l = V) :
    Calls Try.prog 13 #[.agg #[.int .i64 d, .int .i64 r, .int .i64 s], .slice A l.length c] wd fun e w' => ∃ v0 : Value, e = .returned (.tuple #[v0, .bool V.2]) ∧ Kd.R (Kd.int .i64) 3 w' wd.heap.size (fun _ => True) v0 V.1 ∧ Below wd.heap.size wd w' := by
  have H := Lib.hid ((refRight_eq d r s).trans (Right_pos hg))
  have HP := Lib.hid ((refPlaces_eq d r s).trans (Places_pos hg))
  have HG := Lib.hid hg
  have HC := Lib.hid hC
  have HV := Lib.hid hV
  have HL := Lib.hid hl
  have hs0 := hg.1.s0
  have hs1 := hg.1.s1
  have hp := pl_bd hg.1
  have hsp := spl_bd hg.1
  obtain ⟨S, hS⟩ : ∃ S : Nat, s = (S : Int) := ⟨s.toNat, by omega⟩
  subst hS
  obtain ⟨D, hD⟩ : ∃ D, pl d r = D := ⟨_, rfl⟩
  rw [hD] at hp hsp HP
  obtain ⟨N, hN⟩ : ∃ N : Nat, (S : Int) * D = (N : Int) := ⟨((S : Int) * D).toNat, by omega⟩
  have HD := Lib.hid hD
  have hp1 := hp.1
  have hp2 := hp.2
  have hn1 : (N : Int) ≤ 64 * 59 := by rw [← hN]; exact hsp.2
  clear hC hg hV hsp hD hp
  go_enter Try.func13, Try.ntmps13
  go_wp2_with (first | ((with_reducible refine gate_dst (N := 2) rfl ?_); refine box_event ?hg (N := 2) ?hd (cs := geoB d r S) (t := 23) ?hr ?_; (case hd => rfl); (case hg => rfl); (case hr => first | (go_simp; done) | (go_simp; rfl)); intro gb hgb w0 hbox hb; subst hgb; have HK : Hid (Keep wd (geoB d r S) 23 w0) := ⟨hbox, hb⟩; clear hbox hb) | ((with_reducible refine gate_dst (N := 11) rfl ?_); refine wpList_load_row rfl 23 (.tmp 2) rfl wd.heap.size rfl 23 (geoB d r S) (0, 0) _ HK.out.1 Try.underlying23 rfl (by kernel_rfl) ?_) | (go_at_call 28; refine (Base2x.moraineref03_Right.calls d r S true _ H.out).mono ?_; rintro e w1 ⟨rfl, hB⟩; have t_ := Lib.hid (Keep.step HK.out hB); clear HK; have HK := t_; clear t_ hB) | ((with_reducible refine gate_dst (N := 14) rfl ?_); refine wpList_load_row rfl 23 (.tmp 2) rfl wd.heap.size rfl 23 (geoB d r S) (0, 0) _ HK.out.1 Try.underlying23 rfl (by kernel_rfl) ?_) | (go_at_call 29; refine (Base2x.moraineref03_Places.calls d r S D _ HP.out).mono ?_; rintro e w2 ⟨rfl, hB⟩; have t_ := Lib.hid (Keep.step HK.out hB); clear HK; have HK := t_; clear t_ hB; have hf2 := Keep.at_ HK.out 2 rfl) | ((with_reducible refine gate_dst (N := 21) rfl ?_); refine Kd.R_make Kd.bool (w0 := w2) w2.heap.size 4 rfl (N := 21) rfl 43 (.tmp 20) (.tmp 20) rfl ((N : Int) + 1) rfl rfl Try.underlying43 (.bool false) 1 infoBool rfl (by decide) (by decide) false (ok := fun _ => True) (okp := fun _ => True) rfl (fun _ h => h) trivial (by omega) (by simp; omega) (Below.refl _ _) (Nat.le_refl _) ?_; intro v7 w4 hR hB _ _; have HR7 := Lib.hid hR; have H24 := Lib.hid hB; have t_ := Lib.hid (Keep.step HK.out hB); have HB2 : Hid (wd.heap.size + 1 ≤ w2.heap.size) := HK.out.lt; clear HK; have HK := t_; clear t_ hR hB hf2))
  obtain ⟨A7, c7, rfl⟩ := Kd.R_slice HR7.out
  have hrl : (List.replicate ((N : Int) + 1).toNat false).length = N + 1 := by simp
  have h7 : OB w4 w2.heap.size A7 (N + 1) c7 (us N (l.take 0)) := by
    have h := Kd.own_of_R HR7.out
    rw [hrl] at h
    rw [List.take_zero, us_nil]
    rw [show ((N : Int) + 1).toNat = N + 1 by omega] at h
    exact h
  rw [hrl]
  obtain ⟨g7, rfl, hg7, hg7'⟩ := h7.form (by omega)
  have HO7 := Lib.hid h7
  have HG7 := Lib.hid hg7
  have HK4 := HK
  have hll : (l.length : Int) ≤ 20000 := by omega
  clear HR7 h7 hg7 hrl HK hg7'
  go_loopw [8] (fun i wr => ∃ j : Nat, j ≤ l.length ∧ i = .int .i64 j ∧ Hid (∀ a ∈ l.take j, 0 ≤ a ∧ a ≤ (N : Int)) ∧ Hid (OB wr w2.heap.size (some ⟨g7, 0, none⟩) (N + 1) c7 (us N (l.take j))) ∧ Hid (Below w2.heap.size w4 wr)) (fun i _ => l.length - (intOf i).toNat)
  case atStart => exact ⟨0, Nat.zero_le _, rfl, Lib.hid (fun a ha => by simp at ha), HO7, Lib.hid (Below.refl _ _)⟩
  case round =>
    clear HO7
    obtain ⟨j, hj, rfl, HOK, HO7, HBel⟩ := hrel
    have HK := Lib.hid (Keep.past HK4.out (HBel.out.mono HB2.out))
    have hf2 := Keep.at_ HK.out 2 rfl
    by_cases hlt : j < l.length
    · obtain ⟨b, off, hA, hcl⟩ := addr_of_C (Kd.C_below HC.out HK.out.2) (by omega)
      subst hA
      have hcell := hcl j hlt
      obtain ⟨y, hy⟩ : ∃ y, l.getD j 0 = y := ⟨_, rfl⟩
      rw [hy] at hcell
      have HY := Lib.hid hy
      clear hcl hy
      have HYM : Hid (y ∈ l) := by
        rw [← HY.out, List.getD_eq_getElem?_getD, List.getElem?_eq_getElem hlt]
        exact List.getElem_mem hlt
      have HTK : Hid (l.take (j + 1) = l.take j ++ [y]) := by
        show _ = _
        rw [List.take_succ_eq_append_getElem hlt, ← HY.out, List.getD_eq_getElem?_getD, List.getElem?_eq_getElem hlt]; rfl
      by_cases hv : 0 ≤ y ∧ y ≤ (N : Int)
      · obtain ⟨q, rfl⟩ : ∃ q : Nat, y = (q : Int) := ⟨y.toNat, by omega⟩
        have hq : (q : Int) ≤ N := hv.2
        have hqn : q ≤ N := by omega
        clear hv
        have h8 := (own_at_of (enc := Value.bool) (d := false) HO7.out (q : Int) (by omega) (by omega))
        rw [Int.toNat_natCast] at h8
        obtain ⟨h8, h9⟩ := h8
        have h10 := (own_store_of (enc := Value.bool) HO7.out (q : Int) true).1
        rw [Int.toNat_natCast, ← us_snoc N (l.take j) hqn, ← HTK.out] at h10
        have HN := Lib.hid h10
        clear h10
        go_wp2
        have hwN : IntKind.i64.wrap (N : Int) = (N : Int) := IntWalk.i64_in _ (by omega)
        go_quiet (fail)
        clear hwN
        go_wp2
        go_roundw
        case rel =>
          refine ⟨j + 1, by omega, by go_num, ?_, ?_, ?_⟩
          · rw [HTK.out]
            refine Lib.hid (fun a ha => ?_)
            rcases List.mem_append.1 ha with h | h
            · exact HOK.out a h
            · have h0 := List.mem_singleton.1 h
              omega
          · exact HN
          · exact Lib.hid (below_set' (pw_below_drewN HBel.out _) g7 q HG7.out (.bool true))
        case measure => simp [intOf]; omega
      · have HVN : Hid (V = ([], false)) := by
          show _ = _
          rw [← HV.out]; unfold countV
          rw [if_neg]
          rintro ⟨_, hok⟩
          rw [HD.out, hN] at hok
          exact hv (hok y HYM.out)
        by_cases hv0 : y < 0
        · clear hv
          go_wp2
          have hwN : IntKind.i64.wrap (N : Int) = (N : Int) := IntWalk.i64_in _ (by omega)
          go_quiet (fail)
          clear hwN
          go_wp2
          go_ret2
          rw [HVN.out]
          exact ⟨_, rfl, Kd.R_nil _ _ _ _ _, pw_below_drewN HK.out.2 _⟩
        · have hv1 : (N : Int) < y := by omega
          have hv0' : 0 ≤ y := by omega
          have hd : decide (y < 0) = false := by simp; omega
          clear hv hv0
          go_wp2
          have hwN : IntKind.i64.wrap (N : Int) = (N : Int) := IntWalk.i64_in _ (by omega)
          go_quiet (fail)
          clear hwN
          go_wp2
          go_ret2
          rw [HVN.out]
          exact ⟨_, rfl, Kd.R_nil _ _ _ _ _, pw_below_drewN HK.out.2 _⟩
    · have hjm : j = l.length := by omega
      subst hjm
      rw [List.take_length] at HOK HO7
      have HVY : Hid (V = (cl D S (pre l N), true)) := by
        show _ = _
        rw [← HV.out]; unfold countV
        rw [HD.out, hN, if_pos ⟨HG.out, HOK.out⟩, Int.toNat_natCast, cl_pre D S l N HOK.out]
      have HO7l := Lib.hid (own_lt HO7.out)
      obtain ⟨w5, rfl⟩ : ∃ w5 : World, w5 = wr := ⟨_, rfl⟩
      go_wp2_with ((with_reducible refine gate_dst (N := 52) rfl ?_); refine Kd.R_make (Kd.int .i64) (w0 := w5) w5.heap.size 3 rfl (N := 52) rfl 24 (.tmp 51) (.tmp 51) rfl (S : Int) rfl rfl Try.underlying24 (.int .i64 0) 8 infoInt rfl (by decide) (by decide) 0 (ok := fun _ => True) (okp := fun _ => True) rfl (fun _ h => h) trivial (by omega) (by simp; omega) (Below.refl _ _) (Nat.le_refl _) ?_; intro v9 w6 hR hB _ _; rw [Int.toNat_natCast] at hR; have HR9 := Lib.hid hR; have HB56 := Lib.hid hB; have t_ := Lib.hid (Keep.step HK.out hB); have HB5 : Hid (wd.heap.size + 1 ≤ w5.heap.size) := HK.out.lt; clear HK; have HK := t_; clear t_ hR hB hf2)
      obtain ⟨A9, c9, rfl⟩ := Kd.R_slice HR9.out
      have h9 : OI w6 w5.heap.size A9 S c9 (cl D S (pre l 0)) := by
        have h := Kd.own_of_R HR9.out
        rw [List.length_replicate] at h
        rw [show pre l 0 = [] from rfl, cl_nil]
        exact h
      rw [List.length_replicate]
      obtain ⟨g9, rfl, hg9, _⟩ := h9.form (by omega)
      have HO9 := Lib.hid h9
      have HG9 := Lib.hid hg9
      have HK6 := HK
      clear HR9 h9 hg9 HK
      go_loopw [10] (fun i w' => ∃ b : Nat, b ≤ N ∧ i = .int .i64 ((b : Int) + 1) ∧ Hid (OI w' w5.heap.size (some ⟨g9, 0, none⟩) S c9 (cl D S (pre l b))) ∧ Hid (Below w5.heap.size w5 w')) (fun i _ => N + 1 - (intOf i).toNat)
      case atStart => exact ⟨0, Nat.zero_le _, rfl, HO9, HB56⟩
      case round =>
        clear HO9
        obtain ⟨b, hb, rfl, HO9, HB5w⟩ := hrel
        have HK := Lib.hid (Keep.past (w := w5) (Keep.past HK4.out (HBel.out.mono HB2.out)) (HB5w.out.mono HB5.out))
        have hf2 := Keep.at_ HK.out 2 rfl
        by_cases hlt : b < N
        · have hu := (own_at_of (enc := Value.bool) (d := false) (own_low HO7.out HO7l.out HB5w.out) ((b + 1 : Nat) : Int) (by omega) (by omega)).1
          rw [Int.toNat_natCast] at hu
          simp only [rdOf, Int.toNat_natCast] at hu
          rw [us_get N l (by omega)] at hu
          have HPS : Hid (pre l (b + 1) = pre l b ++ if (b : Int) + 1 ∈ l then [(b : Int) + 1] else []) := pre_succ l b
          by_cases hm : ((b : Int) + 1) ∈ l
          · rw [decide_eq_true (show (((b + 1 : Nat) : Int)) ∈ l from by rw [show ((b + 1 : Nat) : Int) = (b : Int) + 1 by omega]; exact hm)] at hu
            have HPT : Hid (pre l (b + 1) = pre l b ++ [(b : Int) + 1]) := by show _ = _; rw [HPS.out, if_pos hm]
            obtain ⟨q, hq⟩ : ∃ q : Nat, (b : Int) / D = (q : Int) := ⟨((b : Int) / D).toNat, by have := Int.ediv_nonneg (show 0 ≤ (b : Int) by omega) (show 0 ≤ D by omega); omega⟩
            have hqS : q < S := by
              have : (b : Int) / D < (S : Int) := Int.ediv_lt_of_lt_mul (by omega) (by omega)
              omega
            obtain ⟨z, hz⟩ : ∃ z, (cl D S (pre l b)).getD q 0 = z := ⟨_, rfl⟩
            have hzb := cl_bd D S (pre l b) q
            rw [hz] at hzb
            have hzl := pre_len l b
            have hz0 : 0 ≤ z := hzb.1
            have hz1 : z ≤ 20000 := by omega
            have h8 := own_at_of (d := (0 : Int)) HO9.out (q : Int) (by omega) (by omega)
            simp only [rdOf, Int.toNat_natCast] at h8
            rw [hz] at h8
            obtain ⟨h8, h9⟩ := h8
            have h10 := (own_store_of HO9.out (q : Int) (z + 1)).1
            rw [Int.toNat_natCast, ← hz, ← cl_snoc D S (pre l b) (a := (b : Int) + 1) (by omega) (by rw [show (b : Int) + 1 - 1 = (b : Int) by omega]; exact hq) hqS, ← HPT.out, hz] at h10
            have HN := Lib.hid h10
            have HBN := Lib.hid (below_set' HB5w.out g9 q HG9.out (.int .i64 (z + 1)))
            clear hzb hz h10 hzl hm
            go_wp2
            go_roundw
            case rel => exact ⟨b + 1, by omega, by go_num, HN, HBN⟩
            case measure => simp [intOf]; omega
          · rw [decide_eq_false (show ¬ (((b + 1 : Nat) : Int)) ∈ l from by rw [show ((b + 1 : Nat) : Int) = (b : Int) + 1 by omega]; exact hm)] at hu
            have HPT : Hid (pre l (b + 1) = pre l b) := by show _ = _; rw [HPS.out, if_neg hm, List.append_nil]
            clear hm
            go_wp2
            go_roundw
            case rel => exact ⟨b + 1, by omega, by go_num, by rw [HPT.out]; exact HO9, HB5w⟩
            case measure => simp [intOf]; omega
        · have hbN : b = N := by omega
          subst hbN
          go_wp2
          go_ret2
          rw [HVY.out]
          refine ⟨_, rfl, ?_, HK.out.2⟩
          refine Kd.R_of_own ?_ (fun _ _ => trivial)
          rw [cl_len]
          exact own_lower HO9.out (by have := HB5.out; omega)
noncomputable def moraineref09_Count.f (d r s : Int) (l : List Int) : Option (List Int × Bool) := usage_Count.f d r s l
theorem moraineref09_Count.calls (d r s : Int) (A0 : Option Addr) (c0 : Nat) (l0 : List Int) (r1 : List Int) (r2 : Bool) (w : World) (hr0 : Kd.C (Kd.int .i64) w A0 l0.length l0) (hc0 : l0.length ≤ c0) (h : moraineref09_Count.f d r s l0 = some (r1, r2)) :
    Calls Try.prog 13 #[.agg #[.int .i64 d, .int .i64 r, .int .i64 s], .slice A0 l0.length c0] w fun e w' => ∃ v0_ : Value, e = .returned (.tuple #[v0_, .bool r2]) ∧ Kd.R (Kd.int .i64) 3 w' w.heap.size (fun _ => True) v0_ r1 ∧ Below w.heap.size w w' := by
  unfold moraineref09_Count.f usage_Count.f at h
  split at h
  · cases h
  · have h := Option.some.inj h
    by_cases hg : GR d r s
    · exact rcount_yes d r s A0 c0 l0 w hg hr0 hc0 (by omega) _ h
    · unfold countV at h
      rw [if_neg (fun k => hg k.1)] at h
      cases h
      refine (rcount_no d r s A0 _ c0 w hg).mono ?_
      rintro e w' ⟨rfl, hB⟩
      exact ⟨_, rfl, Kd.R_nil _ _ _ _ _, hB⟩
end Go.Proofs.Ytogdnolkheifcaa.Given
