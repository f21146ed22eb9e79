/- The contract of usage.Count: by hand. -/
import Derived.Test.YtogdnolkheifcaaPureCount
namespace Go.Proofs.Ytogdnolkheifcaa.Given
open Go.RowKit Go.Proofs.YtogdnolkheifcaaW.PrintWords Go.Proofs.YtogdnolkheifcaaW.PrintLast Go.Proofs.YtogdnolkheifcaaW.PrintMore Go.Proofs.Ytogdnolkheifcaa.Base Go.Proofs.Ytogdnolkheifcaa.Pure
set_option linter.unusedVariables false
set_option linter.unusedSimpArgs false

theorem infoInt : (Try.prog.info? 3).map (fun i => (i.zero, i.size, i.bytes)) = some (some (.int .i64 0), (Kd.int .i64).sz, 8) := by kernel_rfl
abbrev geoB (d r s : Int) : Array Value := #[.int .i64 d, .int .i64 r, .int .i64 s]
set_option maxHeartbeats 1000000 in
theorem count_no (d r s : Int) (A : Option Addr) (n c : Nat) (wd : World) (h : ¬ GR d r s) :
    Calls Try.prog 12 #[.agg #[.int .i64 d, .int .i64 r, .int .i64 s], .slice A n c] wd fun e w' => e = .returned (.tuple #[.slice none 0 0, .bool false]) ∧ Below wd.heap.size wd w' := by
  have H := Lib.hid (Right_neg h)
  clear h
  go_enter Try.func12, Try.ntmps12
  go_wp2_with (first | ((with_reducible refine gate_dst (N := 2) rfl ?_); refine box_event ?hg (N := 2) ?hd (cs := geoB d r s) (t := 23) ?hr ?_; (case hd => rfl); (case hg => rfl); (case hr => first | (go_simp; done) | (go_simp; rfl)); intro gb hgb w0 hbox hb; subst hgb; have HK : Hid (Keep wd (geoB d r s) 23 w0) := ⟨hbox, hb⟩; clear hbox hb) | ((with_reducible refine gate_dst (N := 13) rfl ?_); refine wpList_load_row rfl 23 (.tmp 2) rfl wd.heap.size rfl 23 (geoB d r s) (0, 0) _ HK.out.1 Try.underlying23 rfl (by kernel_rfl) ?_) | (go_at_call 23; refine (geo_Right.calls d r s false _ H.out).mono ?_; rintro e w1 ⟨rfl, hB⟩; have t_ := Lib.hid (Keep.step HK.out hB); clear HK; have HK := t_; clear t_ hB))
  go_ret2
  exact ⟨rfl, HK.out.2⟩

set_option maxHeartbeats 2000000 in
set_option maxRecDepth 100000 in
theorem count_yes (d r s : Int) (A : Option Addr) (c : Nat) (l : List Int) (wd : World) (hg : GR d r s) (hC : Kd.C (Kd.int .i64) wd A l.length l) (hc : l.length ≤ c) (hl : l.length ≤ 20000) (V : List Int × Bool) (hV : countV d r s l = V) :
    Calls Try.prog 12 #[.agg #[.int .i64 d, .int .i64 r, .int .i64 s], .slice A l.length c] wd fun e w' => ∃ v0 : Value, e = .returned (.tuple #[v0, .bool V.2]) ∧ Kd.R (Kd.int .i64) 3 w' wd.heap.size (fun _ => True) v0 V.1 ∧ Below wd.heap.size wd w' := by
  have H := Lib.hid (Right_pos hg)
  have HG := Lib.hid hg
  have HC := Lib.hid hC
  have HV := Lib.hid hV
  have HL := Lib.hid hl
  obtain ⟨S, hS⟩ : ∃ S : Nat, s = (S : Int) := ⟨s.toNat, by have := hg.1.s0; omega⟩
  have hs0 := hg.1.s0
  have hs1 := hg.1.s1
  subst hS
  clear hC hg hV
  go_enter Try.func12, Try.ntmps12
  go_wp2_with (first | ((with_reducible refine gate_dst (N := 2) rfl ?_); refine box_event ?hg (N := 2) ?hd (cs := geoB d r S) (t := 23) ?hr ?_; (case hd => rfl); (case hg => rfl); (case hr => first | (go_simp; done) | (go_simp; rfl)); intro gb hgb w0 hbox hb; subst hgb; have HK : Hid (Keep wd (geoB d r S) 23 w0) := ⟨hbox, hb⟩; clear hbox hb) | ((with_reducible refine gate_dst (N := 13) rfl ?_); refine wpList_load_row rfl 23 (.tmp 2) rfl wd.heap.size rfl 23 (geoB d r S) (0, 0) _ HK.out.1 Try.underlying23 rfl (by kernel_rfl) ?_) | (go_at_call 23; refine (geo_Right.calls d r S true _ H.out).mono ?_; rintro e w1 ⟨rfl, hB⟩; have t_ := Lib.hid (Keep.step HK.out hB); clear HK; have HK := t_; clear t_ hB))
  refine (clone_calls A c l _ (Kd.C_below HC.out HK.out.2) (by have := HL.out; omega)).mono ?_
  rintro e w2 ⟨A2, c2, rfl, hO, hB⟩
  have HO := Lib.hid (own_lower hO (show wd.heap.size + 1 ≤ _ from HK.out.lt))
  have t_ := Lib.hid (Keep.step HK.out hB); clear HK; have HK := t_; clear t_ hB hO
  go_wp2_with fail
  refine (sort_calls (wd.heap.size + 1) A2 l.length c2 l _ HO.out (by omega) HK.out.lt).mono ?_
  rintro e w3 ⟨rfl, hO, hB, _⟩
  have t_ := Lib.hid (Keep.past HK.out hB); clear HK; have HK := t_; clear t_ hB HO
  have HO := Lib.hid hO
  have HA2 := Lib.hid (own_lt hO)
  have HB3 : Hid (wd.heap.size + 1 ≤ w3.heap.size) := HK.out.lt
  clear hO
  have hf2 := Keep.at_ HK.out 2 rfl
  go_wp2_with ((with_reducible refine gate_dst (N := 22) rfl ?_); refine Kd.R_make (Kd.int .i64) (w0 := w3) w3.heap.size 3 rfl (N := 22) rfl 24 (.tmp 21) (.tmp 21) rfl (S : Int) rfl rfl Try.underlying24 (.int .i64 0) 8 infoInt rfl (by decide) (by decide) 0 (ok := fun _ => True) (okp := fun _ => True) rfl (fun _ h => h) trivial (by omega) (by simp; omega) (Below.refl _ _) (Nat.le_refl _) ?_; intro v7 w4 hR hB _ _; rw [Int.toNat_natCast] at hR; have HR7 := Lib.hid hR; have t_ := Lib.hid (Keep.step HK.out hB); clear HK; have HK := t_; clear t_; have t_ := Lib.hid (pw_own_below HO.out hB); clear HO; have HO := t_; clear t_ hR; have H34 := Lib.hid hB; clear hB)
  refine (compact_calls (wd.heap.size + 1) A2 l.length c2 _ _ HO.out (by omega)).mono ?_
  rintro e w5 ⟨m, rfl, hO, hm, hB, hgr⟩
  have t_ := Lib.hid (Keep.past HK.out hB); clear HK; have HK := t_; clear t_ HO
  obtain ⟨A7, c7, rfl⟩ := Kd.R_slice HR7.out
  have h7 : OI w4 w3.heap.size A7 S c7 (List.replicate S 0) := by
    have h := Kd.own_of_R HR7.out
    rw [List.length_replicate] at h
    exact h
  rw [List.length_replicate]
  obtain ⟨g7, rfl, hg7, _⟩ := h7.form (by omega)
  have hO7 : OI w5 w3.heap.size (some ⟨g7, 0, none⟩) S c7 (cl (pl d r) S ((dd l).take 0)) := by
    rw [List.take_zero, cl_nil]
    exact OI.other h7 hgr (fun g e he => by cases e; have := HA2.out g7 he.symm; omega)
  have HG7 := Lib.hid hg7
  have hO' : OI w5 (wd.heap.size + 1) A2 m c2 (dd l) := hO
  obtain ⟨cs, hcs⟩ : ∃ cs, dd l = cs := ⟨_, rfl⟩
  have HCS := Lib.hid hcs
  have HM : Hid (cs.length = m) := by rw [← hcs]; exact hO'.len
  rw [hcs] at hO' hO7
  have HOC := Lib.hid hO'
  have HO7 := Lib.hid hO7
  have HML := Lib.hid hm
  have hm2 : m ≤ 20000 := by omega
  have HK5 := HK
  have H34' : w3.heap.size ≤ w5.heap.size := Nat.le_trans H34.out.size hB.size
  clear hO hO' hO7 hcs hB hgr h7 HR7 hg7 hm HK hf2
  go_wp2_with fail
  go_loopw [26] (fun i wr => ∃ j : Nat, j ≤ m ∧ i = .int .i64 j ∧ Hid (∀ a ∈ cs.take j, 0 ≤ a ∧ a ≤ (S : Int) * pl d r) ∧ Hid (OI wr w3.heap.size (some ⟨g7, 0, none⟩) S c7 (cl (pl d r) S (cs.take j))) ∧ Hid (Below w3.heap.size w5 wr)) (fun i _ => m - (intOf i).toNat)
  case atStart => exact ⟨0, Nat.zero_le _, rfl, Lib.hid (fun a ha => by simp at ha), HO7, Lib.hid (Below.refl _ _)⟩
  case round =>
    clear HO7
    obtain ⟨j, hj, rfl, HOK, HO7, HBel⟩ := hrel
    have HK := Lib.hid (Keep.past HK5.out (HBel.out.mono HB3.out))
    by_cases hlt : j < m
    · obtain ⟨gA, hA, _, _⟩ := HOC.out.form (by omega)
      subst hA
      have hrow := HOC.out.low (fun k hk => HA2.out k hk) HBel.out
      have hcell := (own_at_of (d := (0 : Int)) hrow (j : Int) (by omega) (by omega)).1
      obtain ⟨y, hy⟩ : ∃ y, cs.getD j 0 = y := ⟨_, rfl⟩
      simp only [rdOf, Int.toNat_natCast] at hcell
      rw [hy] at hcell
      have HY := Lib.hid hy
      clear hrow hy
      have HTK : Hid (cs.take (j + 1) = cs.take j ++ [y]) := by
        show _ = _
        rw [List.take_succ_eq_append_getElem (by rw [HM.out]; exact hlt), ← HY.out, List.getD_eq_getElem?_getD, List.getElem?_eq_getElem (by rw [HM.out]; exact hlt)]; rfl
      by_cases hy0 : y = 0
      · subst hy0
        go_wp2
        go_roundw
        case rel =>
          refine ⟨j + 1, by omega, by go_num, ?_, ?_, HBel⟩
          · rw [HTK.out]
            refine Lib.hid (fun a ha => ?_)
            rcases List.mem_append.1 ha with h | h
            · exact HOK.out a h
            · have h0 := List.mem_singleton.1 h
              have hs := spl_bd HG.out.1
              omega
          · rw [HTK.out, cl_zero]; exact HO7
        case measure => simp [intOf]; omega
      · have hyb : (y == 0) = false := beq_eq_false_iff_ne.2 hy0
        have HY0 := Lib.hid hy0
        clear hy0
        go_wp2_with ((with_reducible refine gate_dst (N := 33) rfl ?_); refine wpList_load_row rfl 23 (.tmp 2) rfl wd.heap.size rfl 23 (geoB d r S) (0, 0) _ HK.out.1 Try.underlying23 rfl (by kernel_rfl) ?_)
        by_cases hv : 1 ≤ y ∧ y ≤ (S : Int) * pl d r
        · obtain ⟨q, hq⟩ : ∃ q : Nat, (y - 1) / pl d r = (q : Int) := ⟨((y - 1) / pl d r).toNat, by have hp := pl_bd HG.out.1; have := Int.ediv_nonneg (show 0 ≤ y - 1 by omega) (show 0 ≤ pl d r by omega); omega⟩
          have hqS : q < S := by
            have hp := pl_bd HG.out.1
            have : (y - 1) / pl d r < (S : Int) := Int.ediv_lt_of_lt_mul (by omega) (by omega)
            omega
          have hw := Where_pos (d := d) (r := r) (s := (S : Int)) (a := y) 0 HG.out hv.1 hv.2
          rw [hq] at hw
          have HW := Lib.hid hw
          have HQ := Lib.hid hq
          clear hw hq
          refine (geo_Where.calls 1 d r S y q _ true _ HW.out).mono ?_
          rintro e w6 ⟨rfl, hB⟩
          have t_ := Lib.hid (HO7.out.below hB); clear HO7; have HO7 := t_; clear t_
          have t_ := Lib.hid (HBel.out.trans (hB.mono (Nat.le_trans H34' HBel.out.size))); clear HBel; have HBel := t_; clear t_
          obtain ⟨z, hz⟩ : ∃ z, (cl (pl d r) S (cs.take j)).getD q 0 = z := ⟨_, rfl⟩
          have hzb := cl_bd (pl d r) S (cs.take j) q
          rw [hz] at hzb
          have hzl : ((cs.take j).length : Int) ≤ 20000 := by rw [List.length_take]; omega
          have hz0 : 0 ≤ z := hzb.1
          have hz1 : z ≤ 20000 := by omega
          have h8 := own_at_of (d := (0 : Int)) HO7.out (q : Int) (by omega) (by omega)
          simp only [rdOf, Int.toNat_natCast] at h8
          rw [hz] at h8
          obtain ⟨h8, h9⟩ := h8
          have h10 := (own_store_of HO7.out (q : Int) (z + 1)).1
          rw [Int.toNat_natCast, ← hz, ← cl_snoc (pl d r) S (cs.take j) HY0.out HQ.out hqS, ← HTK.out, hz] at h10
          have HN := Lib.hid h10
          have HBN := Lib.hid (below_set' HBel.out g7 q HG7.out (.int .i64 (z + 1)))
          clear hzb hz h10 hzl hB
          go_wp2
          go_roundw
          case rel =>
            refine ⟨j + 1, by omega, by go_num, ?_, HN, HBN⟩
            rw [HTK.out]
            refine Lib.hid (fun a ha => ?_)
            rcases List.mem_append.1 ha with h | h
            · exact HOK.out a h
            · have h0 := List.mem_singleton.1 h
              omega
          case measure => simp [intOf]; omega
        · have HW := Lib.hid (Where_neg (d := d) (r := r) (s := (S : Int)) (a := y) 0 (fun h => hv ⟨h.2.1, h.2.2⟩))
          refine (geo_Where.calls 1 d r S y 0 0 false _ HW.out).mono ?_
          rintro e w6 ⟨rfl, hB⟩
          have HK6 := Lib.hid (Keep.step HK.out hB)
          have HVN : Hid (V = ([], false)) := by
            show _ = _
            rw [← HV.out]; unfold countV
            rw [if_neg]
            rintro ⟨_, hok⟩
            have hm1 : y ∈ l := by
              rw [← mem_dd, HCS.out, ← HY.out, List.getD_eq_getElem?_getD, List.getElem?_eq_getElem (by rw [HM.out]; exact hlt)]
              exact List.getElem_mem _
            have h1 := hok y hm1
            have h2 := HY0.out
            exact hv ⟨by omega, h1.2⟩
          clear hB hv
          go_wp2
          go_ret2
          rw [HVN.out]
          exact ⟨_, rfl, Kd.R_nil _ _ _ _ _, HK6.out.2⟩
    · have hjm : j = m := by omega
      subst hjm
      have HVY : Hid (V = (cl (pl d r) S cs, true)) := by
        show _ = _
        rw [← HV.out]; unfold countV
        rw [if_pos, HCS.out, Int.toNat_natCast]
        refine ⟨HG.out, fun x hx => ?_⟩
        rw [← mem_dd, HCS.out] at hx
        rw [← HM.out, List.take_length] at HOK
        exact HOK.out x hx
      rw [← HM.out, List.take_length] at HO7
      go_wp2
      go_ret2
      rw [HVY.out]
      refine ⟨_, rfl, ?_, HK.out.2⟩
      refine Kd.R_of_own ?_ (fun _ _ => trivial)
      rw [cl_len]
      exact own_lower HO7.out (by have := HB3.out; omega)
open Classical in
noncomputable def usage_Count.f (d r s : Int) (l : List Int) : Option (List Int × Bool) := if 20000 < l.length then none else some (countV d r s l)
theorem usage_Count.calls (d r s : Int) (A0 : Option Addr) (c0 : Nat) (l0 : List Int) (r1 : List Int) (r2 : Bool) (w : World) (hr0 : Kd.C (Kd.int .i64) w A0 l0.length l0) (hc0 : l0.length ≤ c0) (h : usage_Count.f d r s l0 = some (r1, r2)) :
    Calls Try.prog 12 #[.agg #[.int .i64 d, .int .i64 r, .int .i64 s], .slice A0 l0.length c0] w fun e w' => ∃ v0_ : Value, e = .returned (.tuple #[v0_, .bool r2]) ∧ Kd.R (Kd.int .i64) 3 w' w.heap.size (fun _ => True) v0_ r1 ∧ Below w.heap.size w w' := by
  unfold usage_Count.f at h
  split at h
  · cases h
  · have h := Option.some.inj h
    by_cases hg : GR d r s
    · exact count_yes d r s A0 c0 l0 w hg hr0 hc0 (by omega) _ h
    · unfold countV at h
      rw [if_neg (fun k => hg k.1)] at h
      cases h
      refine (count_no d r s A0 _ c0 w hg).mono ?_
      rintro e w' ⟨rfl, hB⟩
      exact ⟨_, rfl, Kd.R_nil _ _ _ _ _, hB⟩
end Go.Proofs.Ytogdnolkheifcaa.Given
