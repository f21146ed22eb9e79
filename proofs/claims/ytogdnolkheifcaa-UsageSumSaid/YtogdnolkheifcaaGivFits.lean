/- The contract of usage.Fits: by hand. -/
import Derived.Test.YtogdnolkheifcaaGivCount
import Derived.Deep.RegionWith
import Derived.Deep.QuietTactic
import Derived.BigQuiet
import Derived.WalkLawsBesides
import Derived.IntWalk
namespace Go.Proofs.Ytogdnolkheifcaa.Given
open Go.RowKit Go.Proofs.YtogdnolkheifcaaW.PrintWords Go.Proofs.YtogdnolkheifcaaW.PrintLast Go.Proofs.YtogdnolkheifcaaW.PrintMore Go.Proofs.Ytogdnolkheifcaa.Base Go.Proofs.Ytogdnolkheifcaa.Pure
set_option linter.unusedVariables false
set_option linter.unusedSimpArgs false

def need (D b : Int) : Int := (b + D - 1) / D
def used (cs : List Int) : Nat := (cs.filter fun c => decide (0 < c)).length
theorem used_snoc (P : List Int) (y : Int) : used (P ++ [y]) = used P + if 0 < y then 1 else 0 := by
  unfold used
  rw [List.filter_append, List.length_append]
  by_cases h : 0 < y <;> simp [h]
theorem used_le (P : List Int) : used P ≤ P.length := List.length_filter_le _ _
theorem need_bd {D b : Int} (h1 : 1 ≤ D) (h2 : D ≤ 59) (h0 : 0 ≤ b) (h3 : b ≤ 100000) : 0 ≤ need D b ∧ need D b ≤ 200000 := by
  unfold need
  have a := Int.ediv_nonneg (show 0 ≤ b + D - 1 by omega) (show 0 ≤ D by omega)
  have c := Int.ediv_le_self D (show 0 ≤ b + D - 1 by omega)
  omega
theorem need_calls (D b : Int) (g : Nat) (W : World) (hb : W.cell? ⟨g, 0, none⟩ = some (.int .i64 D)) (h1 : 1 ≤ D) (h2 : D ≤ 59) (h0 : 0 ≤ b) (h3 : b ≤ 100000) :
    Calls Try.prog 35 #[.int .i64 b, .pointer (some ⟨g, 0, none⟩)] W fun e w' => e = .returned (.int .i64 (need D b)) ∧ W = w' := by
  have H : Hid ((b + D - 1) / D = need D b) := rfl
  have hn : (D == 0) = false := beq_eq_false_iff_ne.2 (by omega)
  have hq0 : 0 ≤ (b + D - 1) / D := Int.ediv_nonneg (by omega) (by omega)
  have hq1 : (b + D - 1) / D ≤ b + D - 1 := Int.ediv_le_self _ (by omega)
  go_enter Try.func35, Try.ntmps35
  go_wp2
  go_ret
  refine ⟨?_, rfl⟩
  show Ending.returned (.int .i64 ((b + D - 1) / D)) = _
  rw [H.out]
/-- Whether there is room. -/
def fitsV (D S : Int) (cs : List Int) (old data more : Int) : Bool := decide (0 ≤ old ∧ 0 ≤ data ∧ 0 ≤ more ∧ old ≤ 100000 ∧ data ≤ 100000 ∧ more ≤ 100000) && decide (∀ c ∈ cs, 0 ≤ c) && decide ((used cs : Int) + need D data + max (old + need D more) (2 * need D more + 1) ≤ S)
abbrev FBOX (D : Int) : Array Value := #[.int .i64 D]
set_option maxHeartbeats 1000000 in
theorem fits_no (d r s : Int) (A : Option Addr) (n c : Nat) (old data more : Int) (wd : World) (h : ¬ GR d r s) :
    Calls Try.prog 19 #[.agg #[.int .i64 d, .int .i64 r, .int .i64 s], .slice A n c, .int .i64 old, .int .i64 data, .int .i64 more] wd fun e w' => e = .returned (.bool false) ∧ Below wd.heap.size wd w' := by
  have H := Lib.hid (Places_neg h)
  clear h
  go_enter Try.func19, Try.ntmps19
  go_wp2_with (first | ((with_reducible refine gate_dst (N := 5) rfl ?_); refine box_event ?hg (N := 5) ?hd (cs := geoB d r s) (t := 23) ?hr ?_; (case hd => rfl); (case hg => rfl); (case hr => first | (go_simp; done) | (go_simp; rfl)); intro gb hgb w0 hbox hb; subst hgb; have HK : Hid (Keep wd (geoB d r s) 23 w0) := ⟨hbox, hb⟩; clear hbox hb) | ((with_reducible refine gate_dst (N := 16) rfl ?_); refine wpList_load_row rfl 23 (.tmp 5) rfl wd.heap.size rfl 23 (geoB d r s) (0, 0) _ HK.out.1 Try.underlying23 rfl (by kernel_rfl) ?_) | (go_at_call 21; refine (geo_Places.calls d r s 0 _ H.out).mono ?_; rintro e w1 ⟨rfl, hB⟩; have t_ := Lib.hid (Keep.step HK.out hB); clear HK; have HK := t_; clear t_ hB))
  go_ret
  exact ⟨rfl, below_alloc HK.out.2 _⟩
/-- The numbers are within bounds. -/
def okO (old data more : Int) : Bool := decide (0 ≤ old ∧ 0 ≤ data ∧ 0 ≤ more ∧ old ≤ 100000 ∧ data ≤ 100000 ∧ more ≤ 100000)
set_option maxHeartbeats 1000000 in
theorem fits_yes (d r : Int) (S D : Int) (A : Option Addr) (c : Nat) (l : List Int) (old data more : Int) (wd : World) (hg : GR d r S) (hD : pl d r = D) (hC : Kd.C (Kd.int .i64) wd A l.length l) (hl : l.length ≤ 140737488355328) :
    Calls Try.prog 19 #[.agg #[.int .i64 d, .int .i64 r, .int .i64 S], .slice A l.length c, .int .i64 old, .int .i64 data, .int .i64 more] wd fun e w' => e = .returned (.bool (fitsV D S l old data more)) ∧ Below wd.heap.size wd w' := by
  have hp := pl_bd hg.1
  rw [hD] at hp
  have H : Hid (geo_Places.f d r S = some D) := by show _ = _; rw [Places_pos hg, hD]
  have hp1 := hp.1
  have hp2 := hp.2
  have hs0 := hg.1.s0
  have hs1 := hg.1.s1
  have hd0 : (D == 0) = false := beq_eq_false_iff_ne.2 (by omega)
  have HC := Lib.hid hC
  have HD := Lib.hid hD
  clear hp hD hC hg
  go_enter Try.func19, Try.ntmps19
  go_upto_region 2 with (first | ((with_reducible refine gate_dst (N := 5) rfl ?_); refine box_event ?hg (N := 5) ?hd (cs := geoB d r S) (t := 23) ?hr ?_; (case hd => rfl); (case hg => rfl); (case hr => first | (go_simp; done) | (go_simp; rfl)); intro gb hgb w0 hbox hb; subst hgb; have HK : Hid (Keep wd (geoB d r S) 23 w0) := ⟨hbox, hb⟩; clear hbox hb) | ((with_reducible refine gate_dst (N := 16) rfl ?_); refine wpList_load_row rfl 23 (.tmp 5) rfl wd.heap.size rfl 23 (geoB d r S) (0, 0) _ HK.out.1 Try.underlying23 rfl (by kernel_rfl) ?_) | (go_at_call 21; refine (geo_Places.calls d r S D _ H.out).mono ?_; rintro e w1 ⟨rfl, hB⟩; have t_ := Lib.hid (Keep.step HK.out hB); clear HK; have HK := t_; clear t_ hB))
  obtain ⟨W1, hW1⟩ : ∃ W1, w1.alloc (.cells #[.int .i64 D] 3) = W1 := ⟨_, rfl⟩
  have HB1 : Hid (W1.cell? ⟨w1.heap.size, 0, none⟩ = some (.int .i64 D) ∧ Keep wd (geoB d r S) 23 W1) := by
    rw [← hW1]
    exact ⟨(blk_cell (blk_new w1 _) 0).trans rfl, HK.out.alloc _⟩
  rw [hW1]
  have hbd : W1.cell? ⟨w1.heap.size, 0, none⟩ = some (.int .i64 D) := HB1.out.1
  clear hW1 HK
  go_cut [33] (fun v wc => W1 = wc ∧ v = .bool (!okO old data more))
  case first =>
    go_wp2
    all_goals (go_meet; refine ⟨rfl, congrArg Value.bool ?_⟩; rw [Bool.eq_iff_iff]; simp [okO]; omega)
  case rest =>
    obtain ⟨rfl, rfl⟩ := hcut
    have HK := HB1.out.2
    have HKb := Lib.hid HK.2
    have hfs : W1.cell? ⟨wd.heap.size, 2, none⟩ = some (.int .i64 S) := Keep.at_ HK 2 rfl
    have HCW := Lib.hid (Kd.C_below HC.out HK.2)
    clear HK
    cases hok : okO old data more with
    | false =>
      go_wp2
      go_ret
      refine ⟨?_, HKb.out⟩
      unfold fitsV
      rw [show decide (0 ≤ old ∧ 0 ≤ data ∧ 0 ≤ more ∧ old ≤ 100000 ∧ data ≤ 100000 ∧ more ≤ 100000) = false from hok]
      rfl
    | true =>
      have hb := of_decide_eq_true hok
      obtain ⟨o1, o2, o3, o4, o5, o6⟩ := hb
      have HOK := Lib.hid hok
      clear hok
      go_wp2
      go_loop [12, 36] (fun u i => ∃ j : Nat, j ≤ l.length ∧ i = .int .i64 j ∧ u = .int .i64 (used (l.take j) : Nat) ∧ Hid (∀ a ∈ l.take j, 0 ≤ a)) (fun _ i => l.length - (intOf i).toNat)
      case atStart => exact ⟨0, Nat.zero_le _, rfl, rfl, Lib.hid (fun a ha => by simp at ha)⟩
      case round =>
        obtain ⟨j, hj, rfl, rfl, HOA⟩ := hrel
        have hul := used_le (l.take j)
        have hut : (l.take j).length ≤ j := by rw [List.length_take]; omega
        obtain ⟨u, hu⟩ : ∃ u : Nat, used (l.take j) = u := ⟨_, rfl⟩
        have HU := Lib.hid hu
        rw [hu] at hul ⊢
        have hu2 : u ≤ 140737488355328 := by omega
        clear hu hul hut
        by_cases hlt : j < l.length
        · obtain ⟨b, off, hA, hcl⟩ := addr_of_C HCW.out (by omega)
          subst hA
          have hcell := hcl j hlt
          obtain ⟨y, hy⟩ : ∃ y, l.getD j 0 = y := ⟨_, rfl⟩
          rw [hy] at hcell
          have HY := Lib.hid hy
          clear hcl hy
          have HTK : Hid (l.take (j + 1) = l.take j ++ [y]) := by
            show _ = _
            rw [List.take_succ_eq_append_getElem hlt, ← HY.out, List.getD_eq_getElem?_getD, List.getElem?_eq_getElem hlt]; rfl
          have HYM : Hid (y ∈ l) := by
            rw [← HY.out, List.getD_eq_getElem?_getD, List.getElem?_eq_getElem hlt]
            exact List.getElem_mem hlt
          by_cases hy0 : y < 0
          · go_wp2
            go_ret
            refine ⟨?_, HKb.out⟩
            unfold fitsV
            rw [decide_eq_false (show ¬ ∀ c ∈ l, 0 ≤ c from fun h => by have := h y HYM.out; omega), Bool.and_false]
            rfl
          · by_cases hy1 : 0 < y
            · go_wp2
              go_round
              case rel => exact ⟨j + 1, by omega, by go_num, by rw [HTK.out, used_snoc, if_pos hy1, HU.out]; go_num, by rw [HTK.out]; exact Lib.hid (fun a ha => (List.mem_append.1 ha).elim (HOA.out a) (fun h => by rw [List.mem_singleton.1 h]; omega))⟩
              case measure => simp [intOf]; omega
            · go_wp2
              go_round
              case rel => exact ⟨j + 1, by omega, by go_num, by rw [HTK.out, used_snoc, if_neg hy1, HU.out]; rfl, by rw [HTK.out]; exact Lib.hid (fun a ha => (List.mem_append.1 ha).elim (HOA.out a) (fun h => by rw [List.mem_singleton.1 h]; omega))⟩
              case measure => simp [intOf]; omega
        · have hjl : j = l.length := by omega
          subst hjl
          rw [List.take_length] at HU HOA
          go_wp2
          have bd := need_bd hp1 hp2 o2 o5
          have bm := need_bd hp1 hp2 o3 o6
          obtain ⟨bd0, bd1⟩ := bd
          obtain ⟨bm0, bm1⟩ := bm
          have HBD := Lib.hid hbd
          have CN : Hid (∀ (b : Int) (k : Nat), 0 ≤ b → b ≤ 100000 → Calls Try.prog 35 #[.int .i64 b, .pointer (some ⟨w1.heap.size, 0, none⟩)] (W1.drewN k) fun e w' => e = .returned (.int .i64 (need D b)) ∧ w' = W1.drewN k) := fun b k h1 h2 => (need_calls D b _ (W1.drewN k) HBD.out hp1 hp2 h1 h2).mono (fun e w' h => ⟨h.1, h.2.symm⟩)
          have HVF : Hid (fitsV D S l old data more = decide ((u : Int) + need D data + max (old + need D more) (2 * need D more + 1) ≤ S)) := by
            show _ = _
            unfold fitsV
            rw [HU.out, decide_eq_true (show ∀ c ∈ l, 0 ≤ c from HOA.out), show decide (0 ≤ old ∧ 0 ≤ data ∧ 0 ≤ more ∧ old ≤ 100000 ∧ data ≤ 100000 ∧ more ≤ 100000) = true from HOK.out]
            rfl
          have q1 : IntKind.i64.wrap ((u : Int) + need D data) = (u : Int) + need D data := IntWalk.i64_in _ (by omega)
          have q2 : IntKind.i64.wrap (old + need D more) = old + need D more := IntWalk.i64_in _ (by omega)
          have q3 : IntKind.i64.wrap (2 * need D more) = 2 * need D more := IntWalk.i64_in _ (by omega)
          have q4 : IntKind.i64.wrap (2 * need D more + 1) = 2 * need D more + 1 := IntWalk.i64_in _ (by omega)
          clear hbd
          have q5 : IntKind.i64.wrap ((u : Int) + need D data + max (old + need D more) (2 * need D more + 1)) = (u : Int) + need D data + max (old + need D more) (2 * need D more + 1) := IntWalk.i64_in _ (by omega)
          go_quiet ((go_at_call 35; exact Calls.quiet_of_same (CN.out _ _ (by first | exact o2 | exact o3) (by first | exact o5 | exact o6))))
          go_wp2
          go_ret
          refine ⟨?_, pw_below_drewN HKb.out _⟩
          rw [HVF.out]
          rfl
open Classical in
noncomputable def usage_Fits.f (d r s : Int) (cs : List Int) (old data more : Int) : Option Bool := if 140737488355328 < cs.length then none else some (if GR d r s then fitsV (pl d r) s cs old data more else false)
theorem usage_Fits.calls (d r s : Int) (A : Option Addr) (c : Nat) (l : List Int) (old data more : Int) (b : Bool) (w : World) (hC : Kd.C (Kd.int .i64) w A l.length l) (hc : l.length ≤ c) (h : usage_Fits.f d r s l old data more = some b) :
    Calls Try.prog 19 #[.agg #[.int .i64 d, .int .i64 r, .int .i64 s], .slice A l.length c, .int .i64 old, .int .i64 data, .int .i64 more] w fun e w' => e = .returned (.bool b) ∧ Below w.heap.size w w' := by
  unfold usage_Fits.f at h
  split at h
  · cases h
  · have h := Option.some.inj h
    by_cases hg : GR d r s
    · rw [if_pos hg] at h
      subst h
      exact fits_yes d r s _ A c l old data more w hg rfl hC (by omega)
    · rw [if_neg hg] at h
      subst h
      exact fits_no d r s A _ c old data more w hg
end Go.Proofs.Ytogdnolkheifcaa.Given
