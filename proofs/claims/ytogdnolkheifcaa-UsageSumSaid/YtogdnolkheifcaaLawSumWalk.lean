/- The walk of UsageSum: by hand. -/
import Derived.Test.YtogdnolkheifcaaGivAlive09
import Derived.Maps.OwnSet
import Derived.Deep.RegionHeld3
namespace Go.Proofs.Ytogdnolkheifcaa.SumWalk
open Go.RowKit Go.Maps Go.Proofs.YtogdnolkheifcaaW.PrintWords Go.Proofs.YtogdnolkheifcaaW.PrintLast Go.Proofs.YtogdnolkheifcaaW.PrintMore Go.Proofs.Ytogdnolkheifcaa.Base Go.Proofs.Ytogdnolkheifcaa.Base2x Go.Proofs.Ytogdnolkheifcaa.Pure Go.Proofs.Ytogdnolkheifcaa.Given
set_option linter.unusedVariables false
set_option linter.unusedSimpArgs false

/-- How many numbers that aren't 0 a list has, each once. -/
def nzc : List Int → Nat
  | [] => 0
  | x :: P => nzc P + if x ≠ 0 ∧ ¬ x ∈ P then 1 else 0
/-- A map's datum is the set of a list's numbers that aren't 0. -/
structure IsSet (D : DataW Unit) (P : List Int) : Prop where
  tidy : Tidy D
  size : size D = nzc P
  has : ∀ x : Int, has D (.int .i64 x) = decide (x ≠ 0 ∧ x ∈ P)
theorem IsSet.nil : IsSet (.map []) [] := ⟨tidy_empty, rfl, fun x => by simp [has_eq]⟩
theorem keyLit (x : Int) : WideAt.IsKeyLit (.int .i64 x) := by trivial
theorem IsSet.zero {D : DataW Unit} {P : List Int} (h : IsSet D P) : IsSet D (0 :: P) := by
  refine ⟨h.tidy, by simp [nzc, h.size], fun x => ?_⟩
  rw [h.has]
  refine decide_eq_decide.2 ?_
  rw [List.mem_cons]
  exact ⟨fun k => ⟨k.1, .inr k.2⟩, fun k => ⟨k.1, k.2.resolve_left k.1⟩⟩
theorem IsSet.put {D : DataW Unit} {P : List Int} (h : IsSet D P) {x : Int} (h0 : x ≠ 0) (d : DataW Unit) : IsSet (D.put (.int .i64 x) d) (x :: P) := by
  refine ⟨h.tidy.put (keyLit x) d, ?_, fun y => ?_⟩
  · rw [size_put h.tidy, h.has, h.size]
    by_cases hx : x ∈ P
    · rw [if_pos (decide_eq_true ⟨h0, hx⟩)]; simp [nzc, hx]
    · rw [if_neg (by simp [hx])]; simp [nzc, hx, h0]
  · by_cases e : y = x
    · subst e
      rw [has_put_same h.tidy.isMap (keyLit y), decide_eq_true ⟨h0, List.mem_cons_self⟩]
    · rw [has_put_other (by simpa using e), h.has]
      refine decide_eq_decide.2 ?_
      rw [List.mem_cons]
      exact ⟨fun k => ⟨k.1, .inr k.2⟩, fun k => ⟨k.1, k.2.resolve_left e⟩⟩
theorem sum_bd {cs : List Int} (h0 : ∀ x ∈ cs, 0 ≤ x ∧ x ≤ 64) (hl : cs.length ≤ 64) : ∀ j, j ≤ cs.length → 0 ≤ (cs.take j).sum ∧ (cs.take j).sum ≤ 4096 := by
  have h : ∀ j : Nat, j ≤ cs.length → 0 ≤ (cs.take j).sum ∧ (cs.take j).sum ≤ 64 * (j : Int) := by
    intro j
    induction j with
    | zero => intro _; simp
    | succ j ih =>
      intro hj
      have ih := ih (by omega)
      rw [List.take_succ_eq_append_getElem (by omega), List.sum_append]
      have hb := h0 (cs[j]'(by omega)) (List.getElem_mem _)
      simp only [List.sum_cons, List.sum_nil]
      omega
  intro j hj
  have := h j hj
  omega
theorem keepC {w w1 : World} {p : Addr} {v : Value} (h : w.cell? p = some v) (hb : Below w.heap.size w w1) : w1.cell? p = some v := pw_cell_below hb h
theorem zeroB (w : World) : (zeroValue 4).run Try.prog w = .ok (.bool false) w := by kernel_rfl
/-- A map's block is no row. -/
theorem map_ne {w : World} {k : TypeId} {R : Value → Option (DataW Unit × List MemPlace)} {b n : Nat} {D : DataW Unit} (h : w.ownsMap Try.prog k R b n D) {base m : Nat} {e : TypeId} {v : Value} {xs : List Value} {sz : Nat} (ho : w.ownsRow base e sz v m xs) : some b ≠ v.ownBlock := by
  obtain ⟨es, ck, hb, _⟩ := h
  rcases ho.2 with ⟨rfl, _⟩ | ⟨g, cap, cur, rfl, _, hh, _⟩
  · simp [Value.ownBlock]
  · intro he
    have : b = g := by simpa [Value.ownBlock] using he
    subst this
    rw [hb] at hh
    cases hh
abbrev geoB (d r s : Int) : Array Value := #[.int .i64 d, .int .i64 r, .int .i64 s]

set_option maxHeartbeats 2000000 in
set_option maxRecDepth 100000 in
theorem big (d r s : Int) (A : Option Addr) (c : Nat) (n : Nat) (wd : World) (h : 5000 < n) (hn : n ≤ 17592186044416) :
    Calls Try.prog 5 #[.agg #[.int .i64 d, .int .i64 r, .int .i64 s], .slice A n c] wd fun e w' => e = .returned (.bool true) ∧ Below wd.heap.size wd w' := by
  have h1 : decide ((5000 : Int) < (n : Int)) = true := decide_eq_true (by omega)
  have h2 : (5000 : Int) < (n : Int) := by omega
  go_enter Try.func5, Try.ntmps5
  go_wp2_with (first | ((with_reducible refine gate_dst (N := 2) rfl ?_); refine box_event ?hg (N := 2) ?hd (cs := geoB d r s) (t := 23) ?hr ?_; (case hd => rfl); (case hg => rfl); (case hr => first | (go_simp; done) | (go_simp; rfl)); intro gb hgb w0 hbox hb; subst hgb; have HK : Hid (Keep wd (geoB d r s) 23 w0) := ⟨hbox, hb⟩; clear hbox hb) | (go_at_call 10; refine (morainelaw09_alive.calls true _ rfl).mono ?_; rintro e w1 ⟨rfl, hB⟩; have t_ := Lib.hid (Keep.step HK.out hB); clear HK; have HK := t_; clear t_ hB))
  go_ret
  exact ⟨rfl, HK.out.2⟩
set_option maxHeartbeats 2000000 in
set_option maxRecDepth 100000 in
theorem none_ (d r s : Int) (A : Option Addr) (c : Nat) (l : List Int) (wd : World) (hC : Kd.C (Kd.int .i64) wd A l.length l) (hc : l.length ≤ c) (h : l.length ≤ 5000) (hV : usage_Count.f d r s l = some ([], false)) :
    Calls Try.prog 5 #[.agg #[.int .i64 d, .int .i64 r, .int .i64 s], .slice A l.length c] wd fun e w' => e = .returned (.bool true) ∧ Below wd.heap.size wd w' := by
  have h1 : decide ((5000 : Int) < (l.length : Int)) = false := decide_eq_false (by omega)
  have h2 : (l.length : Int) ≤ 5000 := by omega
  have HC := Lib.hid hC
  have HV := Lib.hid hV
  clear hC hV
  go_enter Try.func5, Try.ntmps5
  go_wp2_with (first | ((with_reducible refine gate_dst (N := 2) rfl ?_); refine box_event ?hg (N := 2) ?hd (cs := geoB d r s) (t := 23) ?hr ?_; (case hd => rfl); (case hg => rfl); (case hr => first | (go_simp; done) | (go_simp; rfl)); intro gb hgb w0 hbox hb; subst hgb; have HK : Hid (Keep wd (geoB d r s) 23 w0) := ⟨hbox, hb⟩; clear hbox hb) | (go_at_call 10; refine (morainelaw09_alive.calls true _ rfl).mono ?_; rintro e w1 ⟨rfl, hB⟩; have t_ := Lib.hid (Keep.step HK.out hB); clear HK; have HK := t_; clear t_ hB) | ((with_reducible refine gate_dst (N := 20) rfl ?_); refine wpList_load_row rfl 23 (.tmp 2) rfl wd.heap.size rfl 23 (geoB d r s) (0, 0) _ HK.out.1 Try.underlying23 rfl (by kernel_rfl) ?_))
  refine (usage_Count.calls d r s A c l [] false _ (Kd.C_below HC.out HK.out.2) hc HV.out).mono ?_
  rintro e w2 ⟨v5, rfl, hR, hB⟩
  obtain ⟨A5, c5, rfl⟩ := Kd.R_slice hR
  have t_ := Lib.hid (Keep.step HK.out hB); clear HK; have HK := t_; clear t_ hB hR
  go_wp2
  go_ret
  exact ⟨rfl, HK.out.2⟩
set_option maxHeartbeats 4000000 in
set_option maxRecDepth 100000 in
theorem some_ (K : Nat) (d r s P : Int) (A : Option Addr) (c : Nat) (l cs : List Int) (wd : World) (hC : Kd.C (Kd.int .i64) wd A l.length l) (hc : l.length ≤ c) (h : l.length ≤ 5000) (hwf : ∀ x ∈ l, (Lit.int .i64 x).wf = true) (hV : usage_Count.f d r s l = some (cs, true)) (hV2 : usage_Count.f d r s l.reverse = some (cs, true))
    (hP : geo_Places.f d r s = some P) (hcs : ∀ x ∈ cs, 0 ≤ x ∧ x ≤ P) (hP2 : P ≤ 64) (hcl : cs.length ≤ 64) (hsum : cs.sum = (nzc l : Int)) (hsame : moraineref00_SameInts.f K cs cs = some true) :
    Calls Try.prog 5 #[.agg #[.int .i64 d, .int .i64 r, .int .i64 s], .slice A l.length c] wd fun e w' => e = .returned (.bool true) ∧ Below wd.heap.size wd w' := by
  have h1 : decide ((5000 : Int) < (l.length : Int)) = false := decide_eq_false (by omega)
  have h2 : (l.length : Int) ≤ 5000 := by omega
  have HC := Lib.hid hC
  have HV := Lib.hid hV
  have HV2 := Lib.hid hV2
  have HP := Lib.hid hP
  have HCS := Lib.hid hcs
  have HSUM := Lib.hid hsum
  have HSAME := Lib.hid hsame
  have HWF := Lib.hid hwf
  have hmm := @run_makeMap Try.prog
  clear hC hV hV2 hP hcs hsum hsame hwf
  go_enter Try.func5, Try.ntmps5
  go_wp2_with (first | ((with_reducible refine gate_dst (N := 2) rfl ?_); refine box_event ?hg (N := 2) ?hd (cs := geoB d r s) (t := 23) ?hr ?_; (case hd => rfl); (case hg => rfl); (case hr => first | (go_simp; done) | (go_simp; rfl)); intro gb hgb w0 hbox hb; subst hgb; have HK : Hid (Keep wd (geoB d r s) 23 w0) := ⟨hbox, hb⟩; clear hbox hb) | (go_at_call 10; refine (morainelaw09_alive.calls true _ rfl).mono ?_; rintro e w1 ⟨rfl, hB⟩; have t_ := Lib.hid (Keep.step HK.out hB); clear HK; have HK := t_; clear t_ hB) | ((with_reducible refine gate_dst (N := 20) rfl ?_); refine wpList_load_row rfl 23 (.tmp 2) rfl wd.heap.size rfl 23 (geoB d r s) (0, 0) _ HK.out.1 Try.underlying23 rfl (by kernel_rfl) ?_))
  refine (usage_Count.calls d r s A c l cs true _ (Kd.C_below HC.out HK.out.2) hc HV.out).mono ?_
  rintro e w2 ⟨v5, rfl, hR, hB⟩
  obtain ⟨A5, c5, rfl⟩ := Kd.R_slice hR
  have HC5 := Lib.hid (Kd.R_reads' hR).2.2
  have hc5 := (Kd.R_reads' hR).2.1
  have t_ := Lib.hid (Keep.step HK.out hB); clear HK; have HK := t_; clear t_ hB hR
  have HB0 := Lib.hid (Below.refl w2.heap.size w2)
  go_wp2_with ((with_reducible refine gate_dst (N := 31) rfl ?_); refine Kd.R_lit (Kd.int .i64) (w0 := w2) w2.heap.size 3 ?hg (N := 31) ?hd (xs := ([] : List Int)) (inner := []) (ok := fun _ => True) (okp := fun _ => True) ?hr ?hp (fun _ hk => hk) trivial ((Below.refl _ _).alloc (Nat.le_refl _) _) (by simp) (by simp) ?_; (case hd => rfl); (case hg => rfl); (case hr => first | (go_simp; done) | (go_simp; rfl)); (case hp => exact (Reps.none _ _)); intro v8 w3 hR8 hB3 hg3 _)
  have HM8 : Hid (w3.ownsMap Try.prog 3 (plainElem (H := Unit) Try.prog 4) w2.heap.size 0 (.map [])) := (World.ownsMap_made w2 Try.prog 3 (plainElem Try.prog 4)).kept hg3 (by simp)
  have HR8 := Lib.hid hR8
  have HB3 := Lib.hid hB3
  have hz3 : w2.heap.size < w3.heap.size := by have := hg3.size; simp at this; omega
  clear hR8 hB3 hg3
  go_loopw [8, 9] (fun v8 i wr => ∃ (m : Nat) (z : Int), m ≤ l.length ∧ i = .int .i64 z ∧ z = (m : Int) - 1 ∧ Hid (Kd.R (Kd.int .i64) 3 wr w2.heap.size (fun _ => True) v8 (l.drop m).reverse) ∧ Hid (∃ D, wr.ownsMap Try.prog 3 (plainElem (H := Unit) Try.prog 4) w2.heap.size (l.length - m) D ∧ IsSet D (l.drop m)) ∧ Hid (Below w2.heap.size w2 wr)) (fun _ i _ => ((intOf i) + 1).toNat)
  case atStart => exact ⟨l.length, _, Nat.le_refl _, rfl, rfl, by rw [List.drop_length]; exact HR8, Lib.hid ⟨_, HM8.out.mono (Nat.zero_le _), by rw [List.drop_length]; exact IsSet.nil⟩, HB3⟩
  case round =>
    obtain ⟨m, z, hm, rfl, hz, HR8, HM8, HB⟩ := hrel
    rcases Nat.eq_zero_or_pos m with h0 | h0
    · obtain rfl : z = -1 := by omega
      subst h0
      rw [List.drop_zero] at HR8 HM8
      clear hz
      rename World => wm
      obtain ⟨A8, c8, h8⟩ := Kd.R_slice HR8.out
      rw [List.length_reverse] at h8
      subst h8
      have HC8 := Lib.hid (Kd.R_reads' HR8.out).2.2
      have hc8 := (Kd.R_reads' HR8.out).2.1
      obtain ⟨D, hD, hS⟩ := HM8.out
      have HD := Lib.hid hD
      have HS := Lib.hid hS
      have HKr : Hid (Keep wd (geoB d r s) 23 wm) := HK.out.past (HB.out.mono HK.out.lt)
      have HC5r := Lib.hid (Kd.C_below HC5.out HB.out)
      clear hD hS HM8 HR8
      go_wp2_with fail
      go_loopw [10, 11] (fun sm i w' => ∃ j : Nat, j ≤ cs.length ∧ i = .int .i64 j ∧ sm = .int .i64 (cs.take j).sum ∧ Hid (Below wm.heap.size wm w')) (fun _ i _ => cs.length - (intOf i).toNat)
      case atStart => exact ⟨0, Nat.zero_le _, rfl, rfl, Lib.hid (Below.refl _ _)⟩
      case round =>
        obtain ⟨j, hj, rfl, rfl, HBq⟩ := hrel
        have HKq := Lib.hid (HKr.out.step HBq.out)
        have hjc : (cs.length : Int) ≤ 64 := by omega
        have HSB : Hid (0 ≤ (cs.take j).sum ∧ (cs.take j).sum ≤ 4096) := sum_bd (fun x hx => ⟨(HCS.out x hx).1, by have := (HCS.out x hx).2; omega⟩) hcl j hj
        obtain ⟨sm, hsm⟩ : ∃ sm, (cs.take j).sum = sm := ⟨_, rfl⟩
        rw [hsm] at HSB ⊢
        have HSM := Lib.hid hsm
        have hsb0 := HSB.out.1
        have hsb1 := HSB.out.2
        clear hsm
        by_cases hlt : j < cs.length
        · obtain ⟨b5, off5, rfl, hcl⟩ := addr_of_C HC5r.out (by omega)
          have hcell0 := hcl j hlt
          obtain ⟨y, hy⟩ : ∃ y, cs.getD j 0 = y := ⟨_, rfl⟩
          rw [hy] at hcell0
          have hmem : y ∈ cs := by rw [← hy, List.getD_eq_getElem?_getD, List.getElem?_eq_getElem hlt]; exact List.getElem_mem _
          have HTK : Hid ((cs.take (j + 1)).sum = sm + y) := by
            show _ = _
            rw [List.take_succ_eq_append_getElem hlt, List.sum_append, HSM.out, ← hy, List.getD_eq_getElem?_getD, List.getElem?_eq_getElem hlt]
            simp
          have hy0 := (HCS.out y hmem).1
          have hy1 := (HCS.out y hmem).2
          have hy2 : y ≤ 64 := by omega
          have t0 : decide (y < 0) = false := decide_eq_false (by omega)
          have t1 : decide (P < y) = false := decide_eq_false (by omega)
          have HCELL : Hid (∀ w', Below wm.heap.size wm w' → w'.cell? ⟨b5, off5 + j, none⟩ = some (.int .i64 y)) := fun w' hb => (hb.cell (p := ⟨b5, off5 + j, none⟩) (World.block_lt_of_cell? wm _ hcell0)).trans hcell0
          have hcell := HCELL.out _ HBq.out
          have a0 := Keep.at_ HKq.out 0 rfl
          have a1 := Keep.at_ HKq.out 1 rfl
          have a2 := Keep.at_ HKq.out 2 rfl
          clear hcl hy hmem hcell0
          go_wp2_with fail
          go_region_held3 (fun w' => Below wm.heap.size wm w' ∧ w'.cell? ⟨wd.heap.size, 0, none⟩ = some (.int .i64 d) ∧ w'.cell? ⟨wd.heap.size, 1, none⟩ = some (.int .i64 r) ∧ w'.cell? ⟨wd.heap.size, 2, none⟩ = some (.int .i64 s) ∧ w'.cell? ⟨b5, off5 + j, none⟩ = some (.int .i64 y)) ((repeat' apply And.intro) <;> first | assumption | exact below_drew HBq.out | (simp only [World.cell?_drew]; assumption))
            (first | (go_at_call 21; obtain ⟨Z0, Z1, Z2, Z3, Z4⟩ := ‹Below wm.heap.size wm _ ∧ _›; refine (geo_Places.calls d r s P _ HP.out).mono ?_; rintro e w' ⟨rfl, hb⟩; have Y0 := below_step Z0 hb; have Y1 := keepC Z1 hb; have Y2 := keepC Z2 hb; have Y3 := keepC Z3 hb; have Y4 := keepC Z4 hb))
          have HBF := Lib.hid (‹Below wm.heap.size wm _ ∧ _›).1
          have hcellF := HCELL.out _ HBF.out
          go_wp2
          go_roundw
          case rel => first | exact ⟨j + 1, by omega, by go_num, by rw [HTK.out], HBF⟩ | ((repeat apply Exists.intro); exact ⟨⟨j + 1, by omega, by go_num, by rw [HTK.out], HBF⟩, rfl⟩)
          case measure => simp [intOf]; omega
        · obtain rfl : j = cs.length := by omega
          rw [List.take_length] at HSM
          obtain rfl : sm = (nzc l : Int) := by rw [← HSM.out, HSUM.out]
          clear hsb0 hsb1 HSB
          go_wp2_with ((with_reducible refine gate_dst (N := 83) rfl ?_); refine wpList_load_row rfl 23 (.tmp 2) rfl wd.heap.size rfl 23 (geoB d r s) (0, 0) _ HKq.out.1 Try.underlying23 rfl (by kernel_rfl) ?_)
          have hcnt := usage_Count.calls d r s A8 c8 l.reverse cs true _ (Kd.C_below HC8.out HBq.out) (by rw [List.length_reverse]; exact hc8) HV2.out
          rw [List.length_reverse] at hcnt
          refine hcnt.mono ?_
          clear hcnt
          rintro e w5 ⟨v12, rfl, hR, hB⟩
          obtain ⟨A12, c12, rfl⟩ := Kd.R_slice hR
          have HC12 := Lib.hid (Kd.R_reads' hR).2.2
          have hc12 := (Kd.R_reads' hR).2.1
          have HBf := Lib.hid (below_step HBq.out hB)
          have HC5f := Lib.hid (Kd.C_below HC5r.out HBf.out)
          have HDf := Lib.hid (HD.out.kept (grown_of_below HBf.out none) (by simp))
          have HKf := Lib.hid (HKq.out.step hB)
          clear hR hB
          go_wp2_with (first | (at_len; refine wpList_len_own _ rfl _ 34 rfl 3 4 Try.underlying34 _ w2.heap.size _ D rfl HDf.out ?_; rw [HS.out.size]) | (go_at_call 14; refine (moraineref00_SameInts.calls K A5 c5 cs A12 c12 cs true _ HC5f.out hc5 HC12.out hc12 HSAME.out).mono ?_; rintro e w' ⟨rfl, ⟨nd, rfl⟩⟩))
          go_ret
          exact ⟨rfl, pw_below_drewN HKf.out.2 _⟩
    · obtain ⟨k, rfl⟩ : ∃ k, m = k + 1 := ⟨m - 1, by omega⟩
      obtain rfl : z = (k : Int) := by omega
      clear hz h0
      have hkl : (k : Int) < (l.length : Int) := by omega
      have hkl2 : k < l.length := by omega
      obtain ⟨b, off, rfl, hcl⟩ := addr_of_C HC.out (by omega)
      have hcell0 := hcl k hkl2
      obtain ⟨y, hy⟩ : ∃ y, l.getD k 0 = y := ⟨_, rfl⟩
      rw [hy] at hcell0
      have hDR : l.drop k = y :: l.drop (k + 1) := by
        rw [← hy, List.getD_eq_getElem?_getD, List.getElem?_eq_getElem hkl2]
        exact List.drop_eq_getElem_cons hkl2
      have HCELL : Hid (∀ w', Below w2.heap.size w2 w' → w'.cell? ⟨b, off + k, none⟩ = some (.int .i64 y)) := fun w' hb => ((HK.out.2.trans (hb.mono HK.out.2.size)).cell (p := ⟨b, off + k, none⟩) (World.block_lt_of_cell? wd _ hcell0)).trans hcell0
      have hcell := HCELL.out _ HB.out
      have HDR := Lib.hid hDR
      have HWY : Hid ((Lit.int .i64 y).wf = true) := HWF.out y (by rw [← hy, List.getD_eq_getElem?_getD, List.getElem?_eq_getElem hkl2]; exact List.getElem_mem _)
      have hlen : Hid ((l.drop (k + 1)).reverse.length ≤ 5000) := by show _ ≤ _; rw [List.length_reverse, List.length_drop]; omega
      clear hcl hy hDR hcell0
      by_cases hy0 : y = 0
      · subst hy0
        go_wp2_with ((with_reducible refine gate_builtin (b := .append) (xs := #[.tmp 49, .tmp 54]) rfl ?_); at_builtin; refine Kd.R_append (Kd.int .i64) (w0 := w2) w2.heap.size rfl (.tmp 49) (.tmp 54) 24 3 (.int .i64 0) 8 rfl Try.underlying24 infoInt rfl (by decide) (by omega) u8 (l.drop (k + 1)).reverse 0 [.int .i64 0] (fun _ => True) (fun _ => False) rfl rfl ?aP (fun _ hk => hk.elim) ?aF ?aO ?aB ?aS ?aL ?_; (case aP => exact rfl); (case aB => exact HB.out); (case aF => exact (fun _ _ => trivial)); (case aO => exact HR8.out); (case aS => exact HB.out.size); (case aL => have := hlen.out; omega); intro v18 w18 ho hb hg hat)
        go_roundw
        case rel =>
          refine ⟨k, _, by omega, rfl, rfl, ?_, ?_, Lib.hid hb⟩
          · rw [HDR.out, List.reverse_cons]; exact Lib.hid ho
          · obtain ⟨D, hD, hS⟩ := HM8.out
            exact ⟨D, (hD.kept hg (map_ne hD (Kd.own_of_R HR8.out))).mono (by omega), by rw [HDR.out]; exact hS.zero⟩
        case measure => simp [intOf]
      · have hyb : (y != 0) = true := bne_iff_ne.2 hy0
        have HY0 := Lib.hid hy0
        clear hy0
        obtain ⟨D, hD, hS⟩ := HM8.out
        have HS := Lib.hid hS
        have HR8n := Lib.hid (map_ne hD (Kd.own_of_R HR8.out))
        clear hS
        go_wp2_with (first | (at_mapUpdate; refine wpList_mapUpdate_own _ rfl _ _ _ 34 rfl 3 4 (Maps.int_keyed Try.underlying3) Try.underlying34 _ w2.heap.size (l.length - (k + 1)) D rfl hD (by unfold maxLen; omega) _ _ _ rfl rfl (Maps.keyOf_int_mk Try.underlying3 HWY.out) _ [] (plainElem_bool Try.underlying4 true) ?_; intro w4 hD4 hg4; have HB4 : Hid (Below w2.heap.size w2 w4) := HB.out.grown hg4 HB.out.size (fun k e => by cases e; exact Nat.le_refl _); have HR4 : Hid (Kd.R (Kd.int .i64) 3 w4 w2.heap.size (fun _ => True) u8 (l.drop (k + 1)).reverse) := Kd.R_grown1 HR8.out rfl hg4 HR8n.out; have hcell4 := HCELL.out _ HB4.out; have HD4 := Lib.hid hD4; clear hD4) | ((with_reducible refine gate_builtin (b := .append) (xs := #[.tmp 49, .tmp 54]) rfl ?_); at_builtin; refine Kd.R_append (Kd.int .i64) (w0 := w2) w2.heap.size rfl (.tmp 49) (.tmp 54) 24 3 (.int .i64 0) 8 rfl Try.underlying24 infoInt rfl (by decide) (by omega) u8 (l.drop (k + 1)).reverse y [.int .i64 y] (fun _ => True) (fun _ => False) rfl rfl ?aP (fun _ hk => hk.elim) ?aF ?aO ?aB ?aS ?aL ?_; (case aP => exact rfl); (case aB => exact HB4.out); (case aF => exact (fun _ _ => trivial)); (case aO => exact HR4.out); (case aS => exact HB4.out.size); (case aL => have := hlen.out; omega); intro v18 w18 ho hb hg hat))
        go_roundw
        case rel =>
          refine ⟨k, _, by omega, rfl, rfl, ?_, ?_, Lib.hid hb⟩
          · rw [HDR.out, List.reverse_cons]; exact Lib.hid ho
          · exact ⟨_, ((HD4.out.kept hg (map_ne HD4.out (Kd.own_of_R HR4.out))).mono (by omega)), by rw [HDR.out]; exact HS.out.put HY0.out _⟩
        case measure => simp [intOf]
end Go.Proofs.Ytogdnolkheifcaa.SumWalk
namespace Go.Proofs.Ytogdnolkheifcaa.PUsageSum
open Go.RowKit Go.Proofs.YtogdnolkheifcaaW.PrintWords Go.Proofs.YtogdnolkheifcaaW.PrintLast Go.Proofs.YtogdnolkheifcaaW.PrintMore Go.Proofs.Ytogdnolkheifcaa.Base Go.Proofs.Ytogdnolkheifcaa.Base2x Go.Proofs.Ytogdnolkheifcaa.Pure Go.Proofs.Ytogdnolkheifcaa.Given Go.Proofs.Ytogdnolkheifcaa.SumWalk
set_option linter.unusedVariables false
/-- What the law's walk asks: many addresses, or no counts, or counts that are as they must be. -/
def Ok (d r s : Int) (l : List Int) : Prop :=
  (∀ x ∈ l, (Lit.int .i64 x).wf = true) ∧ l.length * 8 ≤ 140737488351232 ∧ (5000 < l.length ∨ (l.length ≤ 5000 ∧ usage_Count.f d r s l = some ([], false)) ∨
    (l.length ≤ 5000 ∧ ∃ (K : Nat) (P : Int) (cs : List Int), usage_Count.f d r s l = some (cs, true) ∧ usage_Count.f d r s l.reverse = some (cs, true) ∧ geo_Places.f d r s = some P ∧ (∀ x ∈ cs, 0 ≤ x ∧ x ≤ P) ∧ P ≤ 64 ∧ cs.length ≤ 64 ∧ cs.sum = (nzc l : Int) ∧ moraineref00_SameInts.f K cs cs = some true))
noncomputable def morainelaw09_UsageSum.f (d r s : Int) (l : List Int) : Option Bool := open Classical in if Ok d r s l then some true else none
theorem morainelaw09_UsageSum.calls (d r s : Int) (A : Option Addr) (c : Nat) (l : List Int) (b : Bool) (w : World) (hC : Kd.C (Kd.int .i64) w A l.length l) (hc : l.length ≤ c) (h : morainelaw09_UsageSum.f d r s l = some b) :
    Calls Try.prog 5 #[.agg #[.int .i64 d, .int .i64 r, .int .i64 s], .slice A l.length c] w fun e w' => e = .returned (.bool b) ∧ Below w.heap.size w w' := by
  unfold morainelaw09_UsageSum.f at h
  split at h
  · rename_i hok
    cases h
    obtain ⟨hw, hs, h1 | ⟨h1, h2⟩ | ⟨h1, K, P, cs, e1, e2, e3, e4, e5, e6, e7, e8⟩⟩ := hok
    · exact big d r s A c l.length w h1 (by omega)
    · exact none_ d r s A c l w hC hc h1 h2
    · exact some_ K d r s P A c l cs w hC hc h1 hw e1 e2 e3 e4 e5 e6 e7 e8
  · cases h
end Go.Proofs.Ytogdnolkheifcaa.PUsageSum
