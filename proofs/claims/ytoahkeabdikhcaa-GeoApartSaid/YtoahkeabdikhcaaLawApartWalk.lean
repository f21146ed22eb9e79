/- The walk of GeoApart: by hand. -/
import Derived.Test.YtoahkeabdikhcaaGivSpot
import Derived.Deep.RegionHeld3
import Derived.Deep.QuietTactic
import Derived.BigQuiet
namespace Go.Proofs.Ytoahkeabdikhcaa.ApartWalk
open Go.RowKit Go.Maps Go.Proofs.YtoahkeabdikhcaaW.PrintWords Go.Proofs.YtoahkeabdikhcaaW.PrintLast Go.Proofs.YtoahkeabdikhcaaW.PrintMore Go.Proofs.Ytoahkeabdikhcaa.Base Go.Proofs.Ytoahkeabdikhcaa.Pure Go.Proofs.Ytoahkeabdikhcaa.Given
set_option linter.unusedVariables false
set_option linter.unusedSimpArgs false
theorem keepN {w w1 : World} {cs : Array Value} {t : TypeId} {i : Nat} {v : Value} (h : cs[i]? = some v) (hb : Below (w.alloc (.cells cs t)).heap.size (w.alloc (.cells cs t)) w1) : w1.cell? ⟨w.heap.size, i, none⟩ = some v :=
  pw_cell_below hb ((blk_cell (blk_new w _) i).trans h)
theorem belA {w0 w w1 : World} {o : Obj} (h : Below w0.heap.size w0 w) (hb : Below (w.alloc o).heap.size (w.alloc o) w1) : Below w0.heap.size w0 w1 := below_then (below_alloc h o) (below_alloc h o).size hb
/-- The numbers that the walk wants. -/
structure Nums (d r s P q : Int) : Prop where
  g : GR d r s
  hP : pl d r = P
  P0 : 1 ≤ P
  P1 : P ≤ 59
  row : P + 1 = r * (d - 1)
  q : q = P + 1 + r
theorem nums {d r s : Int} (h : GR d r s) : Nums d r s (pl d r) (r * d) := by
  have hp := pl_bd h.1
  refine ⟨h, rfl, hp.1, hp.2, by unfold pl; omega, ?_⟩
  unfold pl
  rw [Int.mul_sub]
  omega
theorem Nums.q_eq {d r s P q : Int} (h : Nums d r s P q) : q = r * d := by
  have h1 := h.row
  have h2 := h.q
  rw [Int.mul_sub] at h1
  omega
theorem cnt_bd {d r s P q : Int} (h : Nums d r s P q) {a : Int} (a0 : 0 ≤ a) (a1 : a ≤ 64) : 0 ≤ a * q ∧ a * q ≤ 64 * 64 :=
  mul_bd a0 a1 (by have := h.P0; have := h.g.1.r0; have := h.q; omega) (by have := h.P1; have := h.g.1.r1; have := h.q; omega)
theorem spot_wf {d t c : Int} (h0 : 3 ≤ d) (h1 : d ≤ 16) (t0 : 0 ≤ t) (t1 : t ≤ 256) : (Lit.int .i64 (sp d t c).1).wf = true ∧ (Lit.int .i64 (sp d t c).2).wf = true := by
  have hb := sp_bd (d := d) (t := t) (c := c) h0
  exact ⟨WalkArith.wf_i64 (by omega), WalkArith.wf_i64 (by show _ ∧ _; unfold sp; omega)⟩
set_option maxHeartbeats 8000000 in
set_option maxRecDepth 100000 in
theorem good (K : Nat) (d r s P q : Int) (w : World) (hN : Nums d r s P q) (hal : morainelaw03_alive.f K = some true) :
    Calls Try.prog 4 #[.agg #[.int .i64 d, .int .i64 r, .int .i64 s]] w fun e w' => e = .returned (.bool true) ∧ Below w.heap.size w w' := by
  have hd0 := hN.g.1.d0; have hd1 := hN.g.1.d1; have hr0 := hN.g.1.r0; have hr1 := hN.g.1.r1; have hs0 := hN.g.1.s0; have hs1 := hN.g.1.s1
  have hP0 := hN.P0; have hP1 := hN.P1
  have HN := Lib.hid hN
  have HA := Lib.hid hal
  have hmm := @run_makeMap Try.prog
  clear hN hal
  go_enter Try.func4, Try.ntmps4
  go_wp2_with fail
  refine (morainelaw03_alive.calls K true _ HA.out).mono ?_
  rintro e w1 ⟨rfl, hb⟩
  have KG1 : Hid (KG w d r s w1) := ⟨belA (Below.refl w.heap.size w) hb, keepN rfl hb, keepN rfl hb, keepN rfl hb⟩
  have p0 := KG1.out.2.1; have p1 := KG1.out.2.2.1; have p2 := KG1.out.2.2.2
  clear hb
  go_wp2_with fail
  refine (geo_Right.calls d r s true _ (Right_pos HN.out.g)).mono ?_
  rintro e w2 ⟨rfl, hb⟩
  have KG2 := Lib.hid (KG1.out.step hb)
  clear hb p0 p1 p2 KG1
  have p0 := KG2.out.2.1; have p1 := KG2.out.2.2.1; have p2 := KG2.out.2.2.2
  have HBW : Hid (w.heap.size ≤ w2.heap.size) := KG2.out.1.size
  have KG3 : Hid (KG w d r s (w2.alloc (.map #[] 0))) := KG2.out.step ((Below.refl _ w2).alloc (Nat.le_refl _) _)
  have M3 : Hid ((w2.alloc (.map #[] 0)).ownsMap Try.prog 31 tokR w2.heap.size 0 (.map [])) := World.ownsMap_made w2 Try.prog 31 tokR
  go_wp2
  clear p0 p1 p2 KG2
  go_loopw [4] (fun i wr => ∃ (a : Nat) (L : List (Int × Int)) (D : DataW Value), (a : Int) ≤ s ∧ i = .int .i64 a ∧ Hid (KG w d r s wr) ∧ Hid (wr.ownsMap Try.prog 31 tokR w2.heap.size L.length D) ∧ Hid (IsSpots D L) ∧ Hid (Vis (VA d r a 0) d L) ∧ Hid ((L.length : Int) = a * q)) (fun i _ => (64 - intOf i).toNat)
  case atStart => exact ⟨0, [], _, by omega, rfl, KG3, M3, IsSpots.nil, (fun p hp => absurd hp (by simp)), (by show _ = _; simp)⟩
  case round =>
    obtain ⟨a, L, D, ha, rfl, HG, HM, HS, HV, HL⟩ := hrel
    have p0 := HG.out.2.1; have p1 := HG.out.2.2.1; have p2 := HG.out.2.2.2
    by_cases hlt : (a : Int) < s
    · have hda : decide ((a : Int) < s) = true := decide_eq_true hlt
      go_wp2
      clear p0 p1 p2
      go_loopw [5] (fun i wr => ∃ (k : Nat) (L : List (Int × Int)) (D : DataW Value), (k : Int) ≤ P + 1 ∧ i = .int .i64 k ∧ Hid (KG w d r s wr) ∧ Hid (wr.ownsMap Try.prog 31 tokR w2.heap.size L.length D) ∧ Hid (IsSpots D L) ∧ Hid (Vis (VA d r a k) d L) ∧ Hid ((L.length : Int) = a * q + k)) (fun i _ => (64 - intOf i).toNat)
      case atStart => exact ⟨0, L, D, by omega, rfl, HG, HM, HS, HV, (by show _ = _; rw [HL.out]; simp)⟩
      case round =>
        clear HG HM HS HV HL
        obtain ⟨k, L, D, hk, rfl, HG, HM, HS, HV, HL⟩ := hrel
        obtain ⟨w3, rfl⟩ : ∃ z : World, z = wr := ⟨_, rfl⟩
        have p0 := HG.out.2.1; have p1 := HG.out.2.2.1; have p2 := HG.out.2.2.2
        have hpl : geo_Places.f d r s = some P := by rw [Places_pos HN.out.g, HN.out.hP]
        go_wp2_with fail
        refine (geo_Places.calls d r s P _ hpl).mono ?_
        rintro e w4 ⟨rfl, hb⟩
        have HG4 := Lib.hid (HG.out.step hb)
        have HM4 := Lib.hid (own_below HM.out hb)
        clear hb p0 p1 p2 HG HM hpl
        have p0 := HG4.out.2.1; have p1 := HG4.out.2.2.1; have p2 := HG4.out.2.2.2
        by_cases hkP : (k : Int) ≤ P
        · have hdk : decide ((k : Int) ≤ P) = true := decide_eq_true hkP
          have hBR : BR d r s a k := ⟨HN.out.g, ⟨by omega, by omega⟩, ⟨by omega, by rw [HN.out.hP]; exact hkP⟩⟩
          have hrow := row_of hBR
          have hstr := str_bd hrow
          obtain ⟨t, ht⟩ : ∃ t, (a : Int) * r + k / (d - 1) = t := ⟨_, rfl⟩
          obtain ⟨c, hc⟩ : ∃ c, (k : Int) % (d - 1) = c := ⟨_, rfl⟩
          have hc0 : 0 ≤ c := by rw [← hc]; exact Int.emod_nonneg _ (by omega)
          have hc1 : c < d - 1 := by rw [← hc]; exact Int.emod_lt_of_pos _ (by omega)
          have ht0 : 0 ≤ t := by have := hrow.2.2.1; omega
          have har : ((a : Int) + 1) * r ≤ s * r := Int.mul_le_mul_of_nonneg_right (by omega) (by omega)
          rw [Int.add_mul, Int.one_mul] at har
          have ht1 : t < s * r := by have := hrow.2.2.2; omega
          have hsr := mul_bd (a := s) (b := r) (A := 64) (B := 4) (by omega) hs1 (by omega) hr1
          have hbl : geo_Block.f (K + 1) d r s a k = some ((sp d t c).1, (sp d t c).2, true) := by
            rw [Block_pos K hBR, bd_sp, ht, hc]; rfl
          have hnew : ¬ VA d r a k t c := by rw [← ht, ← hc]; exact VA_new hd0 (by omega)
          have hput : VA d r a (k + 1) t c := by rw [← ht, ← hc]; exact VA_put hd0 (by omega)
          have hfresh := HV.out.fresh hd0 hd1 hc0 (by omega) hnew
          have hpush := HV.out.push (V1 := VA d r a (k + 1)) hc0 (by omega) hput (fun _ _ => VA_mono)
          have hwf := spot_wf (c := c) hd0 hd1 ht0 (by omega)
          obtain ⟨kl, hkl⟩ := key_spot (sp d t c) hwf.1 hwf.2
          have hxb := sp_bd (d := d) (t := t) (c := c) hd0
          have hyb : (sp d t c).2 = 5 + t := rfl
          obtain ⟨x, hx⟩ : ∃ x, (sp d t c).1 = x := ⟨_, rfl⟩
          obtain ⟨y, hy⟩ : ∃ y, (sp d t c).2 = y := ⟨_, rfl⟩
          have hpe : sp d t c = (x, y) := Prod.ext hx hy
          rw [hpe] at hfresh hpush hkl hxb hyb hbl
          have hsec : geo_Sectors.f d r s = some (5 + s * r) := Sectors_pos HN.out.g
          obtain ⟨S, hS⟩ : ∃ S, 5 + s * r = S := ⟨_, rfl⟩
          rw [hS] at hsec
          have hxb0 : 0 ≤ x := hxb.1
          have hxb1 : x < d := hxb.2
          have hyb0 : 5 ≤ y := by simp at hyb; omega
          have hyb1 : y < S := by simp at hyb; omega
          have e1 : decide (y < 5) = false := decide_eq_false (by omega)
          have e2 : decide (S ≤ y) = false := decide_eq_false (by omega)
          have e3 : decide (x < 0) = false := decide_eq_false (by omega)
          have e4 : decide (d ≤ x) = false := decide_eq_false (by omega)
          have HFR := Lib.hid hfresh
          have HPU := Lib.hid hpush
          have HKL := Lib.hid hkl
          have HSEC := Lib.hid hsec
          have hLn : Hid (L.length < maxLen) := by
            have := cnt_bd HN.out (a := (a : Int)) (by omega) (by omega)
            have := HL.out
            show _ < _
            unfold maxLen
            omega
          clear hBR hrow hstr ht hc hc0 hc1 ht0 har ht1 hsr hnew hput hfresh hpush hwf hkl hxb hyb hx hy hpe hsec hS HV
          go_wp2_with fail
          refine (geo_Block.calls (K + 1) d r s a k x y true _ hbl).mono ?_
          rintro e w5 ⟨rfl, hb⟩
          have HG5 := Lib.hid (HG4.out.step hb)
          have HM5 := Lib.hid (own_below HM4.out hb)
          clear hb p0 p1 p2 HG4 HM4 hbl
          have hb6 : Below w5.heap.size w5 (w5.alloc (.cells #[.int .i64 x, .int .i64 y] 31)) := (Below.refl _ w5).alloc (Nat.le_refl _) _
          have HG6 := Lib.hid (HG5.out.step hb6)
          have HM6 := Lib.hid (own_below HM5.out hb6)
          have b0 : (w5.alloc (.cells #[.int .i64 x, .int .i64 y] 31)).cell? ⟨w5.heap.size, 0, none⟩ = some (.int .i64 x) := (blk_cell (blk_new w5 _) 0).trans rfl
          have b1 : (w5.alloc (.cells #[.int .i64 x, .int .i64 y] 31)).cell? ⟨w5.heap.size, 1, none⟩ = some (.int .i64 y) := (blk_cell (blk_new w5 _) 1).trans rfl
          have p0 := HG6.out.2.1; have p1 := HG6.out.2.2.1; have p2 := HG6.out.2.2.2
          clear hb6 HG5 HM5
          have lk := look_none HM6.out HS.out HKL.out HFR.out
          have hown6 := HM6.out
          go_wp2_with fail
          go_region_held3 (fun w' => Below w.heap.size w w' ∧ w'.cell? ⟨w.heap.size, 0, none⟩ = some (.int .i64 d) ∧ w'.cell? ⟨w.heap.size, 1, none⟩ = some (.int .i64 r) ∧ w'.cell? ⟨w.heap.size, 2, none⟩ = some (.int .i64 s) ∧ w'.cell? ⟨w5.heap.size, 0, none⟩ = some (.int .i64 x) ∧ w'.cell? ⟨w5.heap.size, 1, none⟩ = some (.int .i64 y) ∧ w'.ownsMap Try.prog 31 tokR w2.heap.size L.length D ∧ (Instr.lookup 29 (.map (some w2.heap.size)) (.agg #[.int .i64 x, .int .i64 y]) false).run Try.prog w' = .ok (.bool false) w') ((repeat' apply And.intro) <;> first | assumption | exact HG6.out.1 | exact below_drew HG6.out.1 | exact own_below HM6.out (below_drew (Below.refl _ _)) | exact look_none (own_below HM6.out (below_drew (Below.refl _ _))) HS.out HKL.out HFR.out | (simp only [World.cell?_drew]; assumption))
            (first | (go_at_call 16; obtain ⟨Z0, Z1, Z2, Z3, Z4, Z5, Z6, Z7⟩ := ‹Below w.heap.size w _ ∧ _›; refine (geo_Sectors.calls d r s S _ HSEC.out).mono ?_; rintro e w' ⟨rfl, hb⟩; have Y0 := Z0.trans (hb.mono Z0.size); have Y1 := pw_cell_below hb Z1; have Y2 := pw_cell_below hb Z2; have Y3 := pw_cell_below hb Z3; have Y4 := pw_cell_below hb Z4; have Y5 := pw_cell_below hb Z5; have Y6 := own_below Z6 hb; have Y7 := look_none Y6 HS.out HKL.out HFR.out))
          obtain ⟨Z0, Z1, Z2, Z3, Z4, Z5, Z6, Z7⟩ := ‹Below w.heap.size w _ ∧ _›
          have HG7 : Hid (KG w d r s _) := Lib.hid ⟨Z0, Z1, Z2, Z3⟩
          have HM7 := Lib.hid Z6
          clear lk hown6 HG6 HM6 b0 b1 p0 p1 p2 Z0 Z1 Z2 Z3 Z5 Z6 Z7
          go_wp2_with (first
            | (at_mapUpdate; refine wp_mark _ rfl _ _ _ rfl w2.heap.size L.length D L rfl HM7.out HS.out hLn.out (x, y) kl HKL.out HFR.out rfl (.bool true) rfl ?_; intro w8 D8 ho8 hs8 hg8)
            | go_in)
          have HG8 := Lib.hid (HG7.out.turn HM7.out hg8 HBW.out)
          go_roundw
          case rel => exact ⟨k + 1, (x, y) :: L, D8, by omega, by simp, HG8, ho8, hs8, (by show Vis (VA d r a ((k + 1 : Nat) : Int)) d _; rw [Int.natCast_add]; exact HPU.out), (by show _ = _; have := HL.out; rw [List.length_cons]; omega)⟩
          case measure => simp [intOf]; omega
        · have hdk : decide ((k : Int) ≤ P) = false := decide_eq_false hkP
          obtain hkk : (k : Int) = P + 1 := by omega
          have hv0 : Vis (VB d r a 0) d L := HV.out.turn (fun t c _ _ h => VA_VB (by rw [← HN.out.row, ← hkk]; exact h))
          have HV0 := Lib.hid hv0
          have hl0 : (L.length : Int) = a * q + (P + 1) := by have := HL.out; omega
          have HL0 := Lib.hid hl0
          clear hv0 hl0 HV HL
          go_wp2
          clear p0 p1 p2
          go_loopw [8] (fun i wr => ∃ (b : Nat) (L : List (Int × Int)) (D : DataW Value), (b : Int) ≤ r ∧ i = .int .i64 b ∧ Hid (KG w d r s wr) ∧ Hid (wr.ownsMap Try.prog 31 tokR w2.heap.size L.length D) ∧ Hid (IsSpots D L) ∧ Hid (Vis (VB d r a b) d L) ∧ Hid ((L.length : Int) = a * q + (P + 1) + b)) (fun i _ => (64 - intOf i).toNat)
          case atStart => exact ⟨0, L, D, by omega, rfl, HG4, HM4, HS, HV0, (by show _ = _; rw [HL0.out]; simp)⟩
          case round =>
            clear HG4 HM4 HS HV0 HL0
            obtain ⟨b, L, D, hb, rfl, HG, HM, HS, HV, HL⟩ := hrel
            obtain ⟨w5, rfl⟩ : ∃ z : World, z = wr := ⟨_, rfl⟩
            have p0 := HG.out.2.1; have p1 := HG.out.2.2.1; have p2 := HG.out.2.2.2
            by_cases hbr : (b : Int) < r
            · have hdb : decide ((b : Int) < r) = true := decide_eq_true hbr
              have hPR : PR d r s a b := ⟨HN.out.g, ⟨by omega, by omega⟩, ⟨by omega, by omega⟩⟩
              have hstr := str_bd hPR
              obtain ⟨t, ht⟩ : ∃ t, (a : Int) * r + b = t := ⟨_, rfl⟩
              have hsr := mul_bd (a := s) (b := r) (A := 64) (B := 4) (by omega) hs1 (by omega) hr1
              have hpa : geo_Parity.f d r s a b = some ((sp d t (d - 1)).1, (sp d t (d - 1)).2, true) := by
                rw [Parity_pos hPR, pd_sp hd0, ht]; rfl
              have hnew : ¬ VB d r a b t (d - 1) := by rw [← ht]; exact VB_new (by omega)
              have hput : VB d r a (b + 1) t (d - 1) := by rw [← ht]; exact VB_put
              have hfresh := HV.out.fresh hd0 hd1 (by omega) (by omega) hnew
              have hpush := HV.out.push (V1 := VB d r a (b + 1)) (by omega) (by omega) hput (fun _ _ => VB_mono)
              have hwf := spot_wf (c := d - 1) hd0 hd1 (t := t) (by omega) (by omega)
              obtain ⟨kl, hkl⟩ := key_spot (sp d t (d - 1)) hwf.1 hwf.2
              obtain ⟨x, hx⟩ : ∃ x, (sp d t (d - 1)).1 = x := ⟨_, rfl⟩
              obtain ⟨y, hy⟩ : ∃ y, (sp d t (d - 1)).2 = y := ⟨_, rfl⟩
              have hpe : sp d t (d - 1) = (x, y) := Prod.ext hx hy
              rw [hpe] at hfresh hpush hkl hpa
              have HFR := Lib.hid hfresh
              have HPU := Lib.hid hpush
              have HKL := Lib.hid hkl
              have hLn : Hid (L.length < maxLen) := by
                have := cnt_bd HN.out (a := (a : Int)) (by omega) (by omega)
                have := HL.out
                show _ < _
                unfold maxLen
                omega
              clear hPR hstr ht hsr hnew hput hfresh hpush hwf hkl hx hy hpe HV
              go_wp2_with fail
              refine (geo_Parity.calls d r s a b x y true _ hpa).mono ?_
              rintro e w6 ⟨rfl, hb⟩
              have HG5 := Lib.hid (HG.out.step hb)
              have HM5 := Lib.hid (own_below HM.out hb)
              clear hb p0 p1 p2 HG HM hpa
              have hb6 : Below w6.heap.size w6 (w6.alloc (.cells #[.int .i64 x, .int .i64 y] 31)) := (Below.refl _ w6).alloc (Nat.le_refl _) _
              have HG6 := Lib.hid (HG5.out.step hb6)
              have HM6 := Lib.hid (own_below HM5.out hb6)
              have b0 : (w6.alloc (.cells #[.int .i64 x, .int .i64 y] 31)).cell? ⟨w6.heap.size, 0, none⟩ = some (.int .i64 x) := (blk_cell (blk_new w6 _) 0).trans rfl
              have b1 : (w6.alloc (.cells #[.int .i64 x, .int .i64 y] 31)).cell? ⟨w6.heap.size, 1, none⟩ = some (.int .i64 y) := (blk_cell (blk_new w6 _) 1).trans rfl
              clear hb6 HG5 HM5
              have lk : (Instr.lookup 29 (.map (some w2.heap.size)) (.agg #[.int .i64 x, .int .i64 y]) false).run Try.prog (w6.alloc (.cells #[.int .i64 x, .int .i64 y] 31)) = .ok (.bool false) (w6.alloc (.cells #[.int .i64 x, .int .i64 y] 31)) := look_none HM6.out HS.out HKL.out HFR.out
              go_wp2_with (first
                | (at_mapUpdate; refine wp_mark _ rfl _ _ _ rfl w2.heap.size L.length D L rfl HM6.out HS.out hLn.out (x, y) kl HKL.out HFR.out rfl (.bool true) rfl ?_; intro w8 D8 ho8 hs8 hg8)
                | go_in)
              have HG8 := Lib.hid (HG6.out.turn HM6.out hg8 HBW.out)
              go_roundw
              case rel => exact ⟨b + 1, (x, y) :: L, D8, by omega, by simp, HG8, ho8, hs8, (by show Vis (VB d r a ((b + 1 : Nat) : Int)) d _; rw [Int.natCast_add]; exact HPU.out), (by show _ = _; have := HL.out; rw [List.length_cons]; omega)⟩
              case measure => simp [intOf]; omega
            · obtain hbb : (b : Int) = r := by omega
              have hdb : decide ((b : Int) < r) = false := decide_eq_false hbr
              have hv1 : Vis (VA d r (a + 1) 0) d L := HV.out.turn (fun t c c0 c1 h => VB_VA hd0 (by omega) c0 (by rw [hbb] at h; exact h))
              have hl1 : (L.length : Int) = (a + 1) * q := by
                have := HL.out
                have := HN.out.q
                rw [Int.add_mul, Int.one_mul]
                omega
              have HV1 := Lib.hid hv1
              have HL1 := Lib.hid hl1
              clear hv1 hl1 HV HL
              go_wp2
              go_roundw
              case rel => exact ⟨a + 1, L, D, by omega, by simp, HG, HM, HS, HV1, HL1⟩
              case measure => simp [intOf]; omega
    · have hda : decide ((a : Int) < s) = false := decide_eq_false hlt
      have hab : (a : Int) = s := by omega
      have hq := HN.out.q_eq
      have hcb := cnt_bd HN.out (a := s) (by omega) (by omega)
      have hrd := mul_bd (a := r) (b := d) (A := 4) (B := 16) (by omega) hr1 (by omega) hd1
      have hm1 : IntKind.i64.wrap (d * r) = d * r := IntWalk.i64_in _ (by rw [Int.mul_comm d r]; omega)
      have hsq : d * r * s = s * q := by rw [hq, Int.mul_comm d r, Int.mul_comm]
      have hm2 : IntKind.i64.wrap (d * r * s) = d * r * s := IntWalk.i64_in _ (by rw [hsq]; omega)
      have hsz : (((Maps.size D : Nat) : Int) == d * r * s) = true := beq_iff_eq.2 (by rw [HS.out.size, HL.out, hsq, hab])
      clear hab hq hcb hrd hsq
      go_wp2_with (first
        | (at_len; refine wpList_len_own _ rfl _ 29 rfl 31 4 Try.underlying29 tokR w2.heap.size L.length D rfl HM.out ?_)
        | go_in)
      go_ret
      exact ⟨rfl, HG.out.1⟩
set_option maxHeartbeats 1000000 in
theorem wrong (K : Nat) (d r s : Int) (w : World) (hN : ¬ GR d r s) (hal : morainelaw03_alive.f K = some true) :
    Calls Try.prog 4 #[.agg #[.int .i64 d, .int .i64 r, .int .i64 s]] w fun e w' => e = .returned (.bool true) ∧ Below w.heap.size w w' := by
  have HN := Lib.hid hN
  have HA := Lib.hid hal
  clear hN hal
  go_enter Try.func4, Try.ntmps4
  go_wp2_with fail
  refine (morainelaw03_alive.calls K true _ HA.out).mono ?_
  rintro e w1 ⟨rfl, hb⟩
  have KG1 : Hid (KG w d r s w1) := ⟨belA (Below.refl w.heap.size w) hb, keepN rfl hb, keepN rfl hb, keepN rfl hb⟩
  have p0 := KG1.out.2.1; have p1 := KG1.out.2.2.1; have p2 := KG1.out.2.2.2
  clear hb
  go_wp2_with fail
  refine (geo_Right.calls d r s false _ (Right_neg HN.out)).mono ?_
  rintro e w2 ⟨rfl, hb⟩
  have KG2 := Lib.hid (KG1.out.step hb)
  clear hb p0 p1 p2 KG1
  have p0 := KG2.out.2.1; have p1 := KG2.out.2.2.1; have p2 := KG2.out.2.2.2
  go_wp2_with fail
  refine (geo_Places.calls d r s 0 _ (Places_neg HN.out)).mono ?_
  rintro e w3 ⟨rfl, hb⟩
  have KG3 := Lib.hid (KG2.out.step hb)
  clear hb
  go_wp2
  go_ret
  exact ⟨rfl, KG3.out.1⟩
end Go.Proofs.Ytoahkeabdikhcaa.ApartWalk
namespace Go.Proofs.Ytoahkeabdikhcaa.PGeoApart
open Go.RowKit
set_option linter.unusedVariables false
def morainelaw03_GeoApart.f (d r s : Int) : Option Bool := some true
theorem morainelaw03_GeoApart.calls (d r s : Int) (b : Bool) (w : World) (h : morainelaw03_GeoApart.f d r s = some b) :
    Calls Try.prog 4 #[.agg #[.int .i64 d, .int .i64 r, .int .i64 s]] w fun e w' => e = .returned (.bool b) ∧ Below w.heap.size w w' := by
  cases h
  by_cases hg : Pure.GR d r s
  · exact ApartWalk.good _ d r s _ _ w (ApartWalk.nums hg) Pure.alive_eq
  · exact ApartWalk.wrong _ d r s w hg Pure.alive_eq
end Go.Proofs.Ytoahkeabdikhcaa.PGeoApart
namespace Go.Proofs.Ytoahkeabdikhcaa.Pure
theorem GeoApart (d r s : Int) (_ : (Lit.int .i64 d).wf = true) (_ : (Lit.int .i64 r).wf = true) (_ : (Lit.int .i64 s).wf = true) : PGeoApart.morainelaw03_GeoApart.f d r s = some true := rfl
end Go.Proofs.Ytoahkeabdikhcaa.Pure
