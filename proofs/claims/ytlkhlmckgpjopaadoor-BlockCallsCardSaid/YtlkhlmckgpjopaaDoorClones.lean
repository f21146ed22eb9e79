/- Clones: GivClone15, GivClone2. -/
import Derived.Test.YtlkhlmckgpjopaaDoorGivRnew
import Derived.Shelf.SlMaps.Clone
/- block.Map: Place at no address, Move to no address; maps.Clone; by hand. -/
namespace Go.Proofs.YtlkhlmckgpjopaaDoor.Given
open Go.RowKit Go.Maps Go.Sort Go.Shelf Go.Proofs.YtlkhlmckgpjopaaDoorW.PrintWords Go.Proofs.YtlkhlmckgpjopaaDoorW.PrintLast Go.Proofs.YtlkhlmckgpjopaaDoorW.PrintMore Go.Proofs.YtlkhlmckgpjopaaDoor.Base
set_option linter.unusedVariables false
set_option linter.unusedSimpArgs false
set_option maxRecDepth 100000 in
set_option maxHeartbeats 2000000 in
theorem place_bad {w : World} {base p N : Nat} {a : Int → Option Int} {f : Int → Option (List Int)} (h : BM w base p N a f) (k to_ : Int) (hk : (Lit.int .i64 k).wf = true) (r : List Int) (hr : f k = some r) (hb : to_ < 1 ∨ 65535 < to_) :
    Calls Tryd.prog 13 #[.pointer (some ⟨p, 0, none⟩), .int .i64 k, .int .i64 to_] w fun e w' => e = .returned (.int .i64 28) ∧ w = w' := by
  obtain ⟨bA, bF, DA, DF, mF, hB⟩ := h
  have c0 : w.cell? ⟨p, 1, none⟩ = some (.map (some bF)) := (blk_cell hB.hp 1).trans rfl
  have hu := Tryd.underlying61
  obtain ⟨u, hu1, _⟩ := (hB.el k).2 r hr
  have HB := Lib.hid hB
  have HK := Lib.hid hk
  have HX := Lib.hid hb
  have HV : Hid ((mF k).getD (.slice none 0 0) = u ∧ (mF k).isSome = true) := by show _ ∧ _; rw [hu1]; exact ⟨rfl, rfl⟩
  clear hB hk hu1 hr hb
  go_enter Tryd.func13, Tryd.ntmps13
  go_wp2_with (first | (at_lookup; refine wp_look_ok _ rfl _ _ 59 rfl 3 30 law3 Tryd.underlying59 (zeroS _) bF N DF _ rfl HB.out.oF HB.out.hF k rfl (keyOf_int_mk Tryd.underlying3 HK.out) ?_; rw [HV.out.1, HV.out.2]) | (go_at_call 26; refine (addr_no to_ _ HX.out).mono ?_; rintro e w1 ⟨rfl, rfl⟩))
  go_ret
  exact ⟨rfl, rfl⟩
set_option maxRecDepth 100000 in
set_option maxHeartbeats 4000000 in
/-- Move to no address: nothing. -/
theorem move_no {w : World} {base p N : Nat} {a : Int → Option Int} {f : Int → Option (List Int)} (h : BM w base p N a f) (fr to_ : Int) (hb : to_ < 1 ∨ 65535 < to_) :
    Calls Tryd.prog 16 #[.pointer (some ⟨p, 0, none⟩), .int .i64 fr, .int .i64 to_] w fun e w' => e = .returned (.int .i64 0) ∧ Turns (fun _ => False) w w' := by
  obtain ⟨bA, bF, DA, DF, mF, hB⟩ := h
  have c0 : w.cell? ⟨p, 0, none⟩ = some (.map (some bA)) := (blk_cell hB.hp 0).trans rfl
  have hu := Tryd.underlying61
  have hown := hB.oA
  have hszA := hown.size_le
  have hbl := hown.lt
  have HB := Lib.hid hB
  have HA := Lib.hid hB.hA
  have HX := Lib.hid hb
  clear hB hb
  go_enter Tryd.func16, Tryd.ntmps16
  go_wp2_with (first
    | (at_range; refine wpList_range_own _ rfl _ 57 rfl 3 3 law3 Tryd.underlying57 tokR bA N _ rfl hown ?_; intro w0 hrg0 hg0 hs0)
    | go_in)
  go_frame
  go_loopw [7] (fun i wr => ∃ (left : Lit → Bool) (cnt : Nat), i = .int .i64 0 ∧ wr.ranges Tryd.prog 3 tokR bA w.heap.size N DA left cnt ∧ w.grownBy wr none)
    (fun _ wr => wr.rangeLeft bA w.heap.size)
  case atStart => exact ⟨_, _, rfl, hrg0, hg0⟩
  case round =>
    obtain ⟨left, cnt, rfl, hrg, hgw⟩ := hrel
    go_wp2_with (first
      | (at_next; refine wpList_next_ranges _ rfl _ rfl 3 law3 tokR (Value.int .i64) id (fun key kl hk => by obtain ⟨x, hx, _⟩ := Maps.keyOf_i64 Tryd.underlying3 hk; exact ⟨x, hx⟩) (fun v _ _ => ⟨v, rfl⟩) bA w.heap.size N _ _ _ rfl hrg ?_ ?_)
      | go_in)
    · intro _ hl0
      have hE : Turns (fun _ => False) w wr := (Turns.refl w).step hgw (fun q e => by cases e)
      clear hrg hgw
      go_wp2
      go_ret
      exact ⟨rfl, hE⟩
    · intro x c kl yd yp w1 cnt1 hkey hlx hv hat hrg1 hlt hg1 hs1 hen
      obtain ⟨x', ex, rfl, _⟩ := Maps.keyOf_i64 Tryd.underlying3 hkey
      obtain rfl : x = x' := encZ_inj ex
      have hgw1 := hgw.andThen hg1 (fun j hj => by cases hj; exact Or.inl (Nat.le_refl _))
      have hyd : yd = tok c := by
        unfold tokR at hv
        injection hv with hv
        exact (congrArg Prod.fst hv).symm
      have hsx := at_some HA.out hat hyd
      obtain ⟨y, hy⟩ : ∃ y, a x = some y := by cases hq : a x with
        | none => rw [hq] at hsx; cases hsx
        | some y => exact ⟨y, rfl⟩
      obtain rfl : c = .int .i64 y := by rw [hy] at hsx; exact (Option.some.inj hsx).symm
      clear hyd hat hsx hv c0 hy
      by_cases hp : y = fr
      · have hpd : (y == fr) = true := beq_iff_eq.2 hp
        clear hp
        go_wp2_with (first
          | (go_at_call 26; refine (addr_no to_ _ HX.out).mono ?_; rintro e w2 ⟨rfl, rfl⟩)
          | go_in)
        go_roundw
        case rel => exact ⟨_, cnt1, rfl, hrg1, hgw1⟩
        case measure => rw [hrg1.left_eq, hrg.left_eq]; exact hlt
      · have hpd : (y == fr) = false := beq_eq_false_iff_ne.2 hp
        clear hp
        go_wp2
        go_roundw
        case rel => exact ⟨_, cnt1, rfl, hrg1, hgw1⟩
        case measure => rw [hrg1.left_eq, hrg.left_eq]; exact hlt
set_option maxRecDepth 100000 in
set_option maxHeartbeats 4000000 in
theorem mclone_calls {w : World} {b n : Nat} {D : DataW Value} (hown : w.ownsMap Tryd.prog 3 tokR b n D) :
    Calls Tryd.prog 34 #[.map (some b)] w fun e w' => e = .returned (.map (some w.heap.size)) ∧ w'.ownsMap Tryd.prog 3 tokR w.heap.size n D ∧ Below w.heap.size w w' ∧ w'.heap.size = w.heap.size + 1 := by
  obtain ⟨es, clock, hb, F, hs, hD⟩ := hown
  have hq := fun w => run_eql_map_nil_sl (P := Tryd.prog) w 57 _ _ (some b) Tryd.underlying57
  have HO : Hid ((w.alloc (.map es clock)).ownsMap Tryd.prog 3 tokR w.heap.size n D) := ⟨es, clock, (MapKept.heap_alloc w _).1, F, hs, hD⟩
  have HL : Hid (Below w.heap.size w (w.alloc (.map es clock))) := (Below.refl _ w).alloc (Nat.le_refl _) _
  clear F hs hD
  go_enter Tryd.func34, Tryd.ntmps34
  go_wp2
  rw [run_callFunc_extern Tryd.func52 (by kernel_rfl) (by kernel_rfl) (by kernel_rfl) (e := Extern.MapsClone.clone) (by kernel_rfl), run_maps_clone_sl w 57 hb]
  simp only [Result.andThen]
  rw [Oper.upon_value]
  go_wp2
  rw [run_typeAssert_map_sl _ 57 _ _ _ _ Tryd.underlying57]
  simp only [Result.andThen]
  rw [Oper.upon_value]
  go_wp2
  go_ret
  exact ⟨rfl, HO.out, HL.out, by simp⟩
end Go.Proofs.YtlkhlmckgpjopaaDoor.Given

/- block.Map: Clone; by hand. -/
namespace Go.Proofs.YtlkhlmckgpjopaaDoor.Given
open Go.RowKit Go.Maps Go.Sort Go.Shelf Go.Proofs.YtlkhlmckgpjopaaDoorW.PrintWords Go.Proofs.YtlkhlmckgpjopaaDoorW.PrintLast Go.Proofs.YtlkhlmckgpjopaaDoorW.PrintMore Go.Proofs.YtlkhlmckgpjopaaDoor.Base
set_option linter.unusedVariables false
set_option linter.unusedSimpArgs false
theorem bw_copy {w w1 : World} {p bA bF N : Nat} {DA DF : DataW Value} {a : Int → Option Int} {mF : Int → Option Value} {f : Int → Option (List Int)} (hB : BW w 0 p N bA bF DA DF a mF f) (ho : w1.ownsMap Tryd.prog 3 tokR w.heap.size N DA) :
    BW ((w1.alloc (.map #[] 0)).alloc (.cells #[.map (some w.heap.size), .map (some w1.heap.size)] 61)) 0 (w1.heap.size + 1) N w.heap.size w1.heap.size DA (.map []) a (fun _ => none) (fun _ => none) where
  hp := by
    have := heap_alloc_new (w1.alloc (.map #[] 0)) (.cells #[.map (some w.heap.size), .map (some w1.heap.size)] 61)
    simpa using this
  bp := Nat.zero_le _
  ba := Nat.zero_le _
  bf := Nat.zero_le _
  ne := Nat.ne_of_lt ho.lt
  oA := (ho.alloc _).alloc _
  hA := hB.hA
  oF := ((World.ownsMap_made w1 Tryd.prog 3 tokR).alloc _).mono (Nat.zero_le _)
  hF := Holds.empty
  el := fun k => ⟨fun _ => rfl, fun r h => by cases h⟩
def Copied (f f1 : Int → Option (List Int)) (left : Lit → Bool) : Prop := ∀ j, f1 j = if left (.int .i64 j) then none else f j
theorem Copied.start {w : World} {D : DataW Value} {m : Int → Option Value} {f : Int → Option (List Int)} (H : Holds D m) (he : ∀ k, (f k = none → m k = none) ∧ ∀ r, f k = some r → ∃ u, m k = some u ∧ Byt56 w u r) : Copied f (fun _ => none) (has D) := by
  intro j
  rw [H.has]
  cases hm : m j with
  | some u => rfl
  | none =>
    cases hf : f j with
    | none => rfl
    | some r => obtain ⟨u, hu, _⟩ := (he j).2 r hf; rw [hm] at hu; cases hu
theorem Copied.step {f f1 : Int → Option (List Int)} {left : Lit → Bool} (h : Copied f f1 left) (x : Int) (r : List Int) (hf : f x = some r) : Copied f (setF f1 x (some r)) (fun z => left z && !z.sameKey (.int .i64 x)) := by
  intro j
  unfold setF
  show _ = if (left (.int .i64 j) && !(Lit.int .i64 j).sameKey (.int .i64 x)) = true then none else f j
  rw [sameI]
  by_cases e : j = x
  · subst e; rw [if_pos rfl, hf]; simp
  · rw [if_neg e, h j]; simp [e]
theorem Copied.done {f f1 : Int → Option (List Int)} {left : Lit → Bool} (h : Copied f f1 left) (hl : ∀ kl, left kl = false) : f1 = f := by
  funext j
  rw [h j, hl]
  rfl
theorem grown_none_below {w w1 : World} (h : w.grownBy w1 none) : Below w.heap.size w w1 := ⟨h.os, h.tape, h.output, h.size, fun k hk => h.block k hk (by simp)⟩
theorem BW.turns {S : Nat → Prop} {w w1 : World} {base p N bA bF : Nat} {DA DF : DataW Value} {a : Int → Option Int} {mF : Int → Option Value} {f : Int → Option (List Int)} (hB : BW w base p N bA bF DA DF a mF f) (ht : Turns S w w1) (hk : Cells w w1) (hA : ¬ S bA) (hF : ¬ S bF) : BW w1 base p N bA bF DA DF a mF f := by
  refine ⟨(hk _ _ _ _ hB.hp).trans hB.hp, hB.bp, hB.ba, hB.bf, hB.ne, ht.owns hB.oA hA, hB.hA, ht.owns hB.oF hF, hB.hF, fun k => ⟨(hB.el k).1, fun r hr => ?_⟩⟩
  obtain ⟨u, hu, h1⟩ := (hB.el k).2 r hr
  exact ⟨u, hu, h1.kept hk⟩
theorem cells_iter {w w1 : World} {b r n cnt : Nat} {D : DataW Value} {left : Lit → Bool} (h : w.ranges Tryd.prog 3 tokR b r n D left cnt) (hg : w.grownBy w1 (some r)) : Cells w w1 := by
  intro c cs t z hc
  obtain ⟨_, _, _, _, _, _, _, _, _, hr, _⟩ := h
  refine hg.block c (blk_lt hc) (fun e => ?_)
  have e : c = r := Option.some.inj e
  subst e
  rw [hr] at hc
  cases hc
set_option maxRecDepth 100000 in
set_option maxHeartbeats 4000000 in
/-- Clone: a map of its own. -/
theorem clone_calls {w : World} {p bA bF N : Nat} {a : Int → Option Int} {f : Int → Option (List Int)} (h : BX w p bA bF N a f) (hN : N < 1000000) :
    Calls Tryd.prog 23 #[.pointer (some ⟨p, 0, none⟩)] w fun e w' => ∃ p2 bA2 bF2, e = .returned (.pointer (some ⟨p2, 0, none⟩)) ∧ BX w' p2 bA2 bF2 (N + N) a f ∧ Below w.heap.size w w' ∧ w.heap.size ≤ p2 ∧ w.heap.size ≤ bA2 ∧ w.heap.size ≤ bF2 := by
  obtain ⟨DA, DF, mF, hB⟩ := h
  have c0 : w.cell? ⟨p, 0, none⟩ = some (.map (some bA)) := (blk_cell hB.hp 0).trans rfl
  have hu := Tryd.underlying61
  have hmm := @run_makeMap Tryd.prog
  have HMC := Lib.hid (mclone_calls hB.oA)
  have HB := Lib.hid hB
  clear hB
  go_enter Tryd.func23, Tryd.ntmps23
  go_wp2_with fail
  refine HMC.out.mono ?_
  clear HMC c0
  rintro e w1 ⟨rfl, ho1, hb1, hx⟩
  clear hx
  have HW := Lib.hid (bw_copy HB.out ho1)
  have HL3 : Hid (Below w.heap.size w ((w1.alloc (.map #[] 0)).alloc (.cells #[.map (some w.heap.size), .map (some w1.heap.size)] 61))) := (hb1.alloc hb1.size _).alloc (by simp; have := hb1.size; omega) _
  have hown := (HB.out.below HL3.out).oF
  have hszF := hown.size_le
  have c3 : ((w1.alloc (.map #[] 0)).alloc (.cells #[.map (some w.heap.size), .map (some w1.heap.size)] 61)).cell? ⟨p, 1, none⟩ = some (.map (some bF)) := (blk_cell (HB.out.below HL3.out).hp 1).trans rfl
  have hszr : w.heap.size ≤ w1.heap.size := hb1.size
  have hs3 : ((w1.alloc (.map #[] 0)).alloc (.cells #[.map (some w.heap.size), .map (some w1.heap.size)] 61)).heap.size = w1.heap.size + 2 := by simp
  have hbF3 : bF < w.heap.size := HB.out.oF.lt
  clear ho1 hb1
  go_wp2_with (first
    | (at_range; refine wpList_range_own _ rfl _ 59 rfl 3 30 law3 Tryd.underlying59 tokR bF N _ rfl hown ?_; intro w0 hrg0 hg0 hs0)
    | go_in)

  go_frame
  rw [hs3]
  go_loopw [4] (fun i wr => ∃ (left : Lit → Bool) (cnt j : Nat) (D2 : DataW Value) (m2 : Int → Option Value) (f2 : Int → Option (List Int)), j + cnt ≤ N ∧ wr.ranges Tryd.prog 3 tokR bF (w1.heap.size + 2) N DF left cnt ∧ ((w1.alloc (.map #[] 0)).alloc (.cells #[.map (some w.heap.size), .map (some w1.heap.size)] 61)).grownBy wr (some w1.heap.size) ∧ Hid (BW wr 0 (w1.heap.size + 1) (N + j) w.heap.size w1.heap.size DA D2 a m2 f2) ∧ Hid (Copied f f2 left) ∧ Hid (Below w.heap.size w wr))
    (fun _ wr => wr.rangeLeft bF (w1.heap.size + 2))
  case atStart => exact ⟨_, _, 0, _, _, _, by omega, hs3 ▸ hrg0, hg0.but _, Lib.hid (HW.out.below (grown_none_below hg0)), Copied.start HB.out.hF HB.out.el, HL3.out.trans ((grown_none_below hg0).mono (by rw [hs3]; omega))⟩
  case round =>
    obtain ⟨left, cnt, j, D2, m2, f2, hjc, hrg, hgw, HW2, HT, HL⟩ := hrel
    go_wp2_with (first
      | (at_next; go_loud (refine wpList_next_ranges _ rfl _ rfl 3 law3 tokR (Value.int .i64) id (fun key kl hk => by obtain ⟨x, hx, _⟩ := Maps.keyOf_i64 Tryd.underlying3 hk; exact ⟨x, hx⟩) (fun v _ _ => ⟨v, rfl⟩) bF (w1.heap.size + 2) N _ _ _ rfl hrg ?_ ?_))
      | go_in)
    · intro _ hl0
      have hf := HT.out.done hl0
      subst hf
      clear hrg hgw
      go_wp2
      go_ret
      exact ⟨_, _, _, rfl, BX.mono ⟨_, _, _, HW2.out⟩ (by omega), HL.out, by omega, Nat.le_refl _, hszr⟩
    · intro x c kl yd yp w2 cnt1 hkey hlx hv hat hrg1 hlt hg1 hs1 hen
      obtain ⟨x', ex, rfl, _⟩ := Maps.keyOf_i64 Tryd.underlying3 hkey
      obtain rfl : x = x' := encZ_inj ex
      have hyd : yd = tok c := by
        unfold tokR at hv
        injection hv with hv
        exact (congrArg Prod.fst hv).symm
      have hsx := at_some HB.out.hF hat hyd
      obtain ⟨r, hr⟩ : ∃ r, f x = some r := by
        cases hq : f x with
        | none => rw [(HB.out.el x).1 hq] at hsx; cases hsx
        | some r => exact ⟨r, rfl⟩
      obtain ⟨u, hu1, hu2⟩ := (HB.out.el x).2 r hr
      obtain rfl : c = u := by rw [hsx] at hu1; exact Option.some.inj hu1
      have hck := cells_iter hrg hg1
      have hb1 : Below w.heap.size w w2 := HL.out.grown hg1 HL.out.size (fun q e => by cases e; omega)
      have HL2 := Lib.hid hb1
      obtain ⟨A, cc, rfl, g1, g2, g3⟩ := hu2.kept (Cells.of_below hb1)
      obtain ⟨ad, rfl, hxx⟩ := g3.2.2 (by rw [g2]; decide)
      clear hxx
      have HWX : Hid (BW w2 0 (w1.heap.size + 1) (N + j) w.heap.size w1.heap.size DA D2 a m2 f2) := HW2.out.turns (S := fun b => b = w1.heap.size + 2) ((Turns.refl wr).step hg1 (fun q e => by cases e; rfl)) hck (by omega) (by omega)
      have hgw2 := hgw.andThen hg1 (fun j hj => by cases hj; exact Or.inl (by rw [hs3]; exact Nat.le_refl _))
      have hdr := below_drew (Below.refl w2.heap.size w2)
      have hgd := grown_of_below hdr none
      have hrgd := hrg1.kept hgd (by simp) (by simp)
      have HGW := Lib.hid (hgw2.trans (hgd.but _))
      have HRG := Lib.hid hrgd
      have HW4 := Lib.hid (HWX.out.below hdr)
      have HL4 := Lib.hid (below_drew HL2.out)
      have HC4 := Lib.hid (Kd.C_drew g3)
      have H56 := Lib.hid g2
      have HFX := Lib.hid hr
      have HT2 := Lib.hid (HT.out.step x r hr)
      have HKX := Lib.hid hkey
      have HLT : Hid (cnt1 < cnt) := by exact hlt
      have HLE : Hid (wr.rangeLeft bF (w1.heap.size + 2) = cnt) := hrg.left_eq
      have c4 : w2.drew.cell? ⟨w1.heap.size + 1, 1, none⟩ = some (.map (some w1.heap.size)) := (blk_cell HW4.out.hp 1).trans rfl
      clear hyd hat hsx hv hu1 hu2 hck hb1 g3 g2 hgw2 hdr hgd hrgd hrg hgw hg1 hr HW2 HL HT hlt hkey hrg1
      go_wp2_with fail
      go_region_held3 (fun w' => w'.cell? ⟨w1.heap.size + 1, 1, none⟩ = some (.map (some w1.heap.size))) (first | exact c4 | go_keep)
        (first | (go_at_call 28; refine (clone_some ad cc r _ HC4.out (by rw [H56.out]; decide)).mono ?_; rintro e w5 ⟨v5, rfl, hR, hb⟩; have HR5 := Lib.hid hR; have HW5 := Lib.hid (HW4.out.below hb); have HL5 : Hid (Below w.heap.size w w5) := Lib.hid (HL4.out.trans (hb.mono HL4.out.size)); have hg5 := grown_of_below hb none; have HGW5 := Lib.hid (HGW.out.trans (hg5.but _)); have HRG5 := Lib.hid (HRG.out.kept hg5 (by simp) (by simp)); have c5 : w5.cell? ⟨w1.heap.size + 1, 1, none⟩ = some (.map (some w1.heap.size)) := (blk_cell HW5.out.hp 1).trans rfl; clear hR hb hg5; obtain ⟨w6, hrun6, ho6, hg6⟩ := HW5.out.oF.update law3 Tryd.underlying59 (by unfold maxLen; omega) HKX.out (d := tok v5) (ps := []) (val := v5) rfl; have HW6 := Lib.hid (HW5.out.turnF (Nat.le_succ _) hg6 ho6 (HW5.out.hF.put x v5) (el_put HW5.out.el x v5 r (byt_of_R HR5.out H56.out))); have HL6 : Hid (Below w.heap.size w w6) := HL5.out.grown hg6 HL5.out.size (fun q e => by cases e; omega); have HGW6 := Lib.hid (HGW5.out.andThen hg6 (fun j hj => by cases hj; exact Or.inr rfl)); have HRG6 := Lib.hid (HRG5.out.kept hg6 (by simp; omega) (by simp)); have c6 : w6.cell? ⟨w1.heap.size + 1, 1, none⟩ = some (.map (some w1.heap.size)) := (blk_cell HW6.out.hp 1).trans rfl; clear ho6 hg6))
      all_goals
        go_wp2
        go_roundw
        case rel => exact ⟨_, cnt1, j + 1, _, _, _, by have := HLT.out; omega, HRG6.out, HGW6.out, HW6, HT2, HL6⟩
        case measure => rw [HRG6.out.left_eq, HLE.out]; exact HLT.out
end Go.Proofs.YtlkhlmckgpjopaaDoor.Given
