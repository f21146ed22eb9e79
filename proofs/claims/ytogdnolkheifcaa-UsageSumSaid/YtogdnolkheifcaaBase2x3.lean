import Derived.Test.YtogdnolkheifcaaBase2x0
import Derived.Test.YtogdnolkheifcaaBase2x1
namespace Go.Proofs.Ytogdnolkheifcaa.Base2x
open Go.RowKit Go.Proofs.YtogdnolkheifcaaW.PrintWords Go.Proofs.YtogdnolkheifcaaW.PrintLast Go.Proofs.YtogdnolkheifcaaW.PrintMore
attribute [local go_sem] max2_int min2_int max_two min_two max_three min_three max_four min_four   -- for this text's walks alone
set_option linter.unusedVariables false
set_option linter.unusedSimpArgs false

/-! ### moraineref09_Fits: function 20 -/
mutual
def moraineref09_Fits.j0 : Nat → List Int → Int → Int → Int → Bool → Int → Int → Int → Option (Bool)
 | 0,_,_,_,_,_,_,_,_ => none
 | k + 1,x1,x2,x3,x4,x43,x139000,x139001,x139002 => if x43 = true then (some false) else ((moraineref03_Places.f x139000 x139001 x139002).bind fun t140 => (moraineref09_Fits.l0 k x1 x2 x3 x4 t140 0 0 x139000 x139001 x139002))
def moraineref09_Fits.l0 : Nat → List Int → Int → Int → Int → Int → Int → Int → Int → Int → Int → Option (Bool)
 | 0,_,_,_,_,_,_,_,_,_,_ => none
 | k + 1,x1,x2,x3,x4,x11,x12,x13,x139000,x139001,x139002 => if x13 < (x1.length : Int) then (if 0 ≤ x13 then (if (rd x1 x13) < 0 then (some false) else (if (rd x1 x13) > 0 then (moraineref09_Fits.l0 k x1 x2 x3 x4 x11 (wrap64 (x12 + 1)) (wrap64 (x13 + 1)) x139000 x139001 x139002) else (moraineref09_Fits.l0 k x1 x2 x3 x4 x11 x12 (wrap64 (x13 + 1)) x139000 x139001 x139002))) else (none)) else (if x11 = 0 then (none) else (some (decide ((wrap64 ((wrap64 (x12 + (wrap64 (Int.tdiv (wrap64 ((wrap64 (x3 + x11)) - 1)) x11)))) + (mx (wrap64 (x2 + (wrap64 (Int.tdiv (wrap64 ((wrap64 (x4 + x11)) - 1)) x11)))) (wrap64 ((wrap64 (2 * (wrap64 (Int.tdiv (wrap64 ((wrap64 (x4 + x11)) - 1)) x11)))) + 1))))) ≤ x139002))))
end
def moraineref09_Fits.f (k : Nat) (a0_0 : Int) (a0_1 : Int) (a0_2 : Int) (l1 : List Int) (a2 : Int) (a3 : Int) (a4 : Int) : Option (Bool):=(moraineref03_Right.f a0_0 a0_1 a0_2).bind fun t139 => (if t139 = true then (if a2 < 0 then (moraineref09_Fits.j0 k l1 a2 a3 a4 true a0_0 a0_1 a0_2) else (if a3 < 0 then (moraineref09_Fits.j0 k l1 a2 a3 a4 true a0_0 a0_1 a0_2) else (if a4 < 0 then (moraineref09_Fits.j0 k l1 a2 a3 a4 true a0_0 a0_1 a0_2) else (if a2 > a0_2 then (moraineref09_Fits.j0 k l1 a2 a3 a4 true a0_0 a0_1 a0_2) else (if a3 > 100000 then (moraineref09_Fits.j0 k l1 a2 a3 a4 true a0_0 a0_1 a0_2) else (moraineref09_Fits.j0 k l1 a2 a3 a4 (decide (a4 > 100000)) a0_0 a0_1 a0_2)))))) else (moraineref09_Fits.j0 k l1 a2 a3 a4 true a0_0 a0_1 a0_2))
theorem moraineref09_Fits.mono_l : ∀ k,(∀ y0 y1 y2 y3 y4 y5 y6 y7,LeO (moraineref09_Fits.j0 k y0 y1 y2 y3 y4 y5 y6 y7) (moraineref09_Fits.j0 (k + 1) y0 y1 y2 y3 y4 y5 y6 y7)) ∧ (∀ y0 y1 y2 y3 y4 y5 y6 y7 y8 y9,LeO (moraineref09_Fits.l0 k y0 y1 y2 y3 y4 y5 y6 y7 y8 y9) (moraineref09_Fits.l0 (k + 1) y0 y1 y2 y3 y4 y5 y6 y7 y8 y9))
 | 0 => ⟨fun _ _ _ _ _ _ _ _ r h => by simp [moraineref09_Fits.j0] at h,fun _ _ _ _ _ _ _ _ _ _ r h => by simp [moraineref09_Fits.l0] at h⟩
 | k + 1 => by
  obtain ⟨ih0,ih1⟩:=moraineref09_Fits.mono_l k
  refine ⟨?_,?_⟩
  ·intro y0 y1 y2 y3 y4 y5 y6 y7
   unfold moraineref09_Fits.j0
   repeat' first
   | (with_reducible exact ih0 _ _ _ _ _ _ _ _)
   | (with_reducible exact ih1 _ _ _ _ _ _ _ _ _ _)
   | (with_reducible exact LeO.refl _)
   | (with_reducible exact LeO.none _)
   | (with_reducible refine LeO.ite ?_ ?_)
   | (with_reducible refine LeO.bind ?_ (fun _ => ?_))
   | exact ih0 _ _ _ _ _ _ _ _
   | exact ih1 _ _ _ _ _ _ _ _ _ _
   | exact LeO.none _
   | refine LeO.ite ?_ ?_
   | refine LeO.bind ?_ (fun _ => ?_)
  ·intro y0 y1 y2 y3 y4 y5 y6 y7 y8 y9
   unfold moraineref09_Fits.l0
   repeat' first
   | (with_reducible exact ih0 _ _ _ _ _ _ _ _)
   | (with_reducible exact ih1 _ _ _ _ _ _ _ _ _ _)
   | (with_reducible exact LeO.refl _)
   | (with_reducible exact LeO.none _)
   | (with_reducible refine LeO.ite ?_ ?_)
   | (with_reducible refine LeO.bind ?_ (fun _ => ?_))
   | exact ih0 _ _ _ _ _ _ _ _
   | exact ih1 _ _ _ _ _ _ _ _ _ _
   | exact LeO.none _
   | refine LeO.ite ?_ ?_
   | refine LeO.bind ?_ (fun _ => ?_)
theorem moraineref09_Fits.mono : ∀ a0 a1 a2 a3 a4 a5 a6 k,LeO (moraineref09_Fits.f k a0 a1 a2 a3 a4 a5 a6) (moraineref09_Fits.f (k + 1) a0 a1 a2 a3 a4 a5 a6):=by
 intro a0 a1 a2 a3 a4 a5 a6 k
 obtain ⟨ih0,ih1⟩:=moraineref09_Fits.mono_l k
 unfold moraineref09_Fits.f
 repeat' first
   | (with_reducible exact ih0 _ _ _ _ _ _ _ _)
   | (with_reducible exact ih1 _ _ _ _ _ _ _ _ _ _)
   | (with_reducible exact LeO.refl _)
   | (with_reducible exact LeO.none _)
   | (with_reducible refine LeO.ite ?_ ?_)
   | (with_reducible refine LeO.bind ?_ (fun _ => ?_))
   | exact ih0 _ _ _ _ _ _ _ _
   | exact ih1 _ _ _ _ _ _ _ _ _ _
   | exact LeO.none _
   | refine LeO.ite ?_ ?_
   | refine LeO.bind ?_ (fun _ => ?_)
set_option maxHeartbeats 8000000 in
set_option maxRecDepth 100000 in
theorem moraineref09_Fits.calls (k : Nat) (a0_0 : Int) (a0_1 : Int) (a0_2 : Int) (A1 : Option Addr) (c1 : Nat) (l1 : List Int) (a2 : Int) (a3 : Int) (a4 : Int) (r : Bool) (w : World) (hr1 : Kd.C (Kd.int .i64) w A1 l1.length l1) (hc1 : l1.length ≤ c1) (h : moraineref09_Fits.f k a0_0 a0_1 a0_2 l1 a2 a3 a4 = some r) :
  Calls Try.prog 20 #[.agg #[.int .i64 a0_0,.int .i64 a0_1,.int .i64 a0_2],.slice A1 l1.length c1,.int .i64 a2,.int .i64 a3,.int .i64 a4] w fun e w' => e = .returned (.bool r) ∧ Below w.heap.size w w':=by
 have hu23:=Try.underlying23
 have HR1:=Aside0.mk hr1
 have HC1:=Aside0.mk hc1
 clear hr1 hc1
 have HB:=Aside0.mk (Below.refl w.heap.size w)
 have H : ((moraineref03_Right.f a0_0 a0_1 a0_2).bind fun t139 => (if t139 = true then (if a2 < 0 then (moraineref09_Fits.j0 k l1 a2 a3 a4 true a0_0 a0_1 a0_2) else (if a3 < 0 then (moraineref09_Fits.j0 k l1 a2 a3 a4 true a0_0 a0_1 a0_2) else (if a4 < 0 then (moraineref09_Fits.j0 k l1 a2 a3 a4 true a0_0 a0_1 a0_2) else (if a2 > a0_2 then (moraineref09_Fits.j0 k l1 a2 a3 a4 true a0_0 a0_1 a0_2) else (if a3 > 100000 then (moraineref09_Fits.j0 k l1 a2 a3 a4 true a0_0 a0_1 a0_2) else (moraineref09_Fits.j0 k l1 a2 a3 a4 (decide (a4 > 100000)) a0_0 a0_1 a0_2)))))) else (moraineref09_Fits.j0 k l1 a2 a3 a4 true a0_0 a0_1 a0_2))) = some r:=h
 clear h
 have HC6:=Aside0.mk H
 clear H
 go_enter Try.func20,Try.ntmps20
 go_upto_region 1 with (first|((with_reducible refine gate_dst (N:=5) rfl ?_);refine box_event ?hg (N:=5) ?hd (cs:=#[.int .i64 a0_0,.int .i64 a0_1,.int .i64 a0_2]) (t:=23) ?hr ?_;(case hd => rfl);(case hg => rfl);(case hr => first|(go_simp;done)|(go_simp;rfl));intro gb138 hg w7 hbox hb;have n0_:=Aside0.mk (below_step (by repeat (first|(with_reducible first|exact HB.out|apply below_alloc|apply pw_below_drewN|apply below_drew1)|exact HB.out)) hb);have n1_:=Aside0.mk (hbox);have n2_:=Aside0.mk ((by rw [hg];exact (below_size (by repeat (first|(with_reducible first|exact HB.out|apply below_alloc|apply pw_below_drewN|apply below_drew1)|exact HB.out))) : w.heap.size ≤ gb138));have n3_:=Aside0.mk ((by rw [hg];exact (below_size (by repeat (first|(with_reducible first|exact HB.out|apply below_alloc|apply pw_below_drewN|apply below_drew1)|exact HB.out))) : w.heap.size ≤ gb138));clear HB;have HB:=n0_;have BK138:=n1_;have GW138:=n2_;have GE138:=n3_;clear n0_ n1_ n2_ n3_;clear hb hbox hg))
 repeat (go_quiet (first|((with_reducible refine gate_dst (N:=5) rfl ?_);refine box_event ?hg (N:=5) ?hd (cs:=#[.int .i64 a0_0,.int .i64 a0_1,.int .i64 a0_2]) (t:=23) ?hr ?_;(case hd => rfl);(case hg => rfl);(case hr => first|(go_simp;done)|(go_simp;rfl));intro gb138 hg w7 hbox hb;have n0_:=Aside0.mk (below_step (by repeat (first|(with_reducible first|exact HB.out|apply below_alloc|apply pw_below_drewN|apply below_drew1)|exact HB.out)) hb);have n1_:=Aside0.mk (hbox);have n2_:=Aside0.mk ((by rw [hg];exact (below_size (by repeat (first|(with_reducible first|exact HB.out|apply below_alloc|apply pw_below_drewN|apply below_drew1)|exact HB.out))) : w.heap.size ≤ gb138));have n3_:=Aside0.mk ((by rw [hg];exact (below_size (by repeat (first|(with_reducible first|exact HB.out|apply below_alloc|apply pw_below_drewN|apply below_drew1)|exact HB.out))) : w.heap.size ≤ gb138));clear HB;have HB:=n0_;have BK138:=n1_;have GW138:=n2_;have GE138:=n3_;clear n0_ n1_ n2_ n3_;clear hb hbox hg));go_upto_region 1 with (first|((with_reducible refine gate_dst (N:=5) rfl ?_);refine box_event ?hg (N:=5) ?hd (cs:=#[.int .i64 a0_0,.int .i64 a0_1,.int .i64 a0_2]) (t:=23) ?hr ?_;(case hd => rfl);(case hg => rfl);(case hr => first|(go_simp;done)|(go_simp;rfl));intro gb138 hg w7 hbox hb;have n0_:=Aside0.mk (below_step (by repeat (first|(with_reducible first|exact HB.out|apply below_alloc|apply pw_below_drewN|apply below_drew1)|exact HB.out)) hb);have n1_:=Aside0.mk (hbox);have n2_:=Aside0.mk ((by rw [hg];exact (below_size (by repeat (first|(with_reducible first|exact HB.out|apply below_alloc|apply pw_below_drewN|apply below_drew1)|exact HB.out))) : w.heap.size ≤ gb138));have n3_:=Aside0.mk ((by rw [hg];exact (below_size (by repeat (first|(with_reducible first|exact HB.out|apply below_alloc|apply pw_below_drewN|apply below_drew1)|exact HB.out))) : w.heap.size ≤ gb138));clear HB;have HB:=n0_;have BK138:=n1_;have GW138:=n2_;have GE138:=n3_;clear n0_ n1_ n2_ n3_;clear hb hbox hg)))
 (try simp only [Act.put,List.setIfInBounds_toArray,List.set_cons_zero,List.set_cons_succ])
 go_cut [43] (fun v43 wc => ∃ (kq : Nat) (x43_5 : Bool),v43 = .bool x43_5 ∧ Aside0 (moraineref09_Fits.j0 kq l1 a2 a3 a4 x43_5 a0_0 a0_1 a0_2 = some r) ∧ Aside0 (kq ≤ k) ∧ Aside0 (wc.heap[gb138]? = some (.cells #[.int .i64 a0_0,.int .i64 a0_1,.int .i64 a0_2] 23 (0,0))) ∧ Aside0 (Below w.heap.size w wc))
 case first =>
  have H:=HC6.out
  clear HC6
  replace H:=Option.bind_eq_some_iff.mp H
  obtain ⟨t139,A80,H⟩:=H
  replace H : (if t139 = true then (if a2 < 0 then (moraineref09_Fits.j0 k l1 a2 a3 a4 true a0_0 a0_1 a0_2) else (if a3 < 0 then (moraineref09_Fits.j0 k l1 a2 a3 a4 true a0_0 a0_1 a0_2) else (if a4 < 0 then (moraineref09_Fits.j0 k l1 a2 a3 a4 true a0_0 a0_1 a0_2) else (if a2 > a0_2 then (moraineref09_Fits.j0 k l1 a2 a3 a4 true a0_0 a0_1 a0_2) else (if a3 > 100000 then (moraineref09_Fits.j0 k l1 a2 a3 a4 true a0_0 a0_1 a0_2) else (moraineref09_Fits.j0 k l1 a2 a3 a4 (decide (a4 > 100000)) a0_0 a0_1 a0_2)))))) else (moraineref09_Fits.j0 k l1 a2 a3 a4 true a0_0 a0_1 a0_2)) = some r:=H
  have A8:=Aside0.mk A80
  clear A80
  by_cases c9 : t139 = true
  ·subst c9
   have H1 : (if a2 < 0 then (moraineref09_Fits.j0 k l1 a2 a3 a4 true a0_0 a0_1 a0_2) else (if a3 < 0 then (moraineref09_Fits.j0 k l1 a2 a3 a4 true a0_0 a0_1 a0_2) else (if a4 < 0 then (moraineref09_Fits.j0 k l1 a2 a3 a4 true a0_0 a0_1 a0_2) else (if a2 > a0_2 then (moraineref09_Fits.j0 k l1 a2 a3 a4 true a0_0 a0_1 a0_2) else (if a3 > 100000 then (moraineref09_Fits.j0 k l1 a2 a3 a4 true a0_0 a0_1 a0_2) else (moraineref09_Fits.j0 k l1 a2 a3 a4 (decide (a4 > 100000)) a0_0 a0_1 a0_2)))))) = some r:=by rw [if_pos rfl] at H;exact H
   clear H
   have H:=H1
   clear H1
   by_cases c10 : a2 < 0
   ·rw [if_pos c10] at H
    have c10b0 : decide (a2 < 0) = true:=decide_eq_true c10
    clear c10
    (first|rw [c10b0]|(simp only [i64_w,i32_w];rw [c10b0])|skip)
    have H':=Aside0.mk H
    clear H
    have hcz11_0 : w7.cell? ⟨gb138,0,none⟩ = some (.int .i64 a0_0):=(blk_cell BK138.out 0).trans rfl
    have hcz11_1 : w7.cell? ⟨gb138,1,none⟩ = some (.int .i64 a0_1):=(blk_cell BK138.out 1).trans rfl
    have hcz11_2 : w7.cell? ⟨gb138,2,none⟩ = some (.int .i64 a0_2):=(blk_cell BK138.out 2).trans rfl
    have hfz11_0:=blk_frozen BK138.out 0
    have hfz11_1:=blk_frozen BK138.out 1
    have hfz11_2:=blk_frozen BK138.out 2
    go_wp2_with (first|(go_at_call 28;(with_reducible refine (moraineref03_Right.calls a0_0 a0_1 a0_2 true _ A8.out).mono ?_);rintro e w12 ⟨rfl,hb⟩;have n0_:=Aside0.mk (blk_below (g:=gb138) (o:=.cells #[.int .i64 a0_0,.int .i64 a0_1,.int .i64 a0_2] 23 (0,0)) (by (with_reducible repeat (first|refine blk_drewN ?_ _|refine blk_drew ?_|refine blk_alloc ?_ _));exact BK138.out) hb);have n1_:=Aside0.mk (below_step (by repeat (first|(with_reducible first|exact HB.out|apply below_alloc|apply pw_below_drewN|apply below_drew1|refine below_set ?_ GE138.out)|exact HB.out)) hb);clear BK138;clear HB;have BK138:=n0_;have HB:=n1_;clear n0_ n1_;(try clear hb);(try clear hb2);(try clear hk);(try clear hi)))
    repeat (go_quiet (first|(go_at_call 28;(with_reducible refine (moraineref03_Right.calls a0_0 a0_1 a0_2 true _ A8.out).mono ?_);rintro e w12 ⟨rfl,hb⟩;have n0_:=Aside0.mk (blk_below (g:=gb138) (o:=.cells #[.int .i64 a0_0,.int .i64 a0_1,.int .i64 a0_2] 23 (0,0)) (by (with_reducible repeat (first|refine blk_drewN ?_ _|refine blk_drew ?_|refine blk_alloc ?_ _));exact BK138.out) hb);have n1_:=Aside0.mk (below_step (by repeat (first|(with_reducible first|exact HB.out|apply below_alloc|apply pw_below_drewN|apply below_drew1|refine below_set ?_ GE138.out)|exact HB.out)) hb);clear BK138;clear HB;have BK138:=n0_;have HB:=n1_;clear n0_ n1_;(try clear hb);(try clear hb2);(try clear hk);(try clear hi)));try go_wp2_with (first|(go_at_call 28;(with_reducible refine (moraineref03_Right.calls a0_0 a0_1 a0_2 true _ A8.out).mono ?_);rintro e w12 ⟨rfl,hb⟩;have n0_:=Aside0.mk (blk_below (g:=gb138) (o:=.cells #[.int .i64 a0_0,.int .i64 a0_1,.int .i64 a0_2] 23 (0,0)) (by (with_reducible repeat (first|refine blk_drewN ?_ _|refine blk_drew ?_|refine blk_alloc ?_ _));exact BK138.out) hb);have n1_:=Aside0.mk (below_step (by repeat (first|(with_reducible first|exact HB.out|apply below_alloc|apply pw_below_drewN|apply below_drew1|refine below_set ?_ GE138.out)|exact HB.out)) hb);clear BK138;clear HB;have BK138:=n0_;have HB:=n1_;clear n0_ n1_;(try clear hb);(try clear hb2);(try clear hk);(try clear hi))))
    go_meet
    case rel => exact ⟨_,(true),(by first|rfl|(simp;done)|(simp [*];done)),H',⟨by first|omega|exact Nat.le_refl _⟩,⟨by (with_reducible repeat (first|refine blk_drewN ?_ _|refine blk_drew ?_|refine blk_alloc ?_ _));exact BK138.out⟩,⟨by repeat (first|(with_reducible first|exact HB.out|apply below_alloc|apply pw_below_drewN|apply below_drew1|refine below_set ?_ GE138.out)|exact HB.out)⟩⟩
   ·rw [if_neg c10] at H
    have c10b0 : decide (a2 < 0) = false:=decide_eq_false c10
    clear c10
    (first|rw [c10b0]|(simp only [i64_w,i32_w];rw [c10b0])|skip)
    by_cases c13 : a3 < 0
    ·rw [if_pos c13] at H
     have c13b0 : decide (a3 < 0) = true:=decide_eq_true c13
     clear c13
     have H':=Aside0.mk H
     clear H
     have hcz14_0 : w7.cell? ⟨gb138,0,none⟩ = some (.int .i64 a0_0):=(blk_cell BK138.out 0).trans rfl
     have hcz14_1 : w7.cell? ⟨gb138,1,none⟩ = some (.int .i64 a0_1):=(blk_cell BK138.out 1).trans rfl
     have hcz14_2 : w7.cell? ⟨gb138,2,none⟩ = some (.int .i64 a0_2):=(blk_cell BK138.out 2).trans rfl
     have hfz14_0:=blk_frozen BK138.out 0
     have hfz14_1:=blk_frozen BK138.out 1
     have hfz14_2:=blk_frozen BK138.out 2
     go_wp2_with (first|(go_at_call 28;(with_reducible refine (moraineref03_Right.calls a0_0 a0_1 a0_2 true _ A8.out).mono ?_);rintro e w15 ⟨rfl,hb⟩;have n0_:=Aside0.mk (blk_below (g:=gb138) (o:=.cells #[.int .i64 a0_0,.int .i64 a0_1,.int .i64 a0_2] 23 (0,0)) (by (with_reducible repeat (first|refine blk_drewN ?_ _|refine blk_drew ?_|refine blk_alloc ?_ _));exact BK138.out) hb);have n1_:=Aside0.mk (below_step (by repeat (first|(with_reducible first|exact HB.out|apply below_alloc|apply pw_below_drewN|apply below_drew1|refine below_set ?_ GE138.out)|exact HB.out)) hb);clear BK138;clear HB;have BK138:=n0_;have HB:=n1_;clear n0_ n1_;(try clear hb);(try clear hb2);(try clear hk);(try clear hi)))
     repeat (go_quiet (first|(go_at_call 28;(with_reducible refine (moraineref03_Right.calls a0_0 a0_1 a0_2 true _ A8.out).mono ?_);rintro e w15 ⟨rfl,hb⟩;have n0_:=Aside0.mk (blk_below (g:=gb138) (o:=.cells #[.int .i64 a0_0,.int .i64 a0_1,.int .i64 a0_2] 23 (0,0)) (by (with_reducible repeat (first|refine blk_drewN ?_ _|refine blk_drew ?_|refine blk_alloc ?_ _));exact BK138.out) hb);have n1_:=Aside0.mk (below_step (by repeat (first|(with_reducible first|exact HB.out|apply below_alloc|apply pw_below_drewN|apply below_drew1|refine below_set ?_ GE138.out)|exact HB.out)) hb);clear BK138;clear HB;have BK138:=n0_;have HB:=n1_;clear n0_ n1_;(try clear hb);(try clear hb2);(try clear hk);(try clear hi)));try go_wp2_with (first|(go_at_call 28;(with_reducible refine (moraineref03_Right.calls a0_0 a0_1 a0_2 true _ A8.out).mono ?_);rintro e w15 ⟨rfl,hb⟩;have n0_:=Aside0.mk (blk_below (g:=gb138) (o:=.cells #[.int .i64 a0_0,.int .i64 a0_1,.int .i64 a0_2] 23 (0,0)) (by (with_reducible repeat (first|refine blk_drewN ?_ _|refine blk_drew ?_|refine blk_alloc ?_ _));exact BK138.out) hb);have n1_:=Aside0.mk (below_step (by repeat (first|(with_reducible first|exact HB.out|apply below_alloc|apply pw_below_drewN|apply below_drew1|refine below_set ?_ GE138.out)|exact HB.out)) hb);clear BK138;clear HB;have BK138:=n0_;have HB:=n1_;clear n0_ n1_;(try clear hb);(try clear hb2);(try clear hk);(try clear hi))))
     go_meet
     case rel => exact ⟨_,(true),(by first|rfl|(simp;done)|(simp [*];done)),H',⟨by first|omega|exact Nat.le_refl _⟩,⟨by (with_reducible repeat (first|refine blk_drewN ?_ _|refine blk_drew ?_|refine blk_alloc ?_ _));exact BK138.out⟩,⟨by repeat (first|(with_reducible first|exact HB.out|apply below_alloc|apply pw_below_drewN|apply below_drew1|refine below_set ?_ GE138.out)|exact HB.out)⟩⟩
    ·rw [if_neg c13] at H
     have c13b0 : decide (a3 < 0) = false:=decide_eq_false c13
     clear c13
     by_cases c16 : a4 < 0
     ·rw [if_pos c16] at H
      have c16b0 : decide (a4 < 0) = true:=decide_eq_true c16
      clear c16
      have H':=Aside0.mk H
      clear H
      have hcz17_0 : w7.cell? ⟨gb138,0,none⟩ = some (.int .i64 a0_0):=(blk_cell BK138.out 0).trans rfl
      have hcz17_1 : w7.cell? ⟨gb138,1,none⟩ = some (.int .i64 a0_1):=(blk_cell BK138.out 1).trans rfl
      have hcz17_2 : w7.cell? ⟨gb138,2,none⟩ = some (.int .i64 a0_2):=(blk_cell BK138.out 2).trans rfl
      have hfz17_0:=blk_frozen BK138.out 0
      have hfz17_1:=blk_frozen BK138.out 1
      have hfz17_2:=blk_frozen BK138.out 2
      go_wp2_with (first|(go_at_call 28;(with_reducible refine (moraineref03_Right.calls a0_0 a0_1 a0_2 true _ A8.out).mono ?_);rintro e w18 ⟨rfl,hb⟩;have n0_:=Aside0.mk (blk_below (g:=gb138) (o:=.cells #[.int .i64 a0_0,.int .i64 a0_1,.int .i64 a0_2] 23 (0,0)) (by (with_reducible repeat (first|refine blk_drewN ?_ _|refine blk_drew ?_|refine blk_alloc ?_ _));exact BK138.out) hb);have n1_:=Aside0.mk (below_step (by repeat (first|(with_reducible first|exact HB.out|apply below_alloc|apply pw_below_drewN|apply below_drew1|refine below_set ?_ GE138.out)|exact HB.out)) hb);clear BK138;clear HB;have BK138:=n0_;have HB:=n1_;clear n0_ n1_;(try clear hb);(try clear hb2);(try clear hk);(try clear hi)))
      repeat (go_quiet (first|(go_at_call 28;(with_reducible refine (moraineref03_Right.calls a0_0 a0_1 a0_2 true _ A8.out).mono ?_);rintro e w18 ⟨rfl,hb⟩;have n0_:=Aside0.mk (blk_below (g:=gb138) (o:=.cells #[.int .i64 a0_0,.int .i64 a0_1,.int .i64 a0_2] 23 (0,0)) (by (with_reducible repeat (first|refine blk_drewN ?_ _|refine blk_drew ?_|refine blk_alloc ?_ _));exact BK138.out) hb);have n1_:=Aside0.mk (below_step (by repeat (first|(with_reducible first|exact HB.out|apply below_alloc|apply pw_below_drewN|apply below_drew1|refine below_set ?_ GE138.out)|exact HB.out)) hb);clear BK138;clear HB;have BK138:=n0_;have HB:=n1_;clear n0_ n1_;(try clear hb);(try clear hb2);(try clear hk);(try clear hi)));try go_wp2_with (first|(go_at_call 28;(with_reducible refine (moraineref03_Right.calls a0_0 a0_1 a0_2 true _ A8.out).mono ?_);rintro e w18 ⟨rfl,hb⟩;have n0_:=Aside0.mk (blk_below (g:=gb138) (o:=.cells #[.int .i64 a0_0,.int .i64 a0_1,.int .i64 a0_2] 23 (0,0)) (by (with_reducible repeat (first|refine blk_drewN ?_ _|refine blk_drew ?_|refine blk_alloc ?_ _));exact BK138.out) hb);have n1_:=Aside0.mk (below_step (by repeat (first|(with_reducible first|exact HB.out|apply below_alloc|apply pw_below_drewN|apply below_drew1|refine below_set ?_ GE138.out)|exact HB.out)) hb);clear BK138;clear HB;have BK138:=n0_;have HB:=n1_;clear n0_ n1_;(try clear hb);(try clear hb2);(try clear hk);(try clear hi))))
      go_meet
      case rel => exact ⟨_,(true),(by first|rfl|(simp;done)|(simp [*];done)),H',⟨by first|omega|exact Nat.le_refl _⟩,⟨by (with_reducible repeat (first|refine blk_drewN ?_ _|refine blk_drew ?_|refine blk_alloc ?_ _));exact BK138.out⟩,⟨by repeat (first|(with_reducible first|exact HB.out|apply below_alloc|apply pw_below_drewN|apply below_drew1|refine below_set ?_ GE138.out)|exact HB.out)⟩⟩
     ·rw [if_neg c16] at H
      have c16b0 : decide (a4 < 0) = false:=decide_eq_false c16
      clear c16
      by_cases c19 : a2 > a0_2
      ·rw [if_pos c19] at H
       have c19b0 : decide (a0_2 < a2) = true:=decide_eq_true c19
       clear c19
       have H':=Aside0.mk H
       clear H
       have hcz20_0 : w7.cell? ⟨gb138,0,none⟩ = some (.int .i64 a0_0):=(blk_cell BK138.out 0).trans rfl
       have hcz20_1 : w7.cell? ⟨gb138,1,none⟩ = some (.int .i64 a0_1):=(blk_cell BK138.out 1).trans rfl
       have hcz20_2 : w7.cell? ⟨gb138,2,none⟩ = some (.int .i64 a0_2):=(blk_cell BK138.out 2).trans rfl
       have hfz20_0:=blk_frozen BK138.out 0
       have hfz20_1:=blk_frozen BK138.out 1
       have hfz20_2:=blk_frozen BK138.out 2
       go_wp2_with (first|(go_at_call 28;(with_reducible refine (moraineref03_Right.calls a0_0 a0_1 a0_2 true _ A8.out).mono ?_);rintro e w21 ⟨rfl,hb⟩;have n0_:=Aside0.mk (blk_below (g:=gb138) (o:=.cells #[.int .i64 a0_0,.int .i64 a0_1,.int .i64 a0_2] 23 (0,0)) (by (with_reducible repeat (first|refine blk_drewN ?_ _|refine blk_drew ?_|refine blk_alloc ?_ _));exact BK138.out) hb);have n1_:=Aside0.mk (below_step (by repeat (first|(with_reducible first|exact HB.out|apply below_alloc|apply pw_below_drewN|apply below_drew1|refine below_set ?_ GE138.out)|exact HB.out)) hb);clear BK138;clear HB;have BK138:=n0_;have HB:=n1_;clear n0_ n1_;(try clear hb);(try clear hb2);(try clear hk);(try clear hi);have hcz22_0 : w21.cell? ⟨gb138,0,none⟩ = some (.int .i64 a0_0):=(blk_cell BK138.out 0).trans rfl;have hcz22_1 : w21.cell? ⟨gb138,1,none⟩ = some (.int .i64 a0_1):=(blk_cell BK138.out 1).trans rfl;have hcz22_2 : w21.cell? ⟨gb138,2,none⟩ = some (.int .i64 a0_2):=(blk_cell BK138.out 2).trans rfl;have hfz22_0:=blk_frozen BK138.out 0;have hfz22_1:=blk_frozen BK138.out 1;have hfz22_2:=blk_frozen BK138.out 2))
       repeat (go_quiet (first|(go_at_call 28;(with_reducible refine (moraineref03_Right.calls a0_0 a0_1 a0_2 true _ A8.out).mono ?_);rintro e w21 ⟨rfl,hb⟩;have n0_:=Aside0.mk (blk_below (g:=gb138) (o:=.cells #[.int .i64 a0_0,.int .i64 a0_1,.int .i64 a0_2] 23 (0,0)) (by (with_reducible repeat (first|refine blk_drewN ?_ _|refine blk_drew ?_|refine blk_alloc ?_ _));exact BK138.out) hb);have n1_:=Aside0.mk (below_step (by repeat (first|(with_reducible first|exact HB.out|apply below_alloc|apply pw_below_drewN|apply below_drew1|refine below_set ?_ GE138.out)|exact HB.out)) hb);clear BK138;clear HB;have BK138:=n0_;have HB:=n1_;clear n0_ n1_;(try clear hb);(try clear hb2);(try clear hk);(try clear hi);have hcz22_0 : w21.cell? ⟨gb138,0,none⟩ = some (.int .i64 a0_0):=(blk_cell BK138.out 0).trans rfl;have hcz22_1 : w21.cell? ⟨gb138,1,none⟩ = some (.int .i64 a0_1):=(blk_cell BK138.out 1).trans rfl;have hcz22_2 : w21.cell? ⟨gb138,2,none⟩ = some (.int .i64 a0_2):=(blk_cell BK138.out 2).trans rfl;have hfz22_0:=blk_frozen BK138.out 0;have hfz22_1:=blk_frozen BK138.out 1;have hfz22_2:=blk_frozen BK138.out 2));try go_wp2_with (first|(go_at_call 28;(with_reducible refine (moraineref03_Right.calls a0_0 a0_1 a0_2 true _ A8.out).mono ?_);rintro e w21 ⟨rfl,hb⟩;have n0_:=Aside0.mk (blk_below (g:=gb138) (o:=.cells #[.int .i64 a0_0,.int .i64 a0_1,.int .i64 a0_2] 23 (0,0)) (by (with_reducible repeat (first|refine blk_drewN ?_ _|refine blk_drew ?_|refine blk_alloc ?_ _));exact BK138.out) hb);have n1_:=Aside0.mk (below_step (by repeat (first|(with_reducible first|exact HB.out|apply below_alloc|apply pw_below_drewN|apply below_drew1|refine below_set ?_ GE138.out)|exact HB.out)) hb);clear BK138;clear HB;have BK138:=n0_;have HB:=n1_;clear n0_ n1_;(try clear hb);(try clear hb2);(try clear hk);(try clear hi);have hcz22_0 : w21.cell? ⟨gb138,0,none⟩ = some (.int .i64 a0_0):=(blk_cell BK138.out 0).trans rfl;have hcz22_1 : w21.cell? ⟨gb138,1,none⟩ = some (.int .i64 a0_1):=(blk_cell BK138.out 1).trans rfl;have hcz22_2 : w21.cell? ⟨gb138,2,none⟩ = some (.int .i64 a0_2):=(blk_cell BK138.out 2).trans rfl;have hfz22_0:=blk_frozen BK138.out 0;have hfz22_1:=blk_frozen BK138.out 1;have hfz22_2:=blk_frozen BK138.out 2)))
       go_meet
       case rel => exact ⟨_,(true),(by first|rfl|(simp;done)|(simp [*];done)),H',⟨by first|omega|exact Nat.le_refl _⟩,⟨by (with_reducible repeat (first|refine blk_drewN ?_ _|refine blk_drew ?_|refine blk_alloc ?_ _));exact BK138.out⟩,⟨by repeat (first|(with_reducible first|exact HB.out|apply below_alloc|apply pw_below_drewN|apply below_drew1|refine below_set ?_ GE138.out)|exact HB.out)⟩⟩
      ·rw [if_neg c19] at H
       have c19b0 : decide (a0_2 < a2) = false:=decide_eq_false c19
       clear c19
       by_cases c23 : a3 > 100000
       ·rw [if_pos c23] at H
        have c23b0 : decide (100000 < a3) = true:=decide_eq_true c23
        clear c23
        have H':=Aside0.mk H
        clear H
        have hcz24_0 : w7.cell? ⟨gb138,0,none⟩ = some (.int .i64 a0_0):=(blk_cell BK138.out 0).trans rfl
        have hcz24_1 : w7.cell? ⟨gb138,1,none⟩ = some (.int .i64 a0_1):=(blk_cell BK138.out 1).trans rfl
        have hcz24_2 : w7.cell? ⟨gb138,2,none⟩ = some (.int .i64 a0_2):=(blk_cell BK138.out 2).trans rfl
        have hfz24_0:=blk_frozen BK138.out 0
        have hfz24_1:=blk_frozen BK138.out 1
        have hfz24_2:=blk_frozen BK138.out 2
        go_wp2_with (first|(go_at_call 28;(with_reducible refine (moraineref03_Right.calls a0_0 a0_1 a0_2 true _ A8.out).mono ?_);rintro e w25 ⟨rfl,hb⟩;have n0_:=Aside0.mk (blk_below (g:=gb138) (o:=.cells #[.int .i64 a0_0,.int .i64 a0_1,.int .i64 a0_2] 23 (0,0)) (by (with_reducible repeat (first|refine blk_drewN ?_ _|refine blk_drew ?_|refine blk_alloc ?_ _));exact BK138.out) hb);have n1_:=Aside0.mk (below_step (by repeat (first|(with_reducible first|exact HB.out|apply below_alloc|apply pw_below_drewN|apply below_drew1|refine below_set ?_ GE138.out)|exact HB.out)) hb);clear BK138;clear HB;have BK138:=n0_;have HB:=n1_;clear n0_ n1_;(try clear hb);(try clear hb2);(try clear hk);(try clear hi);have hcz26_0 : w25.cell? ⟨gb138,0,none⟩ = some (.int .i64 a0_0):=(blk_cell BK138.out 0).trans rfl;have hcz26_1 : w25.cell? ⟨gb138,1,none⟩ = some (.int .i64 a0_1):=(blk_cell BK138.out 1).trans rfl;have hcz26_2 : w25.cell? ⟨gb138,2,none⟩ = some (.int .i64 a0_2):=(blk_cell BK138.out 2).trans rfl;have hfz26_0:=blk_frozen BK138.out 0;have hfz26_1:=blk_frozen BK138.out 1;have hfz26_2:=blk_frozen BK138.out 2))
        repeat (go_quiet (first|(go_at_call 28;(with_reducible refine (moraineref03_Right.calls a0_0 a0_1 a0_2 true _ A8.out).mono ?_);rintro e w25 ⟨rfl,hb⟩;have n0_:=Aside0.mk (blk_below (g:=gb138) (o:=.cells #[.int .i64 a0_0,.int .i64 a0_1,.int .i64 a0_2] 23 (0,0)) (by (with_reducible repeat (first|refine blk_drewN ?_ _|refine blk_drew ?_|refine blk_alloc ?_ _));exact BK138.out) hb);have n1_:=Aside0.mk (below_step (by repeat (first|(with_reducible first|exact HB.out|apply below_alloc|apply pw_below_drewN|apply below_drew1|refine below_set ?_ GE138.out)|exact HB.out)) hb);clear BK138;clear HB;have BK138:=n0_;have HB:=n1_;clear n0_ n1_;(try clear hb);(try clear hb2);(try clear hk);(try clear hi);have hcz26_0 : w25.cell? ⟨gb138,0,none⟩ = some (.int .i64 a0_0):=(blk_cell BK138.out 0).trans rfl;have hcz26_1 : w25.cell? ⟨gb138,1,none⟩ = some (.int .i64 a0_1):=(blk_cell BK138.out 1).trans rfl;have hcz26_2 : w25.cell? ⟨gb138,2,none⟩ = some (.int .i64 a0_2):=(blk_cell BK138.out 2).trans rfl;have hfz26_0:=blk_frozen BK138.out 0;have hfz26_1:=blk_frozen BK138.out 1;have hfz26_2:=blk_frozen BK138.out 2));try go_wp2_with (first|(go_at_call 28;(with_reducible refine (moraineref03_Right.calls a0_0 a0_1 a0_2 true _ A8.out).mono ?_);rintro e w25 ⟨rfl,hb⟩;have n0_:=Aside0.mk (blk_below (g:=gb138) (o:=.cells #[.int .i64 a0_0,.int .i64 a0_1,.int .i64 a0_2] 23 (0,0)) (by (with_reducible repeat (first|refine blk_drewN ?_ _|refine blk_drew ?_|refine blk_alloc ?_ _));exact BK138.out) hb);have n1_:=Aside0.mk (below_step (by repeat (first|(with_reducible first|exact HB.out|apply below_alloc|apply pw_below_drewN|apply below_drew1|refine below_set ?_ GE138.out)|exact HB.out)) hb);clear BK138;clear HB;have BK138:=n0_;have HB:=n1_;clear n0_ n1_;(try clear hb);(try clear hb2);(try clear hk);(try clear hi);have hcz26_0 : w25.cell? ⟨gb138,0,none⟩ = some (.int .i64 a0_0):=(blk_cell BK138.out 0).trans rfl;have hcz26_1 : w25.cell? ⟨gb138,1,none⟩ = some (.int .i64 a0_1):=(blk_cell BK138.out 1).trans rfl;have hcz26_2 : w25.cell? ⟨gb138,2,none⟩ = some (.int .i64 a0_2):=(blk_cell BK138.out 2).trans rfl;have hfz26_0:=blk_frozen BK138.out 0;have hfz26_1:=blk_frozen BK138.out 1;have hfz26_2:=blk_frozen BK138.out 2)))
        go_meet
        case rel => exact ⟨_,(true),(by first|rfl|(simp;done)|(simp [*];done)),H',⟨by first|omega|exact Nat.le_refl _⟩,⟨by (with_reducible repeat (first|refine blk_drewN ?_ _|refine blk_drew ?_|refine blk_alloc ?_ _));exact BK138.out⟩,⟨by repeat (first|(with_reducible first|exact HB.out|apply below_alloc|apply pw_below_drewN|apply below_drew1|refine below_set ?_ GE138.out)|exact HB.out)⟩⟩
       ·rw [if_neg c23] at H
        have c23b0 : decide (100000 < a3) = false:=decide_eq_false c23
        clear c23
        have H':=Aside0.mk H
        clear H
        have hcz27_0 : w7.cell? ⟨gb138,0,none⟩ = some (.int .i64 a0_0):=(blk_cell BK138.out 0).trans rfl
        have hcz27_1 : w7.cell? ⟨gb138,1,none⟩ = some (.int .i64 a0_1):=(blk_cell BK138.out 1).trans rfl
        have hcz27_2 : w7.cell? ⟨gb138,2,none⟩ = some (.int .i64 a0_2):=(blk_cell BK138.out 2).trans rfl
        have hfz27_0:=blk_frozen BK138.out 0
        have hfz27_1:=blk_frozen BK138.out 1
        have hfz27_2:=blk_frozen BK138.out 2
        go_wp2_with (first|(go_at_call 28;(with_reducible refine (moraineref03_Right.calls a0_0 a0_1 a0_2 true _ A8.out).mono ?_);rintro e w28 ⟨rfl,hb⟩;have n0_:=Aside0.mk (blk_below (g:=gb138) (o:=.cells #[.int .i64 a0_0,.int .i64 a0_1,.int .i64 a0_2] 23 (0,0)) (by (with_reducible repeat (first|refine blk_drewN ?_ _|refine blk_drew ?_|refine blk_alloc ?_ _));exact BK138.out) hb);have n1_:=Aside0.mk (below_step (by repeat (first|(with_reducible first|exact HB.out|apply below_alloc|apply pw_below_drewN|apply below_drew1|refine below_set ?_ GE138.out)|exact HB.out)) hb);clear BK138;clear HB;have BK138:=n0_;have HB:=n1_;clear n0_ n1_;(try clear hb);(try clear hb2);(try clear hk);(try clear hi);have hcz29_0 : w28.cell? ⟨gb138,0,none⟩ = some (.int .i64 a0_0):=(blk_cell BK138.out 0).trans rfl;have hcz29_1 : w28.cell? ⟨gb138,1,none⟩ = some (.int .i64 a0_1):=(blk_cell BK138.out 1).trans rfl;have hcz29_2 : w28.cell? ⟨gb138,2,none⟩ = some (.int .i64 a0_2):=(blk_cell BK138.out 2).trans rfl;have hfz29_0:=blk_frozen BK138.out 0;have hfz29_1:=blk_frozen BK138.out 1;have hfz29_2:=blk_frozen BK138.out 2))
        repeat (go_quiet (first|(go_at_call 28;(with_reducible refine (moraineref03_Right.calls a0_0 a0_1 a0_2 true _ A8.out).mono ?_);rintro e w28 ⟨rfl,hb⟩;have n0_:=Aside0.mk (blk_below (g:=gb138) (o:=.cells #[.int .i64 a0_0,.int .i64 a0_1,.int .i64 a0_2] 23 (0,0)) (by (with_reducible repeat (first|refine blk_drewN ?_ _|refine blk_drew ?_|refine blk_alloc ?_ _));exact BK138.out) hb);have n1_:=Aside0.mk (below_step (by repeat (first|(with_reducible first|exact HB.out|apply below_alloc|apply pw_below_drewN|apply below_drew1|refine below_set ?_ GE138.out)|exact HB.out)) hb);clear BK138;clear HB;have BK138:=n0_;have HB:=n1_;clear n0_ n1_;(try clear hb);(try clear hb2);(try clear hk);(try clear hi);have hcz29_0 : w28.cell? ⟨gb138,0,none⟩ = some (.int .i64 a0_0):=(blk_cell BK138.out 0).trans rfl;have hcz29_1 : w28.cell? ⟨gb138,1,none⟩ = some (.int .i64 a0_1):=(blk_cell BK138.out 1).trans rfl;have hcz29_2 : w28.cell? ⟨gb138,2,none⟩ = some (.int .i64 a0_2):=(blk_cell BK138.out 2).trans rfl;have hfz29_0:=blk_frozen BK138.out 0;have hfz29_1:=blk_frozen BK138.out 1;have hfz29_2:=blk_frozen BK138.out 2));try go_wp2_with (first|(go_at_call 28;(with_reducible refine (moraineref03_Right.calls a0_0 a0_1 a0_2 true _ A8.out).mono ?_);rintro e w28 ⟨rfl,hb⟩;have n0_:=Aside0.mk (blk_below (g:=gb138) (o:=.cells #[.int .i64 a0_0,.int .i64 a0_1,.int .i64 a0_2] 23 (0,0)) (by (with_reducible repeat (first|refine blk_drewN ?_ _|refine blk_drew ?_|refine blk_alloc ?_ _));exact BK138.out) hb);have n1_:=Aside0.mk (below_step (by repeat (first|(with_reducible first|exact HB.out|apply below_alloc|apply pw_below_drewN|apply below_drew1|refine below_set ?_ GE138.out)|exact HB.out)) hb);clear BK138;clear HB;have BK138:=n0_;have HB:=n1_;clear n0_ n1_;(try clear hb);(try clear hb2);(try clear hk);(try clear hi);have hcz29_0 : w28.cell? ⟨gb138,0,none⟩ = some (.int .i64 a0_0):=(blk_cell BK138.out 0).trans rfl;have hcz29_1 : w28.cell? ⟨gb138,1,none⟩ = some (.int .i64 a0_1):=(blk_cell BK138.out 1).trans rfl;have hcz29_2 : w28.cell? ⟨gb138,2,none⟩ = some (.int .i64 a0_2):=(blk_cell BK138.out 2).trans rfl;have hfz29_0:=blk_frozen BK138.out 0;have hfz29_1:=blk_frozen BK138.out 1;have hfz29_2:=blk_frozen BK138.out 2)))
        go_meet
        case rel => exact ⟨_,(decide (a4 > 100000)),(by first|rfl|(simp;done)|(simp [*];done)),H',⟨by first|omega|exact Nat.le_refl _⟩,⟨by (with_reducible repeat (first|refine blk_drewN ?_ _|refine blk_drew ?_|refine blk_alloc ?_ _));exact BK138.out⟩,⟨by repeat (first|(with_reducible first|exact HB.out|apply below_alloc|apply pw_below_drewN|apply below_drew1|refine below_set ?_ GE138.out)|exact HB.out)⟩⟩
  ·replace c9:=Bool.eq_false_iff.mpr c9
   subst c9
   have H1 : (moraineref09_Fits.j0 k l1 a2 a3 a4 true a0_0 a0_1 a0_2) = some r:=by rw [if_neg (show ¬ (false = true) by decide)] at H;exact H
   clear H
   have H:=H1
   clear H1
   have H':=Aside0.mk H
   clear H
   have hcz30_0 : w7.cell? ⟨gb138,0,none⟩ = some (.int .i64 a0_0):=(blk_cell BK138.out 0).trans rfl
   have hcz30_1 : w7.cell? ⟨gb138,1,none⟩ = some (.int .i64 a0_1):=(blk_cell BK138.out 1).trans rfl
   have hcz30_2 : w7.cell? ⟨gb138,2,none⟩ = some (.int .i64 a0_2):=(blk_cell BK138.out 2).trans rfl
   have hfz30_0:=blk_frozen BK138.out 0
   have hfz30_1:=blk_frozen BK138.out 1
   have hfz30_2:=blk_frozen BK138.out 2
   go_wp2_with (first|(go_at_call 28;(with_reducible refine (moraineref03_Right.calls a0_0 a0_1 a0_2 false _ A8.out).mono ?_);rintro e w31 ⟨rfl,hb⟩;have n0_:=Aside0.mk (blk_below (g:=gb138) (o:=.cells #[.int .i64 a0_0,.int .i64 a0_1,.int .i64 a0_2] 23 (0,0)) (by (with_reducible repeat (first|refine blk_drewN ?_ _|refine blk_drew ?_|refine blk_alloc ?_ _));exact BK138.out) hb);have n1_:=Aside0.mk (below_step (by repeat (first|(with_reducible first|exact HB.out|apply below_alloc|apply pw_below_drewN|apply below_drew1|refine below_set ?_ GE138.out)|exact HB.out)) hb);clear BK138;clear HB;have BK138:=n0_;have HB:=n1_;clear n0_ n1_;(try clear hb);(try clear hb2);(try clear hk);(try clear hi)))
   repeat (go_quiet (first|(go_at_call 28;(with_reducible refine (moraineref03_Right.calls a0_0 a0_1 a0_2 false _ A8.out).mono ?_);rintro e w31 ⟨rfl,hb⟩;have n0_:=Aside0.mk (blk_below (g:=gb138) (o:=.cells #[.int .i64 a0_0,.int .i64 a0_1,.int .i64 a0_2] 23 (0,0)) (by (with_reducible repeat (first|refine blk_drewN ?_ _|refine blk_drew ?_|refine blk_alloc ?_ _));exact BK138.out) hb);have n1_:=Aside0.mk (below_step (by repeat (first|(with_reducible first|exact HB.out|apply below_alloc|apply pw_below_drewN|apply below_drew1|refine below_set ?_ GE138.out)|exact HB.out)) hb);clear BK138;clear HB;have BK138:=n0_;have HB:=n1_;clear n0_ n1_;(try clear hb);(try clear hb2);(try clear hk);(try clear hi)));try go_wp2_with (first|(go_at_call 28;(with_reducible refine (moraineref03_Right.calls a0_0 a0_1 a0_2 false _ A8.out).mono ?_);rintro e w31 ⟨rfl,hb⟩;have n0_:=Aside0.mk (blk_below (g:=gb138) (o:=.cells #[.int .i64 a0_0,.int .i64 a0_1,.int .i64 a0_2] 23 (0,0)) (by (with_reducible repeat (first|refine blk_drewN ?_ _|refine blk_drew ?_|refine blk_alloc ?_ _));exact BK138.out) hb);have n1_:=Aside0.mk (below_step (by repeat (first|(with_reducible first|exact HB.out|apply below_alloc|apply pw_below_drewN|apply below_drew1|refine below_set ?_ GE138.out)|exact HB.out)) hb);clear BK138;clear HB;have BK138:=n0_;have HB:=n1_;clear n0_ n1_;(try clear hb);(try clear hb2);(try clear hk);(try clear hi))))
   go_meet
   case rel => exact ⟨_,(true),(by first|rfl|(simp;done)|(simp [*];done)),H',⟨by first|omega|exact Nat.le_refl _⟩,⟨by (with_reducible repeat (first|refine blk_drewN ?_ _|refine blk_drew ?_|refine blk_alloc ?_ _));exact BK138.out⟩,⟨by repeat (first|(with_reducible first|exact HB.out|apply below_alloc|apply pw_below_drewN|apply below_drew1|refine below_set ?_ GE138.out)|exact HB.out)⟩⟩
 case rest =>
  clear HC6
  try clear c1
  try clear c2
  try clear p2
  try clear c9
  try clear c10
  try clear c10b0
  try clear c13
  try clear c13b0
  try clear c16
  try clear c16b0
  try clear c19
  try clear c19b0
  try clear c20
  try clear c23
  try clear c23b0
  try clear hcz11_0
  try clear hcz11_1
  try clear hcz11_2
  try clear hcz14_0
  try clear hcz14_1
  try clear hcz14_2
  try clear hcz17_0
  try clear hcz17_1
  try clear hcz17_2
  try clear hcz20_0
  try clear hcz20_1
  try clear hcz20_2
  try clear hcz22_0
  try clear hcz22_1
  try clear hcz22_2
  try clear hcz24_0
  try clear hcz24_1
  try clear hcz24_2
  try clear hcz26_0
  try clear hcz26_1
  try clear hcz26_2
  try clear hcz27_0
  try clear hcz27_1
  try clear hcz27_2
  try clear hcz29_0
  try clear hcz29_1
  try clear hcz29_2
  try clear hcz30_0
  try clear hcz30_1
  try clear hcz30_2
  try clear hfz11_0
  try clear hfz11_1
  try clear hfz11_2
  try clear hfz14_0
  try clear hfz14_1
  try clear hfz14_2
  try clear hfz17_0
  try clear hfz17_1
  try clear hfz17_2
  try clear hfz20_0
  try clear hfz20_1
  try clear hfz20_2
  try clear hfz22_0
  try clear hfz22_1
  try clear hfz22_2
  try clear hfz24_0
  try clear hfz24_1
  try clear hfz24_2
  try clear hfz26_0
  try clear hfz26_1
  try clear hfz26_2
  try clear hfz27_0
  try clear hfz27_1
  try clear hfz27_2
  try clear hfz29_0
  try clear hfz29_1
  try clear hfz29_2
  try clear hfz30_0
  try clear hfz30_1
  try clear hfz30_2
  obtain ⟨kq,x43_5,rfl,HA,HJ5,BK138,HB⟩:=hcut
  cases kq with
  | zero => exact absurd HA.out (by simp [moraineref09_Fits.j0])
  | succ kj5 =>
   have H:=HA.out
   clear HA
   simp only [moraineref09_Fits.j0] at H
   by_cases c32 : x43_5 = true
   ·subst c32
    have H1 : (some false) = some r:=by rw [if_pos rfl] at H;exact H
    clear H
    have H:=H1
    clear H1
    obtain rfl:=Option.some.inj H
    go_wp2
    repeat (go_quiet (fail);try go_wp2)
    go_ret
    exact ⟨by first|rfl|(simp [errW_none,errW_some] <;> rfl)|(simp [*,errW_none,errW_some] <;> rfl),by repeat (first|(with_reducible first|exact HB.out|apply below_alloc|apply pw_below_drewN|apply below_drew1|refine below_set ?_ GE138.out)|exact HB.out)⟩
   ·replace c32:=Bool.eq_false_iff.mpr c32
    subst c32
    have H1 : ((moraineref03_Places.f a0_0 a0_1 a0_2).bind fun t140 => (moraineref09_Fits.l0 kj5 l1 a2 a3 a4 t140 0 0 a0_0 a0_1 a0_2)) = some r:=by rw [if_neg (show ¬ (false = true) by decide)] at H;exact H
    clear H
    have H:=H1
    clear H1
    replace H:=Option.bind_eq_some_iff.mp H
    obtain ⟨t140,A330,H⟩:=H
    replace H : (moraineref09_Fits.l0 kj5 l1 a2 a3 a4 t140 0 0 a0_0 a0_1 a0_2) = some r:=H
    have A33:=Aside0.mk A330
    clear A330
    have H':=Aside0.mk H
    clear H
    have hcz34_0 : wc.cell? ⟨gb138,0,none⟩ = some (.int .i64 a0_0):=(blk_cell BK138.out 0).trans rfl
    have hcz34_1 : wc.cell? ⟨gb138,1,none⟩ = some (.int .i64 a0_1):=(blk_cell BK138.out 1).trans rfl
    have hcz34_2 : wc.cell? ⟨gb138,2,none⟩ = some (.int .i64 a0_2):=(blk_cell BK138.out 2).trans rfl
    have hfz34_0:=blk_frozen BK138.out 0
    have hfz34_1:=blk_frozen BK138.out 1
    have hfz34_2:=blk_frozen BK138.out 2
    go_wp2_with (first|(go_at_call 29;(with_reducible refine (moraineref03_Places.calls a0_0 a0_1 a0_2 t140 _ A33.out).mono ?_);rintro e w35 ⟨rfl,hb⟩;have n0_:=Aside0.mk (blk_below (g:=gb138) (o:=.cells #[.int .i64 a0_0,.int .i64 a0_1,.int .i64 a0_2] 23 (0,0)) (by (with_reducible repeat (first|refine blk_drewN ?_ _|refine blk_drew ?_|refine blk_alloc ?_ _));exact BK138.out) hb);have n1_:=Aside0.mk (below_step (by repeat (first|(with_reducible first|exact HB.out|apply below_alloc|apply pw_below_drewN|apply below_drew1|refine below_set ?_ GE138.out)|exact HB.out)) hb);clear BK138;clear HB;have BK138:=n0_;have HB:=n1_;clear n0_ n1_;(try clear hb);(try clear hb2);(try clear hk);(try clear hi)))
    repeat (go_quiet (first|(go_at_call 29;(with_reducible refine (moraineref03_Places.calls a0_0 a0_1 a0_2 t140 _ A33.out).mono ?_);rintro e w35 ⟨rfl,hb⟩;have n0_:=Aside0.mk (blk_below (g:=gb138) (o:=.cells #[.int .i64 a0_0,.int .i64 a0_1,.int .i64 a0_2] 23 (0,0)) (by (with_reducible repeat (first|refine blk_drewN ?_ _|refine blk_drew ?_|refine blk_alloc ?_ _));exact BK138.out) hb);have n1_:=Aside0.mk (below_step (by repeat (first|(with_reducible first|exact HB.out|apply below_alloc|apply pw_below_drewN|apply below_drew1|refine below_set ?_ GE138.out)|exact HB.out)) hb);clear BK138;clear HB;have BK138:=n0_;have HB:=n1_;clear n0_ n1_;(try clear hb);(try clear hb2);(try clear hk);(try clear hi)));try go_wp2_with (first|(go_at_call 29;(with_reducible refine (moraineref03_Places.calls a0_0 a0_1 a0_2 t140 _ A33.out).mono ?_);rintro e w35 ⟨rfl,hb⟩;have n0_:=Aside0.mk (blk_below (g:=gb138) (o:=.cells #[.int .i64 a0_0,.int .i64 a0_1,.int .i64 a0_2] 23 (0,0)) (by (with_reducible repeat (first|refine blk_drewN ?_ _|refine blk_drew ?_|refine blk_alloc ?_ _));exact BK138.out) hb);have n1_:=Aside0.mk (below_step (by repeat (first|(with_reducible first|exact HB.out|apply below_alloc|apply pw_below_drewN|apply below_drew1|refine below_set ?_ GE138.out)|exact HB.out)) hb);clear BK138;clear HB;have BK138:=n0_;have HB:=n1_;clear n0_ n1_;(try clear hb);(try clear hb2);(try clear hk);(try clear hi))))
    go_loopg [12,13] kj5 (fun kq v12 v13 w' => ∃ (x12_2 : Int) (x13_2 : Int),v12 = .int .i64 x12_2 ∧ v13 = .int .i64 x13_2 ∧ Aside0 (moraineref09_Fits.l0 kq l1 a2 a3 a4 t140 x12_2 x13_2 a0_0 a0_1 a0_2 = some r) ∧ Aside0 (kq ≤ kj5) ∧ Aside0 (w'.heap[gb138]? = some (.cells #[.int .i64 a0_0,.int .i64 a0_1,.int .i64 a0_2] 23 (0,0))) ∧ Aside0 (Below w.heap.size w w'))
    case atStart => exact ⟨(0),(0),(by first|rfl|(simp;done)|(simp [*];done)),(by first|rfl|(simp;done)|(simp [*];done)),H',⟨Nat.le_refl _⟩,⟨by (with_reducible repeat (first|refine blk_drewN ?_ _|refine blk_drew ?_|refine blk_alloc ?_ _));exact BK138.out⟩,⟨by repeat (first|(with_reducible first|exact HB.out|apply below_alloc|apply pw_below_drewN|apply below_drew1|refine below_set ?_ GE138.out)|exact HB.out)⟩⟩
    case round =>
     clear H'
     try clear c1
     try clear c2
     try clear p2
     try clear c3
     try clear c9
     try clear c10
     try clear c10b0
     try clear c13
     try clear c13b0
     try clear c16
     try clear c16b0
     try clear c19
     try clear c19b0
     try clear c20
     try clear c23
     try clear c23b0
     try clear c32
     try clear hcz11_0
     try clear hcz11_1
     try clear hcz11_2
     try clear hcz14_0
     try clear hcz14_1
     try clear hcz14_2
     try clear hcz17_0
     try clear hcz17_1
     try clear hcz17_2
     try clear hcz20_0
     try clear hcz20_1
     try clear hcz20_2
     try clear hcz22_0
     try clear hcz22_1
     try clear hcz22_2
     try clear hcz24_0
     try clear hcz24_1
     try clear hcz24_2
     try clear hcz26_0
     try clear hcz26_1
     try clear hcz26_2
     try clear hcz27_0
     try clear hcz27_1
     try clear hcz27_2
     try clear hcz29_0
     try clear hcz29_1
     try clear hcz29_2
     try clear hcz30_0
     try clear hcz30_1
     try clear hcz30_2
     try clear hcz34_0
     try clear hcz34_1
     try clear hcz34_2
     try clear hfz11_0
     try clear hfz11_1
     try clear hfz11_2
     try clear hfz14_0
     try clear hfz14_1
     try clear hfz14_2
     try clear hfz17_0
     try clear hfz17_1
     try clear hfz17_2
     try clear hfz20_0
     try clear hfz20_1
     try clear hfz20_2
     try clear hfz22_0
     try clear hfz22_1
     try clear hfz22_2
     try clear hfz24_0
     try clear hfz24_1
     try clear hfz24_2
     try clear hfz26_0
     try clear hfz26_1
     try clear hfz26_2
     try clear hfz27_0
     try clear hfz27_1
     try clear hfz27_2
     try clear hfz29_0
     try clear hfz29_1
     try clear hfz29_2
     try clear hfz30_0
     try clear hfz30_1
     try clear hfz30_2
     try clear hfz34_0
     try clear hfz34_1
     try clear hfz34_2
     try clear p2
     obtain ⟨x12_2,x13_2,rfl,rfl,HA,HK2,BK138,HB⟩:=hrel
     cases gk with
     | zero => exact absurd HA.out (by simp [moraineref09_Fits.l0])
     | succ k2 =>
      have H:=HA.out
      clear HA
      simp only [moraineref09_Fits.l0] at H
      by_cases c36 : x13_2 < (l1.length : Int)
      ·rw [if_pos c36] at H
       have c36b0 : decide (x13_2 < (l1.length : Int)) = true:=decide_eq_true c36
       clear c36
       by_cases c37 : 0 ≤ x13_2
       ·rw [if_pos c37] at H
        have c37b0 : decide (0 ≤ x13_2) = true:=decide_eq_true c37
        clear c37
        by_cases c38 : (rd l1 x13_2) < 0
        ·rw [if_pos c38] at H
         have c38b0 : decide ((rd l1 x13_2) < 0) = true:=decide_eq_true c38
         clear c38
         obtain rfl:=Option.some.inj H
         have p141 : 0 ≤ (x13_2 : Int):=of_decide_eq_true (by first|(with_reducible assumption)|assumption)
         have q141 : x13_2 < (l1.length : Int):=of_decide_eq_true (by first|(with_reducible assumption)|assumption)
         obtain ⟨ad141,e141,hx141_0⟩:=Kd.at_int HR1.out x13_2 p141 q141
         cases e141
         replace hx141_0:=(HB.out.cell (World.block_lt_of_cell? w _ hx141_0)).trans hx141_0
         replace p141:=eq_true p141
         replace q141:=eq_true q141
         go_wp2
         repeat (go_quiet (fail);try go_wp2)
         go_ret
         exact ⟨by first|rfl|(simp [errW_none,errW_some] <;> rfl)|(simp [*,errW_none,errW_some] <;> rfl),by repeat (first|(with_reducible first|exact HB.out|apply below_alloc|apply pw_below_drewN|apply below_drew1|refine below_set ?_ GE138.out)|exact HB.out)⟩
        ·rw [if_neg c38] at H
         have c38b0 : decide ((rd l1 x13_2) < 0) = false:=decide_eq_false c38
         clear c38
         by_cases c39 : (rd l1 x13_2) > 0
         ·rw [if_pos c39] at H
          have c39b0 : decide (0 < (rd l1 x13_2)) = true:=decide_eq_true c39
          clear c39
          have H':=Aside0.mk H
          clear H
          have p141 : 0 ≤ (x13_2 : Int):=of_decide_eq_true (by first|(with_reducible assumption)|assumption)
          have q141 : x13_2 < (l1.length : Int):=of_decide_eq_true (by first|(with_reducible assumption)|assumption)
          obtain ⟨ad141,e141,hx141_0⟩:=Kd.at_int HR1.out x13_2 p141 q141
          cases e141
          replace hx141_0:=(HB.out.cell (World.block_lt_of_cell? w _ hx141_0)).trans hx141_0
          replace p141:=eq_true p141
          replace q141:=eq_true q141
          have p142 : 0 ≤ (x13_2 : Int):=of_decide_eq_true (by first|(with_reducible assumption)|assumption)
          have q142 : x13_2 < (l1.length : Int):=of_decide_eq_true (by first|(with_reducible assumption)|assumption)
          obtain ⟨ad142,e142,hx142_0⟩:=Kd.at_int HR1.out x13_2 p142 q142
          obtain rfl : ad141 = ad142:=(by injection e142)
          replace hx142_0:=(HB.out.cell (World.block_lt_of_cell? w _ hx142_0)).trans hx142_0
          replace p142:=eq_true p142
          replace q142:=eq_true q142
          go_wp2
          repeat (go_quiet (fail);try go_wp2)
          go_roundg k2
          case measure => have:=HJ5.out;have:=HK2.out;omega
          case rel => exact ⟨(wrap64 (x12_2 + 1)),(wrap64 (x13_2 + 1)),(by first|rfl|(simp;done)|(simp [*];done)),(by first|rfl|(simp;done)|(simp [*];done)),H',⟨by have:=HJ5.out;have:=HK2.out;omega⟩,⟨by (with_reducible repeat (first|refine blk_drewN ?_ _|refine blk_drew ?_|refine blk_alloc ?_ _));exact BK138.out⟩,⟨by repeat (first|(with_reducible first|exact HB.out|apply below_alloc|apply pw_below_drewN|apply below_drew1|refine below_set ?_ GE138.out)|exact HB.out)⟩⟩
         ·rw [if_neg c39] at H
          have c39b0 : decide (0 < (rd l1 x13_2)) = false:=decide_eq_false c39
          clear c39
          have H':=Aside0.mk H
          clear H
          have p141 : 0 ≤ (x13_2 : Int):=of_decide_eq_true (by first|(with_reducible assumption)|assumption)
          have q141 : x13_2 < (l1.length : Int):=of_decide_eq_true (by first|(with_reducible assumption)|assumption)
          obtain ⟨ad141,e141,hx141_0⟩:=Kd.at_int HR1.out x13_2 p141 q141
          cases e141
          replace hx141_0:=(HB.out.cell (World.block_lt_of_cell? w _ hx141_0)).trans hx141_0
          replace p141:=eq_true p141
          replace q141:=eq_true q141
          have p142 : 0 ≤ (x13_2 : Int):=of_decide_eq_true (by first|(with_reducible assumption)|assumption)
          have q142 : x13_2 < (l1.length : Int):=of_decide_eq_true (by first|(with_reducible assumption)|assumption)
          obtain ⟨ad142,e142,hx142_0⟩:=Kd.at_int HR1.out x13_2 p142 q142
          obtain rfl : ad141 = ad142:=(by injection e142)
          replace hx142_0:=(HB.out.cell (World.block_lt_of_cell? w _ hx142_0)).trans hx142_0
          replace p142:=eq_true p142
          replace q142:=eq_true q142
          go_wp2
          repeat (go_quiet (fail);try go_wp2)
          go_roundg k2
          case measure => have:=HJ5.out;have:=HK2.out;omega
          case rel => exact ⟨(x12_2),(wrap64 (x13_2 + 1)),(by first|rfl|(simp;done)|(simp [*];done)),(by first|rfl|(simp;done)|(simp [*];done)),H',⟨by have:=HJ5.out;have:=HK2.out;omega⟩,⟨by (with_reducible repeat (first|refine blk_drewN ?_ _|refine blk_drew ?_|refine blk_alloc ?_ _));exact BK138.out⟩,⟨by repeat (first|(with_reducible first|exact HB.out|apply below_alloc|apply pw_below_drewN|apply below_drew1|refine below_set ?_ GE138.out)|exact HB.out)⟩⟩
       ·rw [if_neg c37] at H
        exact absurd H (by simp)
      ·rw [if_neg c36] at H
       have c36b0 : decide (x13_2 < (l1.length : Int)) = false:=decide_eq_false c36
       clear c36
       by_cases c40 : t140 = 0
       ·rw [if_pos c40] at H
        exact absurd H (by simp)
       ·rw [if_neg c40] at H
        have c40b0 : (t140 == 0) = false:=beq_eq_false_iff_ne.mpr c40
        have c40b1 : (t140 != 0) = true:=bne_iff_ne.mpr c40
        obtain ⟨ji41,hji41⟩ : ∃ j_ : Int,(mx (wrap64 (a2 + (wrap64 (Int.tdiv (wrap64 ((wrap64 (a4 + t140)) - 1)) t140)))) (wrap64 ((wrap64 (2 * (wrap64 (Int.tdiv (wrap64 ((wrap64 (a4 + t140)) - 1)) t140)))) + 1))) = j_:=⟨_,rfl⟩
        replace H : (some (decide ((wrap64 ((wrap64 (x12_2 + (wrap64 (Int.tdiv (wrap64 ((wrap64 (a3 + t140)) - 1)) t140)))) + (ji41))) ≤ a0_2))) = some r:=by first|(rw [hji41] at H;exact H)|(simp only [hji41] at H ⊢;exact H)
        have hji41_ : (if (wrap64 (a2 + (wrap64 (Int.tdiv (wrap64 ((wrap64 (a4 + t140)) - 1)) t140)))) < (wrap64 ((wrap64 (2 * (wrap64 (Int.tdiv (wrap64 ((wrap64 (a4 + t140)) - 1)) t140)))) + 1)) then (wrap64 ((wrap64 (2 * (wrap64 (Int.tdiv (wrap64 ((wrap64 (a4 + t140)) - 1)) t140)))) + 1)) else (wrap64 (a2 + (wrap64 (Int.tdiv (wrap64 ((wrap64 (a4 + t140)) - 1)) t140))))) = ji41:=hji41
        obtain rfl:=Option.some.inj H
        have hcz42_0 : wr.cell? ⟨gb138,0,none⟩ = some (.int .i64 a0_0):=(blk_cell BK138.out 0).trans rfl
        have hcz42_1 : wr.cell? ⟨gb138,1,none⟩ = some (.int .i64 a0_1):=(blk_cell BK138.out 1).trans rfl
        have hcz42_2 : wr.cell? ⟨gb138,2,none⟩ = some (.int .i64 a0_2):=(blk_cell BK138.out 2).trans rfl
        have hfz42_0:=blk_frozen BK138.out 0
        have hfz42_1:=blk_frozen BK138.out 1
        have hfz42_2:=blk_frozen BK138.out 2
        go_wp2
        repeat (go_quiet (fail);try go_wp2)
        go_ret
        exact ⟨by first|rfl|(simp [errW_none,errW_some] <;> rfl)|(simp only [← hji41];first|rfl|(simp [errW_none,errW_some] <;> rfl))|(simp [*,errW_none,errW_some] <;> rfl),by repeat (first|(with_reducible first|exact HB.out|apply below_alloc|apply pw_below_drewN|apply below_drew1|refine below_set ?_ GE138.out)|exact HB.out)⟩

-- NOT PRINTED: function 4 (morainelaw09_UsageTakes)

end Go.Proofs.Ytogdnolkheifcaa.Base2x
