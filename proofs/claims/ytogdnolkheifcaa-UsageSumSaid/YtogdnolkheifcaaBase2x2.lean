import Derived.Test.YtogdnolkheifcaaBase2x0
import Derived.Test.YtogdnolkheifcaaBase2x1
namespace Go.Proofs.Ytogdnolkheifcaa.Base2x
open Go.RowKit Go.Proofs.YtogdnolkheifcaaW.PrintWords Go.Proofs.YtogdnolkheifcaaW.PrintLast Go.Proofs.YtogdnolkheifcaaW.PrintMore
attribute [local go_sem] max2_int min2_int max_two min_two max_three min_three max_four min_four   -- for this text's walks alone
set_option linter.unusedVariables false
set_option linter.unusedSimpArgs false

/-! ### moraineref09_Victims: function 18 -/
mutual
def moraineref09_Victims.l0 : Nat → List Int → List Int → Int → List Int → Int → Int → Int → Int → Int → Option (List Int)
 | 0,_,_,_,_,_,_,_,_,_ => none
 | k + 1,x1,x2,x7,x8,x9,x10,x128000,x128001,x128002 => if x10 ≤ x7 then (moraineref09_Victims.l1 k x1 x2 x7 x8 x9 x10 0 x128000 x128001 x128002) else (if (x8.length : Int) < 2 then (some ([] : List Int)) else (some x8))
def moraineref09_Victims.l1 : Nat → List Int → List Int → Int → List Int → Int → Int → Int → Int → Int → Int → Option (List Int)
 | 0,_,_,_,_,_,_,_,_,_,_ => none
 | k + 1,x1,x2,x7,x8,x9,x10,x11,x128000,x128001,x128002 => if x11 < x128002 then (moraineref09_Victims.j2 k x1 x2 x7 x8 x9 x10 x11 (decide (x11 < (x1.length : Int))) x128000 x128001 x128002) else (moraineref09_Victims.j2 k x1 x2 x7 x8 x9 x10 x11 false x128000 x128001 x128002)
def moraineref09_Victims.j2 : Nat → List Int → List Int → Int → List Int → Int → Int → Int → Bool → Int → Int → Int → Option (List Int)
 | 0,_,_,_,_,_,_,_,_,_,_,_ => none
 | k + 1,x1,x2,x7,x8,x9,x10,x11,x32,x128000,x128001,x128002 => if x32 = true then (if 0 ≤ x11 then (if x11 < (x1.length : Int) then (if (rd x1 x11) = x10 then ((moraineref09_among.f k x2 x11).bind fun t134 => (if t134 = true then (moraineref09_Victims.l1 k x1 x2 x7 x8 x9 x10 (wrap64 (x11 + 1)) x128000 x128001 x128002) else (if (wrap64 (x9 + x10)) ≤ x7 then (if x8.length < 17592186044416 then (moraineref09_Victims.l1 k x1 x2 x7 (x8 ++ [x11]) (wrap64 (x9 + x10)) x10 (wrap64 (x11 + 1)) x128000 x128001 x128002) else (none)) else (moraineref09_Victims.l1 k x1 x2 x7 x8 x9 x10 (wrap64 (x11 + 1)) x128000 x128001 x128002)))) else (moraineref09_Victims.l1 k x1 x2 x7 x8 x9 x10 (wrap64 (x11 + 1)) x128000 x128001 x128002)) else (none)) else (none)) else (moraineref09_Victims.l0 k x1 x2 x7 x8 x9 (wrap64 (x10 + 1)) x128000 x128001 x128002)
end
def moraineref09_Victims.f (k : Nat) (a0_0 : Int) (a0_1 : Int) (a0_2 : Int) (l1 : List Int) (l2 : List Int) : Option (List Int):=(moraineref03_Right.f a0_0 a0_1 a0_2).bind fun t128 => (if t128 = true then ((moraineref03_Places.f a0_0 a0_1 a0_2).bind fun t129 => (moraineref09_Victims.l0 k l1 l2 t129 (([] : List Int)) 0 1 a0_0 a0_1 a0_2)) else (some ([] : List Int)))
theorem moraineref09_Victims.mono_l : ∀ k,(∀ y0 y1 y2 y3 y4 y5 y6 y7 y8,LeO (moraineref09_Victims.l0 k y0 y1 y2 y3 y4 y5 y6 y7 y8) (moraineref09_Victims.l0 (k + 1) y0 y1 y2 y3 y4 y5 y6 y7 y8)) ∧ (∀ y0 y1 y2 y3 y4 y5 y6 y7 y8 y9,LeO (moraineref09_Victims.l1 k y0 y1 y2 y3 y4 y5 y6 y7 y8 y9) (moraineref09_Victims.l1 (k + 1) y0 y1 y2 y3 y4 y5 y6 y7 y8 y9)) ∧ (∀ y0 y1 y2 y3 y4 y5 y6 y7 y8 y9 y10,LeO (moraineref09_Victims.j2 k y0 y1 y2 y3 y4 y5 y6 y7 y8 y9 y10) (moraineref09_Victims.j2 (k + 1) y0 y1 y2 y3 y4 y5 y6 y7 y8 y9 y10))
 | 0 => ⟨fun _ _ _ _ _ _ _ _ _ r h => by simp [moraineref09_Victims.l0] at h,fun _ _ _ _ _ _ _ _ _ _ r h => by simp [moraineref09_Victims.l1] at h,fun _ _ _ _ _ _ _ _ _ _ _ r h => by simp [moraineref09_Victims.j2] at h⟩
 | k + 1 => by
  obtain ⟨ih0,ih1,ih2⟩:=moraineref09_Victims.mono_l k
  refine ⟨?_,?_,?_⟩
  ·intro y0 y1 y2 y3 y4 y5 y6 y7 y8
   unfold moraineref09_Victims.l0
   repeat' first
   | (with_reducible exact ih0 _ _ _ _ _ _ _ _ _)
   | (with_reducible exact ih1 _ _ _ _ _ _ _ _ _ _)
   | (with_reducible exact ih2 _ _ _ _ _ _ _ _ _ _ _)
   | (with_reducible exact moraineref09_among.mono _ _ _)
   | (with_reducible exact LeO.refl _)
   | (with_reducible exact LeO.none _)
   | (with_reducible refine LeO.ite ?_ ?_)
   | (with_reducible refine LeO.bind ?_ (fun _ => ?_))
   | exact ih0 _ _ _ _ _ _ _ _ _
   | exact ih1 _ _ _ _ _ _ _ _ _ _
   | exact ih2 _ _ _ _ _ _ _ _ _ _ _
   | exact moraineref09_among.mono _ _ _
   | exact LeO.none _
   | refine LeO.ite ?_ ?_
   | refine LeO.bind ?_ (fun _ => ?_)
  ·intro y0 y1 y2 y3 y4 y5 y6 y7 y8 y9
   unfold moraineref09_Victims.l1
   repeat' first
   | (with_reducible exact ih0 _ _ _ _ _ _ _ _ _)
   | (with_reducible exact ih1 _ _ _ _ _ _ _ _ _ _)
   | (with_reducible exact ih2 _ _ _ _ _ _ _ _ _ _ _)
   | (with_reducible exact moraineref09_among.mono _ _ _)
   | (with_reducible exact LeO.refl _)
   | (with_reducible exact LeO.none _)
   | (with_reducible refine LeO.ite ?_ ?_)
   | (with_reducible refine LeO.bind ?_ (fun _ => ?_))
   | exact ih0 _ _ _ _ _ _ _ _ _
   | exact ih1 _ _ _ _ _ _ _ _ _ _
   | exact ih2 _ _ _ _ _ _ _ _ _ _ _
   | exact moraineref09_among.mono _ _ _
   | exact LeO.none _
   | refine LeO.ite ?_ ?_
   | refine LeO.bind ?_ (fun _ => ?_)
  ·intro y0 y1 y2 y3 y4 y5 y6 y7 y8 y9 y10
   unfold moraineref09_Victims.j2
   repeat' first
   | (with_reducible exact ih0 _ _ _ _ _ _ _ _ _)
   | (with_reducible exact ih1 _ _ _ _ _ _ _ _ _ _)
   | (with_reducible exact ih2 _ _ _ _ _ _ _ _ _ _ _)
   | (with_reducible exact moraineref09_among.mono _ _ _)
   | (with_reducible exact LeO.refl _)
   | (with_reducible exact LeO.none _)
   | (with_reducible refine LeO.ite ?_ ?_)
   | (with_reducible refine LeO.bind ?_ (fun _ => ?_))
   | exact ih0 _ _ _ _ _ _ _ _ _
   | exact ih1 _ _ _ _ _ _ _ _ _ _
   | exact ih2 _ _ _ _ _ _ _ _ _ _ _
   | exact moraineref09_among.mono _ _ _
   | exact LeO.none _
   | refine LeO.ite ?_ ?_
   | refine LeO.bind ?_ (fun _ => ?_)
theorem moraineref09_Victims.mono : ∀ a0 a1 a2 a3 a4 k,LeO (moraineref09_Victims.f k a0 a1 a2 a3 a4) (moraineref09_Victims.f (k + 1) a0 a1 a2 a3 a4):=by
 intro a0 a1 a2 a3 a4 k
 obtain ⟨ih0,ih1,ih2⟩:=moraineref09_Victims.mono_l k
 unfold moraineref09_Victims.f
 repeat' first
   | (with_reducible exact ih0 _ _ _ _ _ _ _ _ _)
   | (with_reducible exact ih1 _ _ _ _ _ _ _ _ _ _)
   | (with_reducible exact ih2 _ _ _ _ _ _ _ _ _ _ _)
   | (with_reducible exact moraineref09_among.mono _ _ _)
   | (with_reducible exact LeO.refl _)
   | (with_reducible exact LeO.none _)
   | (with_reducible refine LeO.ite ?_ ?_)
   | (with_reducible refine LeO.bind ?_ (fun _ => ?_))
   | exact ih0 _ _ _ _ _ _ _ _ _
   | exact ih1 _ _ _ _ _ _ _ _ _ _
   | exact ih2 _ _ _ _ _ _ _ _ _ _ _
   | exact moraineref09_among.mono _ _ _
   | exact LeO.none _
   | refine LeO.ite ?_ ?_
   | refine LeO.bind ?_ (fun _ => ?_)
set_option maxHeartbeats 8000000 in
set_option maxRecDepth 100000 in
theorem moraineref09_Victims.calls (k : Nat) (a0_0 : Int) (a0_1 : Int) (a0_2 : Int) (A1 : Option Addr) (c1 : Nat) (l1 : List Int) (A2 : Option Addr) (c2 : Nat) (l2 : List Int) (r : List Int) (w : World) (hr1 : Kd.C (Kd.int .i64) w A1 l1.length l1) (hc1 : l1.length ≤ c1) (hr2 : Kd.C (Kd.int .i64) w A2 l2.length l2) (hc2 : l2.length ≤ c2) (h : moraineref09_Victims.f k a0_0 a0_1 a0_2 l1 l2 = some r) :
  Calls Try.prog 18 #[.agg #[.int .i64 a0_0,.int .i64 a0_1,.int .i64 a0_2],.slice A1 l1.length c1,.slice A2 l2.length c2] w fun e w' => ∃ v0_ : Value,e = .returned (v0_) ∧ Kd.R (Kd.int .i64) 3 w' w.heap.size (fun _ => True) v0_ r ∧ Below w.heap.size w w':=by
 have hu23:=Try.underlying23
 have HR1:=Aside0.mk hr1
 have HC1:=Aside0.mk hc1
 clear hr1 hc1
 have HR2:=Aside0.mk hr2
 have HC2:=Aside0.mk hc2
 clear hr2 hc2
 have HB:=Aside0.mk (Below.refl w.heap.size w)
 have H : ((moraineref03_Right.f a0_0 a0_1 a0_2).bind fun t128 => (if t128 = true then ((moraineref03_Places.f a0_0 a0_1 a0_2).bind fun t129 => (moraineref09_Victims.l0 k l1 l2 t129 (([] : List Int)) 0 1 a0_0 a0_1 a0_2)) else (some ([] : List Int)))) = some r:=h
 clear h
 replace H:=Option.bind_eq_some_iff.mp H
 obtain ⟨t128,A40,H⟩:=H
 replace H : (if t128 = true then ((moraineref03_Places.f a0_0 a0_1 a0_2).bind fun t129 => (moraineref09_Victims.l0 k l1 l2 t129 (([] : List Int)) 0 1 a0_0 a0_1 a0_2)) else (some ([] : List Int))) = some r:=H
 have A4:=Aside0.mk A40
 clear A40
 by_cases c5 : t128 = true
 ·subst c5
  have H1 : ((moraineref03_Places.f a0_0 a0_1 a0_2).bind fun t129 => (moraineref09_Victims.l0 k l1 l2 t129 (([] : List Int)) 0 1 a0_0 a0_1 a0_2)) = some r:=by rw [if_pos rfl] at H;exact H
  clear H
  have H:=H1
  clear H1
  replace H:=Option.bind_eq_some_iff.mp H
  obtain ⟨t129,A60,H⟩:=H
  replace H : (moraineref09_Victims.l0 k l1 l2 t129 (([] : List Int)) 0 1 a0_0 a0_1 a0_2) = some r:=H
  have A6:=Aside0.mk A60
  clear A60
  obtain ⟨y130,hy130⟩ : ∃ y_ : List Int,y_ = (([] : List Int)):=⟨_,rfl⟩
  replace H : (moraineref09_Victims.l0 k l1 l2 t129 y130 0 1 a0_0 a0_1 a0_2) = some r:=by first|(rw [hy130];with_reducible exact H)|(have H2_:=(Option.bind_some _ _).symm.trans H;rw [hy130];with_reducible exact H2_)|(have H2_:=(Option.bind_some _ _).symm.trans H;with_reducible exact H2_)|with_reducible exact H|(rw [hy130];exact H)|exact H
  have Ny130:=Aside0.mk hy130
  clear hy130
  have H':=Aside0.mk H
  clear H
  go_enter Try.func18,Try.ntmps18
  go_wp2_with (first|((with_reducible refine gate_dst (N:=3) rfl ?_);(try (refine gate_guard (by rfl) ?_;dsimp only));refine box_event ?hg (N:=3) ?hd (cs:=#[.int .i64 a0_0,.int .i64 a0_1,.int .i64 a0_2]) (t:=23) ?hr ?_;(case hd => rfl);(case hg => rfl);(case hr => first|(go_simp;done)|(go_simp;rfl));intro gb127 hg w7 hbox hb;have n0_:=Aside0.mk (below_step (by repeat (first|(with_reducible first|exact HB.out|apply below_alloc|apply pw_below_drewN|apply below_drew1)|exact HB.out)) hb);have n1_:=Aside0.mk (hbox);have n2_:=Aside0.mk ((by rw [hg];exact (below_size (by repeat (first|(with_reducible first|exact HB.out|apply below_alloc|apply pw_below_drewN|apply below_drew1)|exact HB.out))) : w.heap.size ≤ gb127));have n3_:=Aside0.mk ((by rw [hg];exact (below_size (by repeat (first|(with_reducible first|exact HB.out|apply below_alloc|apply pw_below_drewN|apply below_drew1)|exact HB.out))) : w.heap.size ≤ gb127));clear HB;have HB:=n0_;have BK127:=n1_;have GW127:=n2_;have GE127:=n3_;clear n0_ n1_ n2_ n3_;clear hb hbox hg;have hcz8_0 : w7.cell? ⟨gb127,0,none⟩ = some (.int .i64 a0_0):=(blk_cell BK127.out 0).trans rfl;have hcz8_1 : w7.cell? ⟨gb127,1,none⟩ = some (.int .i64 a0_1):=(blk_cell BK127.out 1).trans rfl;have hcz8_2 : w7.cell? ⟨gb127,2,none⟩ = some (.int .i64 a0_2):=(blk_cell BK127.out 2).trans rfl;have hfz8_0:=blk_frozen BK127.out 0;have hfz8_1:=blk_frozen BK127.out 1;have hfz8_2:=blk_frozen BK127.out 2)|((with_reducible refine gate_callee (f:=28) rfl ?_);refine goesL_ (some 13) rfl rfl Try.func28 (by kernel_rfl) rfl #[.agg #[.int .i64 a0_0,.int .i64 a0_1,.int .i64 a0_2]] rfl (by (try simp only [List.map_toArray,List.map_cons,List.map_nil]);first|done|rfl|(simp only [List.length_drop,List.length_take];rfl)) ?_;(with_reducible refine (moraineref03_Right.calls a0_0 a0_1 a0_2 true _ A4.out).mono ?_);rintro e w9 ⟨rfl,hb⟩;refine ⟨_,rfl,?_⟩;have n0_:=Aside0.mk (blk_below (g:=gb127) (o:=.cells #[.int .i64 a0_0,.int .i64 a0_1,.int .i64 a0_2] 23 (0,0)) (by (with_reducible repeat (first|refine blk_drewN ?_ _|refine blk_drew ?_|refine blk_alloc ?_ _));exact BK127.out) hb);have n1_:=Aside0.mk (below_step (by repeat (first|(with_reducible first|exact HB.out|apply below_alloc|apply pw_below_drewN|apply below_drew1|refine below_set ?_ GE127.out)|exact HB.out)) hb);clear BK127;clear HB;have BK127:=n0_;have HB:=n1_;clear n0_ n1_;(try clear hb);(try clear hb2);(try clear hk);(try clear hi);have hcz10_0 : w9.cell? ⟨gb127,0,none⟩ = some (.int .i64 a0_0):=(blk_cell BK127.out 0).trans rfl;have hcz10_1 : w9.cell? ⟨gb127,1,none⟩ = some (.int .i64 a0_1):=(blk_cell BK127.out 1).trans rfl;have hcz10_2 : w9.cell? ⟨gb127,2,none⟩ = some (.int .i64 a0_2):=(blk_cell BK127.out 2).trans rfl;have hfz10_0:=blk_frozen BK127.out 0;have hfz10_1:=blk_frozen BK127.out 1;have hfz10_2:=blk_frozen BK127.out 2)|((with_reducible refine gate_callee (f:=29) rfl ?_);refine goesL_ (some 16) rfl rfl Try.func29 (by kernel_rfl) rfl #[.agg #[.int .i64 a0_0,.int .i64 a0_1,.int .i64 a0_2]] rfl (by (try simp only [List.map_toArray,List.map_cons,List.map_nil]);first|done|rfl|(simp only [List.length_drop,List.length_take];rfl)) ?_;(with_reducible refine (moraineref03_Places.calls a0_0 a0_1 a0_2 t129 _ A6.out).mono ?_);rintro e w11 ⟨rfl,hb⟩;refine ⟨_,rfl,?_⟩;have n0_:=Aside0.mk (blk_below (g:=gb127) (o:=.cells #[.int .i64 a0_0,.int .i64 a0_1,.int .i64 a0_2] 23 (0,0)) (by (with_reducible repeat (first|refine blk_drewN ?_ _|refine blk_drew ?_|refine blk_alloc ?_ _));exact BK127.out) hb);have n1_:=Aside0.mk (below_step (by repeat (first|(with_reducible first|exact HB.out|apply below_alloc|apply pw_below_drewN|apply below_drew1|refine below_set ?_ GE127.out)|exact HB.out)) hb);clear BK127;clear HB;have BK127:=n0_;have HB:=n1_;clear n0_ n1_;(try clear hb);(try clear hb2);(try clear hk);(try clear hi))|((with_reducible refine gate_dst (N:=17) rfl ?_);(try (refine gate_guard (by rfl) ?_;dsimp only));refine Kd.R_lit (Kd.int .i64) _ 3 ?hg (N:=17) ?hd (xs:=([] : List Int)) (inner:=[]) (ok:=fun _ => True) (okp:=fun _ => True) ?hr ?hp (fun _ hk => hk) trivial (Below.refl _ _) (Nat.le_refl _) (by simp) ?_;(case hd => rfl);(case hg => rfl);(case hr => first|(go_simp;done)|(go_simp;rfl));(case hp => exact (Reps.none _ _));intro v131 w12 ho13 hb hg_ hnew_;clear hg_ hnew_;(first|rw [← Ny130.out] at ho13|(simp only [Int.reduceToNat] at ho13;rw [← Ny130.out] at ho13));have n0_:=Aside0.mk (Kd.R_lower ho13 (below_size (by repeat (first|(with_reducible first|exact HB.out|apply below_alloc|apply pw_below_drewN|apply below_drew1|refine below_set ?_ GE127.out)|exact HB.out))));have n1_:=Aside0.mk (blk_below (g:=gb127) (o:=.cells #[.int .i64 a0_0,.int .i64 a0_1,.int .i64 a0_2] 23 (0,0)) (by (with_reducible repeat (first|refine blk_drewN ?_ _|refine blk_drew ?_|refine blk_alloc ?_ _));exact BK127.out) hb);have n2_:=Aside0.mk (below_step (by repeat (first|(with_reducible first|exact HB.out|apply below_alloc|apply pw_below_drewN|apply below_drew1|refine below_set ?_ GE127.out)|exact HB.out)) hb);clear BK127;clear HB;have HO132:=n0_;have BK127:=n1_;have HB:=n2_;clear n0_ n1_ n2_;clear hb ho13))
  go_loopg [8,9,10] k (fun kq v8 v9 v10 w' => ∃ (x8_1 : List Int) (x9_1 : Int) (x10_1 : Int),v9 = .int .i64 x9_1 ∧ v10 = .int .i64 x10_1 ∧ Aside0 (moraineref09_Victims.l0 kq l1 l2 t129 x8_1 x9_1 x10_1 a0_0 a0_1 a0_2 = some r) ∧ Aside0 (kq ≤ k) ∧ Aside0 (Kd.R (Kd.int .i64) 3 w' w.heap.size (fun _ => True) v8 x8_1) ∧ Aside0 (w'.heap[gb127]? = some (.cells #[.int .i64 a0_0,.int .i64 a0_1,.int .i64 a0_2] 23 (0,0))) ∧ Aside0 (Below w.heap.size w w'))
  case atStart => exact ⟨(y130),(0),(1),(by first|rfl|(simp;done)|(simp [*];done)),(by first|rfl|(simp;done)|(simp [*];done)),H',⟨Nat.le_refl _⟩,⟨by (with_reducible repeat (first|apply Kd.R_alloc|apply Kd.R_drewN|apply Kd.R_drew));exact HO132.out⟩,⟨by (with_reducible repeat (first|refine blk_drewN ?_ _|refine blk_drew ?_|refine blk_alloc ?_ _));exact BK127.out⟩,⟨by repeat (first|(with_reducible first|exact HB.out|apply below_alloc|apply pw_below_drewN|apply below_drew1|refine below_set ?_ GE127.out)|exact HB.out)⟩⟩
  case round =>
   clear H'
   try clear c1
   try clear c2
   try clear p2
   try clear c5
   try clear hcz10_0
   try clear hcz10_1
   try clear hcz10_2
   try clear hcz8_0
   try clear hcz8_1
   try clear hcz8_2
   try clear hfz10_0
   try clear hfz10_1
   try clear hfz10_2
   try clear hfz8_0
   try clear hfz8_1
   try clear hfz8_2
   obtain ⟨x8_1,x9_1,x10_1,rfl,rfl,HA,HK1,HO_8,BK127,HB⟩:=hrel
   cases gk with
   | zero => exact absurd HA.out (by simp [moraineref09_Victims.l0])
   | succ k1 =>
    have H:=HA.out
    clear HA
    simp only [moraineref09_Victims.l0] at H
    by_cases c14 : x10_1 ≤ t129
    ·rw [if_pos c14] at H
     have c14b0 : decide (x10_1 ≤ t129) = true:=decide_eq_true c14
     clear c14
     have H':=Aside0.mk H
     clear H
     go_wp2
     go_loopg [8,9,11] k1 (fun kq v8 v9 v11 w' => ∃ (x8_2 : List Int) (x9_2 : Int) (x11_2 : Int),v9 = .int .i64 x9_2 ∧ v11 = .int .i64 x11_2 ∧ Aside0 (moraineref09_Victims.l1 kq l1 l2 t129 x8_2 x9_2 x10_1 x11_2 a0_0 a0_1 a0_2 = some r) ∧ Aside0 (kq ≤ k1) ∧ Aside0 (Kd.R (Kd.int .i64) 3 w' w.heap.size (fun _ => True) v8 x8_2) ∧ Aside0 (w'.heap[gb127]? = some (.cells #[.int .i64 a0_0,.int .i64 a0_1,.int .i64 a0_2] 23 (0,0))) ∧ Aside0 (Below w.heap.size w w'))
     case atStart => exact ⟨(x8_1),(x9_1),(0),(by first|rfl|(simp;done)|(simp [*];done)),(by first|rfl|(simp;done)|(simp [*];done)),H',⟨Nat.le_refl _⟩,⟨by (with_reducible repeat (first|apply Kd.R_alloc|apply Kd.R_drewN|apply Kd.R_drew));exact HO_8.out⟩,⟨by (with_reducible repeat (first|refine blk_drewN ?_ _|refine blk_drew ?_|refine blk_alloc ?_ _));exact BK127.out⟩,⟨by repeat (first|(with_reducible first|exact HB.out|apply below_alloc|apply pw_below_drewN|apply below_drew1|refine below_set ?_ GE127.out)|exact HB.out)⟩⟩
     case round =>
      clear H'
      try clear c1
      try clear c2
      try clear p2
      try clear c5
      try clear c14
      try clear c14b0
      try clear hcz10_0
      try clear hcz10_1
      try clear hcz10_2
      try clear hcz8_0
      try clear hcz8_1
      try clear hcz8_2
      try clear hfz10_0
      try clear hfz10_1
      try clear hfz10_2
      try clear hfz8_0
      try clear hfz8_1
      try clear hfz8_2
      try clear p2
      obtain ⟨x8_2,x9_2,x11_2,rfl,rfl,HA,HK2,HO_8,BK127,HB⟩:=hrel
      cases gk with
      | zero => exact absurd HA.out (by simp [moraineref09_Victims.l1])
      | succ k2 =>
       have H:=HA.out
       clear HA
       simp only [moraineref09_Victims.l1] at H
       have HC15:=Aside0.mk H
       clear H
       go_upto_region 10 with (fail)
       go_cut [32] (fun v32 wc => ∃ (kq : Nat) (x32_14 : Bool),v32 = .bool x32_14 ∧ Aside0 (moraineref09_Victims.j2 kq l1 l2 t129 x8_2 x9_2 x10_1 x11_2 x32_14 a0_0 a0_1 a0_2 = some r) ∧ Aside0 (kq ≤ k2) ∧ Aside0 (Kd.R (Kd.int .i64) 3 wc w.heap.size (fun _ => True) u8 x8_2) ∧ Aside0 (wc.heap[gb127]? = some (.cells #[.int .i64 a0_0,.int .i64 a0_1,.int .i64 a0_2] 23 (0,0))) ∧ Aside0 (Below w.heap.size w wc))
       case first =>
        have H:=HC15.out
        clear HC15
        by_cases c16 : x11_2 < a0_2
        ·rw [if_pos c16] at H
         have c16b0 : decide (x11_2 < a0_2) = true:=decide_eq_true c16
         clear c16
         (first|rw [c16b0]|(simp only [i64_w,i32_w];rw [c16b0])|skip)
         have H':=Aside0.mk H
         clear H
         have hcz17_0 : wr.cell? ⟨gb127,0,none⟩ = some (.int .i64 a0_0):=(blk_cell BK127.out 0).trans rfl
         have hcz17_1 : wr.cell? ⟨gb127,1,none⟩ = some (.int .i64 a0_1):=(blk_cell BK127.out 1).trans rfl
         have hcz17_2 : wr.cell? ⟨gb127,2,none⟩ = some (.int .i64 a0_2):=(blk_cell BK127.out 2).trans rfl
         have hfz17_0:=blk_frozen BK127.out 0
         have hfz17_1:=blk_frozen BK127.out 1
         have hfz17_2:=blk_frozen BK127.out 2
         go_wp2
         go_meet
         case rel => exact ⟨_,(decide (x11_2 < (l1.length : Int))),(by first|rfl|(simp;done)|(simp [*];done)),H',⟨by have:=HK1.out;have:=HK2.out;first|omega|exact Nat.le_refl _⟩,⟨by (with_reducible repeat (first|apply Kd.R_alloc|apply Kd.R_drewN|apply Kd.R_drew));exact HO_8.out⟩,⟨by (with_reducible repeat (first|refine blk_drewN ?_ _|refine blk_drew ?_|refine blk_alloc ?_ _));exact BK127.out⟩,⟨by repeat (first|(with_reducible first|exact HB.out|apply below_alloc|apply pw_below_drewN|apply below_drew1|refine below_set ?_ GE127.out)|exact HB.out)⟩⟩
        ·rw [if_neg c16] at H
         have c16b0 : decide (x11_2 < a0_2) = false:=decide_eq_false c16
         clear c16
         (first|rw [c16b0]|(simp only [i64_w,i32_w];rw [c16b0])|skip)
         have H':=Aside0.mk H
         clear H
         have hcz18_0 : wr.cell? ⟨gb127,0,none⟩ = some (.int .i64 a0_0):=(blk_cell BK127.out 0).trans rfl
         have hcz18_1 : wr.cell? ⟨gb127,1,none⟩ = some (.int .i64 a0_1):=(blk_cell BK127.out 1).trans rfl
         have hcz18_2 : wr.cell? ⟨gb127,2,none⟩ = some (.int .i64 a0_2):=(blk_cell BK127.out 2).trans rfl
         have hfz18_0:=blk_frozen BK127.out 0
         have hfz18_1:=blk_frozen BK127.out 1
         have hfz18_2:=blk_frozen BK127.out 2
         go_wp2
         go_meet
         case rel => exact ⟨_,(false),(by first|rfl|(simp;done)|(simp [*];done)),H',⟨by have:=HK1.out;have:=HK2.out;first|omega|exact Nat.le_refl _⟩,⟨by (with_reducible repeat (first|apply Kd.R_alloc|apply Kd.R_drewN|apply Kd.R_drew));exact HO_8.out⟩,⟨by (with_reducible repeat (first|refine blk_drewN ?_ _|refine blk_drew ?_|refine blk_alloc ?_ _));exact BK127.out⟩,⟨by repeat (first|(with_reducible first|exact HB.out|apply below_alloc|apply pw_below_drewN|apply below_drew1|refine below_set ?_ GE127.out)|exact HB.out)⟩⟩
       case rest =>
        clear HC15
        try clear c1
        try clear c2
        try clear p2
        try clear c5
        try clear c14
        try clear c14b0
        try clear c16
        try clear c16b0
        try clear c18
        try clear hcz10_0
        try clear hcz10_1
        try clear hcz10_2
        try clear hcz17_0
        try clear hcz17_1
        try clear hcz17_2
        try clear hcz18_0
        try clear hcz18_1
        try clear hcz18_2
        try clear hcz8_0
        try clear hcz8_1
        try clear hcz8_2
        try clear hfz10_0
        try clear hfz10_1
        try clear hfz10_2
        try clear hfz17_0
        try clear hfz17_1
        try clear hfz17_2
        try clear hfz18_0
        try clear hfz18_1
        try clear hfz18_2
        try clear hfz8_0
        try clear hfz8_1
        try clear hfz8_2
        try clear p2
        obtain ⟨kq,x32_14,rfl,HA,HJ14,HO_8,BK127,HB⟩:=hcut
        cases kq with
        | zero => exact absurd HA.out (by simp [moraineref09_Victims.j2])
        | succ kj14 =>
         have H:=HA.out
         clear HA
         simp only [moraineref09_Victims.j2] at H
         by_cases c19 : x32_14 = true
         ·subst c19
          have H1 : (if 0 ≤ x11_2 then (if x11_2 < (l1.length : Int) then (if (rd l1 x11_2) = x10_1 then ((moraineref09_among.f kj14 l2 x11_2).bind fun t134 => (if t134 = true then (moraineref09_Victims.l1 kj14 l1 l2 t129 x8_2 x9_2 x10_1 (wrap64 (x11_2 + 1)) a0_0 a0_1 a0_2) else (if (wrap64 (x9_2 + x10_1)) ≤ t129 then (if x8_2.length < 17592186044416 then (moraineref09_Victims.l1 kj14 l1 l2 t129 (x8_2 ++ [x11_2]) (wrap64 (x9_2 + x10_1)) x10_1 (wrap64 (x11_2 + 1)) a0_0 a0_1 a0_2) else (none)) else (moraineref09_Victims.l1 kj14 l1 l2 t129 x8_2 x9_2 x10_1 (wrap64 (x11_2 + 1)) a0_0 a0_1 a0_2)))) else (moraineref09_Victims.l1 kj14 l1 l2 t129 x8_2 x9_2 x10_1 (wrap64 (x11_2 + 1)) a0_0 a0_1 a0_2)) else (none)) else (none)) = some r:=by rw [if_pos rfl] at H;exact H
          clear H
          have H:=H1
          clear H1
          by_cases c20 : 0 ≤ x11_2
          ·rw [if_pos c20] at H
           have c20b0 : decide (0 ≤ x11_2) = true:=decide_eq_true c20
           clear c20
           by_cases c21 : x11_2 < (l1.length : Int)
           ·rw [if_pos c21] at H
            have c21b0 : decide (x11_2 < (l1.length : Int)) = true:=decide_eq_true c21
            clear c21
            by_cases c22 : (rd l1 x11_2) = x10_1
            ·rw [if_pos c22] at H
             have c22b0 : ((rd l1 x11_2) == x10_1) = true:=beq_iff_eq.mpr c22
             have c22b1 : ((rd l1 x11_2) != x10_1) = false:=bne_eq_false_iff_eq.mpr c22
             clear c22
             replace H:=Option.bind_eq_some_iff.mp H
             obtain ⟨t134,A230,H⟩:=H
             replace H : (if t134 = true then (moraineref09_Victims.l1 kj14 l1 l2 t129 x8_2 x9_2 x10_1 (wrap64 (x11_2 + 1)) a0_0 a0_1 a0_2) else (if (wrap64 (x9_2 + x10_1)) ≤ t129 then (if x8_2.length < 17592186044416 then (moraineref09_Victims.l1 kj14 l1 l2 t129 (x8_2 ++ [x11_2]) (wrap64 (x9_2 + x10_1)) x10_1 (wrap64 (x11_2 + 1)) a0_0 a0_1 a0_2) else (none)) else (moraineref09_Victims.l1 kj14 l1 l2 t129 x8_2 x9_2 x10_1 (wrap64 (x11_2 + 1)) a0_0 a0_1 a0_2))) = some r:=H
             have A23:=Aside0.mk A230
             clear A230
             by_cases c24 : t134 = true
             ·subst c24
              have H1 : (moraineref09_Victims.l1 kj14 l1 l2 t129 x8_2 x9_2 x10_1 (wrap64 (x11_2 + 1)) a0_0 a0_1 a0_2) = some r:=by rw [if_pos rfl] at H;exact H
              clear H
              have H:=H1
              clear H1
              have H':=Aside0.mk H
              clear H
              have p133 : 0 ≤ (x11_2 : Int):=of_decide_eq_true (by first|(with_reducible assumption)|assumption)
              have q133 : x11_2 < (l1.length : Int):=of_decide_eq_true (by first|(with_reducible assumption)|assumption)
              obtain ⟨ad133,e133,hx133_0⟩:=Kd.at_int HR1.out x11_2 p133 q133
              cases e133
              replace hx133_0:=(HB.out.cell (World.block_lt_of_cell? w _ hx133_0)).trans hx133_0
              replace p133:=eq_true p133
              replace q133:=eq_true q133
              go_wp2_with (first|(go_at_call 31;(with_reducible refine (moraineref09_among.calls kj14 _ _ l2 x11_2 true _ ?side1 ?side2 A23.out).mono ?_);(case side1 => repeat (first|exact (Kd.C_below HR2.out HB.out)|(with_reducible refine Kd.C_alloc ?_ _)|(with_reducible refine Kd.C_drewN ?_ _)|(with_reducible refine Kd.C_drew ?_)));(case side2 => exact HC2.out);rintro e w' ⟨rfl,⟨nd,rfl⟩⟩))
              go_roundg kj14
              case measure => have:=HK1.out;have:=HK2.out;have:=HJ14.out;omega
              case rel => exact ⟨(x8_2),(x9_2),(wrap64 (x11_2 + 1)),(by first|rfl|(simp;done)|(simp [*];done)),(by first|rfl|(simp;done)|(simp [*];done)),H',⟨by have:=HK1.out;have:=HK2.out;have:=HJ14.out;omega⟩,⟨by (with_reducible repeat (first|apply Kd.R_alloc|apply Kd.R_drewN|apply Kd.R_drew));exact HO_8.out⟩,⟨by (with_reducible repeat (first|refine blk_drewN ?_ _|refine blk_drew ?_|refine blk_alloc ?_ _));exact BK127.out⟩,⟨by repeat (first|(with_reducible first|exact HB.out|apply below_alloc|apply pw_below_drewN|apply below_drew1|refine below_set ?_ GE127.out)|exact HB.out)⟩⟩
             ·replace c24:=Bool.eq_false_iff.mpr c24
              subst c24
              have H1 : (if (wrap64 (x9_2 + x10_1)) ≤ t129 then (if x8_2.length < 17592186044416 then (moraineref09_Victims.l1 kj14 l1 l2 t129 (x8_2 ++ [x11_2]) (wrap64 (x9_2 + x10_1)) x10_1 (wrap64 (x11_2 + 1)) a0_0 a0_1 a0_2) else (none)) else (moraineref09_Victims.l1 kj14 l1 l2 t129 x8_2 x9_2 x10_1 (wrap64 (x11_2 + 1)) a0_0 a0_1 a0_2)) = some r:=by rw [if_neg (show ¬ (false = true) by decide)] at H;exact H
              clear H
              have H:=H1
              clear H1
              by_cases c25 : (wrap64 (x9_2 + x10_1)) ≤ t129
              ·rw [if_pos c25] at H
               have c25b0 : decide ((wrap64 (x9_2 + x10_1)) ≤ t129) = true:=decide_eq_true c25
               clear c25
               by_cases c26 : x8_2.length < 17592186044416
               ·rw [if_pos c26] at H
                have LMc26:=Aside0.mk c26
                clear c26
                obtain ⟨y135,hy135⟩ : ∃ y_ : List Int,y_ = (x8_2 ++ [x11_2]):=⟨_,rfl⟩
                replace H : (moraineref09_Victims.l1 kj14 l1 l2 t129 y135 (wrap64 (x9_2 + x10_1)) x10_1 (wrap64 (x11_2 + 1)) a0_0 a0_1 a0_2) = some r:=by first|(rw [hy135];with_reducible exact H)|(have H2_:=(Option.bind_some _ _).symm.trans H;rw [hy135];with_reducible exact H2_)|(have H2_:=(Option.bind_some _ _).symm.trans H;with_reducible exact H2_)|with_reducible exact H|(rw [hy135];exact H)|exact H
                have Ny135:=Aside0.mk hy135
                clear hy135
                have H':=Aside0.mk H
                clear H
                have p133 : 0 ≤ (x11_2 : Int):=of_decide_eq_true (by first|(with_reducible assumption)|assumption)
                have q133 : x11_2 < (l1.length : Int):=of_decide_eq_true (by first|(with_reducible assumption)|assumption)
                obtain ⟨ad133,e133,hx133_0⟩:=Kd.at_int HR1.out x11_2 p133 q133
                cases e133
                replace hx133_0:=(HB.out.cell (World.block_lt_of_cell? w _ hx133_0)).trans hx133_0
                replace p133:=eq_true p133
                replace q133:=eq_true q133
                go_wp2_with (first|(go_at_call 31;(with_reducible refine (moraineref09_among.calls kj14 _ _ l2 x11_2 false _ ?side1 ?side2 A23.out).mono ?_);(case side1 => repeat (first|exact (Kd.C_below HR2.out HB.out)|(with_reducible refine Kd.C_alloc ?_ _)|(with_reducible refine Kd.C_drewN ?_ _)|(with_reducible refine Kd.C_drew ?_)));(case side2 => exact HC2.out);rintro e w' ⟨rfl,⟨nd,rfl⟩⟩)|((with_reducible refine gate_builtin (b:=.append) (xs:=#[.tmp 54,.tmp 56]) rfl ?_);(try (refine gate_guard (by rfl) ?_;dsimp only));at_builtin;refine Kd.R_append (Kd.int .i64) (w0:=w) w.heap.size rfl (.tmp 54) (.tmp 56) 24 3 (.int .i64 0) 8 rfl Try.underlying24 info3 rfl (by decide) (by omega) u8 x8_2 x11_2 [.int .i64 x11_2] (fun _ => True) (fun _ => False) rfl rfl ?aP (fun _ hk => hk.elim) ?aF ?aO ?aB ?aS ?aL ?_;(case aP => exact rfl);(case aB => exact (by repeat (first|(with_reducible first|exact HB.out|apply below_alloc|apply pw_below_drewN|apply below_drew1|refine below_set ?_ GE127.out)|exact HB.out)));(case aF => exact (fun _ _ => trivial));(case aO => exact (by (with_reducible repeat (first|apply Kd.R_alloc|apply Kd.R_drewN|apply Kd.R_drew));exact HO_8.out));(case aS => exact (below_size (by repeat (first|(with_reducible first|exact HB.out|apply below_alloc|apply pw_below_drewN|apply below_drew1|refine below_set ?_ GE127.out)|exact HB.out))));(case aL => have:=LMc26.out;omega);intro v136 w27 ho hb hg hat;rw [← Ny135.out] at ho;have n0_:=Aside0.mk (blk_grown (g:=gb127) (o:=.cells #[.int .i64 a0_0,.int .i64 a0_1,.int .i64 a0_2] 23 (0,0)) (by (with_reducible repeat (first|refine blk_drewN ?_ _|refine blk_drew ?_|refine blk_alloc ?_ _));exact BK127.out) hg (Kd.R_ne HO_8.out BK127.out (by decide)));have n1_:=Aside0.mk (hb);have n2_:=Aside0.mk (ho);clear BK127;clear HB;clear HO_8;have BK127:=n0_;have HB:=n1_;have HO137:=n2_;clear n0_ n1_ n2_;clear ho hb hg hat))
                go_roundg kj14
                case measure => have:=HK1.out;have:=HK2.out;have:=HJ14.out;omega
                case rel => exact ⟨(y135),(wrap64 (x9_2 + x10_1)),(wrap64 (x11_2 + 1)),(by first|rfl|(simp;done)|(simp [*];done)),(by first|rfl|(simp;done)|(simp [*];done)),H',⟨by have:=HK1.out;have:=HK2.out;have:=HJ14.out;omega⟩,⟨by (with_reducible repeat (first|apply Kd.R_alloc|apply Kd.R_drewN|apply Kd.R_drew));exact HO137.out⟩,⟨by (with_reducible repeat (first|refine blk_drewN ?_ _|refine blk_drew ?_|refine blk_alloc ?_ _));exact BK127.out⟩,⟨by repeat (first|(with_reducible first|exact HB.out|apply below_alloc|apply pw_below_drewN|apply below_drew1|refine below_set ?_ GE127.out)|exact HB.out)⟩⟩
               ·rw [if_neg c26] at H
                exact absurd H (by simp)
              ·rw [if_neg c25] at H
               have c25b0 : decide ((wrap64 (x9_2 + x10_1)) ≤ t129) = false:=decide_eq_false c25
               clear c25
               have H':=Aside0.mk H
               clear H
               have p133 : 0 ≤ (x11_2 : Int):=of_decide_eq_true (by first|(with_reducible assumption)|assumption)
               have q133 : x11_2 < (l1.length : Int):=of_decide_eq_true (by first|(with_reducible assumption)|assumption)
               obtain ⟨ad133,e133,hx133_0⟩:=Kd.at_int HR1.out x11_2 p133 q133
               cases e133
               replace hx133_0:=(HB.out.cell (World.block_lt_of_cell? w _ hx133_0)).trans hx133_0
               replace p133:=eq_true p133
               replace q133:=eq_true q133
               go_wp2_with (first|(go_at_call 31;(with_reducible refine (moraineref09_among.calls kj14 _ _ l2 x11_2 false _ ?side1 ?side2 A23.out).mono ?_);(case side1 => repeat (first|exact (Kd.C_below HR2.out HB.out)|(with_reducible refine Kd.C_alloc ?_ _)|(with_reducible refine Kd.C_drewN ?_ _)|(with_reducible refine Kd.C_drew ?_)));(case side2 => exact HC2.out);rintro e w' ⟨rfl,⟨nd,rfl⟩⟩))
               go_roundg kj14
               case measure => have:=HK1.out;have:=HK2.out;have:=HJ14.out;omega
               case rel => exact ⟨(x8_2),(x9_2),(wrap64 (x11_2 + 1)),(by first|rfl|(simp;done)|(simp [*];done)),(by first|rfl|(simp;done)|(simp [*];done)),H',⟨by have:=HK1.out;have:=HK2.out;have:=HJ14.out;omega⟩,⟨by (with_reducible repeat (first|apply Kd.R_alloc|apply Kd.R_drewN|apply Kd.R_drew));exact HO_8.out⟩,⟨by (with_reducible repeat (first|refine blk_drewN ?_ _|refine blk_drew ?_|refine blk_alloc ?_ _));exact BK127.out⟩,⟨by repeat (first|(with_reducible first|exact HB.out|apply below_alloc|apply pw_below_drewN|apply below_drew1|refine below_set ?_ GE127.out)|exact HB.out)⟩⟩
            ·rw [if_neg c22] at H
             have c22b0 : ((rd l1 x11_2) == x10_1) = false:=beq_eq_false_iff_ne.mpr c22
             have c22b1 : ((rd l1 x11_2) != x10_1) = true:=bne_iff_ne.mpr c22
             have H':=Aside0.mk H
             clear H
             have p133 : 0 ≤ (x11_2 : Int):=of_decide_eq_true (by first|(with_reducible assumption)|assumption)
             have q133 : x11_2 < (l1.length : Int):=of_decide_eq_true (by first|(with_reducible assumption)|assumption)
             obtain ⟨ad133,e133,hx133_0⟩:=Kd.at_int HR1.out x11_2 p133 q133
             cases e133
             replace hx133_0:=(HB.out.cell (World.block_lt_of_cell? w _ hx133_0)).trans hx133_0
             replace p133:=eq_true p133
             replace q133:=eq_true q133
             go_wp2
             go_roundg kj14
             case measure => have:=HK1.out;have:=HK2.out;have:=HJ14.out;omega
             case rel => exact ⟨(x8_2),(x9_2),(wrap64 (x11_2 + 1)),(by first|rfl|(simp;done)|(simp [*];done)),(by first|rfl|(simp;done)|(simp [*];done)),H',⟨by have:=HK1.out;have:=HK2.out;have:=HJ14.out;omega⟩,⟨by (with_reducible repeat (first|apply Kd.R_alloc|apply Kd.R_drewN|apply Kd.R_drew));exact HO_8.out⟩,⟨by (with_reducible repeat (first|refine blk_drewN ?_ _|refine blk_drew ?_|refine blk_alloc ?_ _));exact BK127.out⟩,⟨by repeat (first|(with_reducible first|exact HB.out|apply below_alloc|apply pw_below_drewN|apply below_drew1|refine below_set ?_ GE127.out)|exact HB.out)⟩⟩
           ·rw [if_neg c21] at H
            exact absurd H (by simp)
          ·rw [if_neg c20] at H
           exact absurd H (by simp)
         ·replace c19:=Bool.eq_false_iff.mpr c19
          subst c19
          have H1 : (moraineref09_Victims.l0 kj14 l1 l2 t129 x8_2 x9_2 (wrap64 (x10_1 + 1)) a0_0 a0_1 a0_2) = some r:=by rw [if_neg (show ¬ (false = true) by decide)] at H;exact H
          clear H
          have H:=H1
          clear H1
          have H':=Aside0.mk H
          clear H
          go_wp2
          go_roundg kj14
          case measure => have:=HK1.out;have:=HK2.out;have:=HJ14.out;omega
          case rel => exact ⟨(x8_2),(x9_2),(wrap64 (x10_1 + 1)),(by first|rfl|(simp;done)|(simp [*];done)),(by first|rfl|(simp;done)|(simp [*];done)),H',⟨by have:=HK1.out;have:=HK2.out;have:=HJ14.out;omega⟩,⟨by (with_reducible repeat (first|apply Kd.R_alloc|apply Kd.R_drewN|apply Kd.R_drew));exact HO_8.out⟩,⟨by (with_reducible repeat (first|refine blk_drewN ?_ _|refine blk_drew ?_|refine blk_alloc ?_ _));exact BK127.out⟩,⟨by repeat (first|(with_reducible first|exact HB.out|apply below_alloc|apply pw_below_drewN|apply below_drew1|refine below_set ?_ GE127.out)|exact HB.out)⟩⟩
    ·rw [if_neg c14] at H
     have c14b0 : decide (x10_1 ≤ t129) = false:=decide_eq_false c14
     clear c14
     by_cases c28 : (x8_1.length : Int) < 2
     ·rw [if_pos c28] at H
      have c28b0 : decide ((x8_1.length : Int) < 2) = true:=decide_eq_true c28
      have c28b1 : decide (x8_1.length < 2) = true:=decide_eq_true (by omega)
      clear c28
      obtain rfl:=Option.some.inj H
      obtain ⟨Ao29,co29,eo29⟩:=Kd.R_slice HO_8.out
      subst eo29
      go_wp2
      go_ret
      exact ⟨_,by first|rfl|(simp [errW_none,errW_some] <;> rfl)|(simp [*,errW_none,errW_some] <;> rfl),by first|exact Kd.R_nil _ _ _ _ _|exact Kd.N_nil _ _ _ _ _|exact Kd.V_nil _ _ _ _ _|exact Kd.Q_nil _ _ _ _ _|exact Kd.S_nil _ _ _ _ _,by repeat (first|(with_reducible first|exact HB.out|apply below_alloc|apply pw_below_drewN|apply below_drew1|refine below_set ?_ GE127.out)|exact HB.out)⟩
     ·rw [if_neg c28] at H
      have c28b0 : decide ((x8_1.length : Int) < 2) = false:=decide_eq_false c28
      have c28b1 : decide (x8_1.length < 2) = false:=decide_eq_false (by omega)
      clear c28
      obtain rfl:=Option.some.inj H
      obtain ⟨Ao30,co30,eo30⟩:=Kd.R_slice HO_8.out
      subst eo30
      go_wp2
      go_ret
      exact ⟨_,by first|rfl|(simp [errW_none,errW_some] <;> rfl)|(simp [*,errW_none,errW_some] <;> rfl),by (with_reducible repeat (first|apply Kd.R_alloc|apply Kd.R_drewN|apply Kd.R_drew));exact HO_8.out,by repeat (first|(with_reducible first|exact HB.out|apply below_alloc|apply pw_below_drewN|apply below_drew1|refine below_set ?_ GE127.out)|exact HB.out)⟩
 ·replace c5:=Bool.eq_false_iff.mpr c5
  subst c5
  have H1 : (some ([] : List Int)) = some r:=by rw [if_neg (show ¬ (false = true) by decide)] at H;exact H
  clear H
  have H:=H1
  clear H1
  obtain rfl:=Option.some.inj H
  go_enter Try.func18,Try.ntmps18
  go_wp2_with (first|((with_reducible refine gate_dst (N:=3) rfl ?_);(try (refine gate_guard (by rfl) ?_;dsimp only));refine box_event ?hg (N:=3) ?hd (cs:=#[.int .i64 a0_0,.int .i64 a0_1,.int .i64 a0_2]) (t:=23) ?hr ?_;(case hd => rfl);(case hg => rfl);(case hr => first|(go_simp;done)|(go_simp;rfl));intro gb127 hg w31 hbox hb;have n0_:=Aside0.mk (below_step (by repeat (first|(with_reducible first|exact HB.out|apply below_alloc|apply pw_below_drewN|apply below_drew1)|exact HB.out)) hb);have n1_:=Aside0.mk (hbox);have n2_:=Aside0.mk ((by rw [hg];exact (below_size (by repeat (first|(with_reducible first|exact HB.out|apply below_alloc|apply pw_below_drewN|apply below_drew1)|exact HB.out))) : w.heap.size ≤ gb127));have n3_:=Aside0.mk ((by rw [hg];exact (below_size (by repeat (first|(with_reducible first|exact HB.out|apply below_alloc|apply pw_below_drewN|apply below_drew1)|exact HB.out))) : w.heap.size ≤ gb127));clear HB;have HB:=n0_;have BK127:=n1_;have GW127:=n2_;have GE127:=n3_;clear n0_ n1_ n2_ n3_;clear hb hbox hg;have hcz32_0 : w31.cell? ⟨gb127,0,none⟩ = some (.int .i64 a0_0):=(blk_cell BK127.out 0).trans rfl;have hcz32_1 : w31.cell? ⟨gb127,1,none⟩ = some (.int .i64 a0_1):=(blk_cell BK127.out 1).trans rfl;have hcz32_2 : w31.cell? ⟨gb127,2,none⟩ = some (.int .i64 a0_2):=(blk_cell BK127.out 2).trans rfl;have hfz32_0:=blk_frozen BK127.out 0;have hfz32_1:=blk_frozen BK127.out 1;have hfz32_2:=blk_frozen BK127.out 2)|((with_reducible refine gate_callee (f:=28) rfl ?_);refine goesL_ (some 13) rfl rfl Try.func28 (by kernel_rfl) rfl #[.agg #[.int .i64 a0_0,.int .i64 a0_1,.int .i64 a0_2]] rfl (by (try simp only [List.map_toArray,List.map_cons,List.map_nil]);first|done|rfl|(simp only [List.length_drop,List.length_take];rfl)) ?_;(with_reducible refine (moraineref03_Right.calls a0_0 a0_1 a0_2 false _ A4.out).mono ?_);rintro e w33 ⟨rfl,hb⟩;refine ⟨_,rfl,?_⟩;have n0_:=Aside0.mk (blk_below (g:=gb127) (o:=.cells #[.int .i64 a0_0,.int .i64 a0_1,.int .i64 a0_2] 23 (0,0)) (by (with_reducible repeat (first|refine blk_drewN ?_ _|refine blk_drew ?_|refine blk_alloc ?_ _));exact BK127.out) hb);have n1_:=Aside0.mk (below_step (by repeat (first|(with_reducible first|exact HB.out|apply below_alloc|apply pw_below_drewN|apply below_drew1|refine below_set ?_ GE127.out)|exact HB.out)) hb);clear BK127;clear HB;have BK127:=n0_;have HB:=n1_;clear n0_ n1_;(try clear hb);(try clear hb2);(try clear hk);(try clear hi)))
  go_ret
  exact ⟨_,by first|rfl|(simp [errW_none,errW_some] <;> rfl)|(simp [*,errW_none,errW_some] <;> rfl),by first|exact Kd.R_nil _ _ _ _ _|exact Kd.N_nil _ _ _ _ _|exact Kd.V_nil _ _ _ _ _|exact Kd.Q_nil _ _ _ _ _|exact Kd.S_nil _ _ _ _ _,by repeat (first|(with_reducible first|exact HB.out|apply below_alloc|apply pw_below_drewN|apply below_drew1|refine below_set ?_ GE127.out)|exact HB.out)⟩

end Go.Proofs.Ytogdnolkheifcaa.Base2x
