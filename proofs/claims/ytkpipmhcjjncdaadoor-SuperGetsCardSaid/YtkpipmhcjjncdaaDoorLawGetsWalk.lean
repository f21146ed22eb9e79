/- The walk of SuperGets, over its callees' contracts: by hand. -/
import Derived.Test.YtkpipmhcjjncdaaDoorQSuperGetsx
import Derived.Test.YtkpipmhcjjncdaaDoorPureSuperGets
import Derived.Deep.RegionHeld3
import Derived.Outline
import Derived.Lib.Hide
namespace Go.Proofs.YtkpipmhcjjncdaaDoor.GetsWalk
open Go.RowKit Go.Proofs.YtkpipmhcjjncdaaDoor.PSuperGets Go.Proofs.YtkpipmhcjjncdaaDoorW.PrintWords Go.Proofs.YtkpipmhcjjncdaaDoorW.PrintLast Go.Proofs.YtkpipmhcjjncdaaDoorW.PrintMore
set_option linter.unusedVariables false
set_option linter.unusedSimpArgs false

theorem eqA23 (d : Nat) (w : World) (x0 y0 : Int) :
    (Op.equalIn (d + 2) 23 (.agg #[.int .i64 x0]) (.agg #[.int .i64 y0])).run Tryd.prog w = .ok (x0 == y0) w := by
  refine eqA_of Tryd.underlying23 (by kernel_rfl) ?_
  exact eqf_last (by rfl) (by go_simp; rfl) (by go_simp; rfl) (by go_simp)
theorem eqA25 (d : Nat) (w : World) (x0 y0 : Int) (x1 y1 : Int) (x2 y2 : Int) :
    (Op.equalIn (d + 2) 25 (.agg #[.int .i64 x0, .int .i64 x1, .int .i64 x2]) (.agg #[.int .i64 y0, .int .i64 y1, .int .i64 y2])).run Tryd.prog w = .ok (x0 == y0 && (x1 == y1 && (x2 == y2))) w := by
  refine eqA_of Tryd.underlying25 (by kernel_rfl) ?_
  refine eqf_cons (by rfl) (by go_simp; rfl) (by go_simp; rfl) (by go_simp) ?_
  refine eqf_cons (by rfl) (by go_simp; rfl) (by go_simp; rfl) (by go_simp) ?_
  exact eqf_last (by rfl) (by go_simp; rfl) (by go_simp; rfl) (by go_simp)
theorem eqA40 (d : Nat) (w : World) (x0 y0 : Int) (x1 y1 : Int) (x2 y2 : Int) :
    (Op.equalIn (d + 3) 40 (.agg #[.int .i64 x0, .int .i64 x1, .int .i64 x2]) (.agg #[.int .i64 y0, .int .i64 y1, .int .i64 y2])).run Tryd.prog w = .ok (x0 == y0 && (x1 == y1 && (x2 == y2))) w := by
  have hin : (Op.equalIn (d + 2) 38 (.agg #[.int .i64 x0, .int .i64 x1, .int .i64 x2]) (.agg #[.int .i64 y0, .int .i64 y1, .int .i64 y2])).run Tryd.prog w = .ok (x0 == y0 && (x1 == y1 && (x2 == y2))) w := by
    refine eqA_of Tryd.underlying38 (by kernel_rfl) ?_
    refine eqf_cons (by rfl) (by go_simp; rfl) (by go_simp; rfl) (by go_simp) ?_
    refine eqf_cons (by rfl) (by go_simp; rfl) (by go_simp; rfl) (by go_simp) ?_
    exact eqf_last (by rfl) (by go_simp; rfl) (by go_simp; rfl) (by go_simp)
  refine eqA_of Tryd.underlying40 (by kernel_rfl) ?_
  exact eqf_last (by rfl) (by go_simp) (by go_simp) hin
attribute [local go_sem high] eqA23 eqA25 eqA40
theorem keepC {w w1 : World} {p : Addr} {v : Value} (h : w.cell? p = some v) (hb : Below w.heap.size w w1) : w1.cell? p = some v := pw_cell_below hb h
theorem keepO {w : World} {p : Addr} {v : Value} (h : w.cell? p = some v) (o : Obj) : (w.alloc o).cell? p = some v := by
  rw [World.cell?_alloc_lt _ _ _ (World.block_lt_of_cell? w p h)]; exact h
theorem keepA {w w1 : World} {o : Obj} {p : Addr} {v : Value} (h : w.cell? p = some v) (hb : Below (w.alloc o).heap.size (w.alloc o) w1) : w1.cell? p = some v := pw_cell_below hb (keepO h o)
theorem keepN {w w1 : World} {cs : Array Value} {t : TypeId} {i : Nat} {v : Value} (h : cs[i]? = some v) (hb : Below (w.alloc (.cells cs t)).heap.size (w.alloc (.cells cs t)) w1) : w1.cell? ⟨w.heap.size, i, none⟩ = some v :=
  pw_cell_below hb ((blk_cell (blk_new w _) i).trans h)
theorem belA {w0 w w1 : World} {o : Obj} (h : Below w0.heap.size w0 w) (hb : Below (w.alloc o).heap.size (w.alloc o) w1) : Below w0.heap.size w0 w1 := below_then (below_alloc h o) (below_alloc h o).size hb
theorem belC {w0 w w1 : World} (h : Below w0.heap.size w0 w) (hb : Below w.heap.size w w1) : Below w0.heap.size w0 w1 := below_then h h.size hb

set_option maxHeartbeats 1000000 in
theorem long (K : Nat) (A : Option Addr) (c : Nat) (l : List Int) (w : World) (hl : 2000 < l.length) (h9 : morainelaw05_alive.f K = some true) :
    Calls Tryd.prog 4 #[.slice A l.length c] w fun e w' => e = .returned (.bool true) ∧ Below w.heap.size w w' := by
  have H9 := Lib.hid h9
  clear h9
  obtain ⟨m, hm⟩ : ∃ m, l.length = m := ⟨_, rfl⟩
  rw [hm] at hl ⊢
  clear hm
  go_enter Tryd.func4, Tryd.ntmps4
  go_wp2_with fail
  refine (morainelaw05_alive.calls K true _ H9.out).mono ?_
  rintro e w1 ⟨rfl, hb⟩
  have B1 := Lib.hid hb
  clear hb
  go_wp2
  go_ret
  exact ⟨rfl, B1.out⟩
set_option maxHeartbeats 2000000 in
theorem walk (K : Nat) (A : Option Addr) (c : Nat) (l : List Int) (s1 s2 s3 m1 e1 e2 e3 : Int) (s4 m2 e4 : Bool) (w : World) (hr : Kd.C (Kd.int .u8) w A l.length l) (hc : l.length ≤ c) (hl : ¬ 2000 < l.length)
    (h1 : super_GetSuper.f K l = some (s1, s2, s3, s4)) (h2 : moraineref05_GetSuper.f K l = some (s1, s2, s3, s4)) (h3 : super_GetMark.f K l = some (m1, m2)) (h4 : moraineref05_GetMark.f K l = some (m1, m2))
    (h5 : super_GetMember.f K l = some (e1, e2, e3, e4)) (h6 : moraineref05_GetMember.f K l = some (e1, e2, e3, e4)) (h7 : moraineref00_CopyBytes.f l = some l) (h8 : moraineref00_SameBytes.f K l l = some true) (h9 : morainelaw05_alive.f K = some true) :
    Calls Tryd.prog 4 #[.slice A l.length c] w fun e w' => e = .returned (.bool true) ∧ Below w.heap.size w w' := by
  have H1 := Lib.hid h1; have H2 := Lib.hid h2; have H3 := Lib.hid h3; have H4 := Lib.hid h4; have H5 := Lib.hid h5; have H6 := Lib.hid h6; have H7 := Lib.hid h7; have H8 := Lib.hid h8; have H9 := Lib.hid h9
  have HC := Lib.hid hr
  have HM := Lib.hid hc
  clear h1 h2 h3 h4 h5 h6 h7 h8 h9 hr hc
  obtain ⟨m, hm⟩ : ∃ m, l.length = m := ⟨_, rfl⟩
  have HL := Lib.hid hm
  rw [hm] at hl ⊢
  clear hm
  go_enter Tryd.func4, Tryd.ntmps4
  go_wp2_with fail
  refine (morainelaw05_alive.calls K true _ H9.out).mono ?_
  rintro e w1 ⟨rfl, hb⟩
  have B1 := Lib.hid hb
  clear hb
  go_wp2_with fail
  rw [← HL.out]
  refine (moraineref00_CopyBytes.calls A c l l _ (Kd.C_below HC.out B1.out) HM.out H7.out).mono ?_
  rintro e w2 ⟨v0, rfl, hR, hb⟩
  obtain ⟨Ao, co, rfl⟩ := Kd.R_slice hR
  have B2 := Lib.hid (belC B1.out hb)
  have D2 := Lib.hid (Kd.R_reads' hR).2.2
  have DM := Lib.hid (Kd.R_reads' hR).2.1
  rw [HL.out]
  clear hb hR B1
  go_wp2_with fail
  rw [← HL.out]
  refine (super_GetSuper.calls K Ao co l s1 s2 s3 s4 _ D2.out DM.out H1.out).mono ?_
  rintro e w3 ⟨rfl, hb⟩
  have B3 := Lib.hid (belC B2.out hb)
  have E3 := Lib.hid hb
  rw [HL.out]
  clear hb B2
  go_wp2_with fail
  rw [← HL.out]
  refine (moraineref05_GetSuper.calls K A c l s1 s2 s3 s4 _ (Kd.C_below HC.out (below_alloc B3.out _)) HM.out H2.out).mono ?_
  rintro e w4 ⟨rfl, hb⟩
  have B4 := Lib.hid (belA B3.out hb)
  have E4 := Lib.hid (belA E3.out hb)
  have a0 := keepN (i := 0) (v := .int .i64 s1) rfl hb
  have a1 := keepN (i := 1) (v := .int .i64 s2) rfl hb
  have a2 := keepN (i := 2) (v := .int .i64 s3) rfl hb
  rw [HL.out]
  clear hb B3 E3
  go_wp2_with fail
  rw [← HL.out]
  refine (super_GetMark.calls K Ao co l m1 m2 _ (Kd.C_below D2.out (below_alloc E4.out _)) DM.out H3.out).mono ?_
  rintro e w5 ⟨rfl, hb⟩
  have B5 := Lib.hid (belA B4.out hb)
  have E5 := Lib.hid (belA E4.out hb)
  replace a0 := keepA a0 hb
  replace a1 := keepA a1 hb
  replace a2 := keepA a2 hb
  have b0 := keepN (i := 0) (v := .int .i64 s1) rfl hb
  have b1 := keepN (i := 1) (v := .int .i64 s2) rfl hb
  have b2 := keepN (i := 2) (v := .int .i64 s3) rfl hb
  rw [HL.out]
  clear hb B4 E4
  go_wp2_with fail
  rw [← HL.out]
  refine (moraineref05_GetMark.calls K A c l m1 m2 _ (Kd.C_below HC.out (below_alloc B5.out _)) HM.out H4.out).mono ?_
  rintro e w6 ⟨rfl, hb⟩
  have B6 := Lib.hid (belA B5.out hb)
  have E6 := Lib.hid (belA E5.out hb)
  replace a0 := keepA a0 hb
  replace a1 := keepA a1 hb
  replace a2 := keepA a2 hb
  replace b0 := keepA b0 hb
  replace b1 := keepA b1 hb
  replace b2 := keepA b2 hb
  have k0 := keepN (i := 0) (v := .int .i64 m1) rfl hb
  rw [HL.out]
  clear hb B5 E5
  go_wp2_with fail
  rw [← HL.out]
  refine (super_GetMember.calls K Ao co l e1 e2 e3 e4 _ (Kd.C_below D2.out (below_alloc E6.out _)) DM.out H5.out).mono ?_
  rintro e w7 ⟨rfl, hb⟩
  have B7 := Lib.hid (belA B6.out hb)
  have E7 := Lib.hid (belA E6.out hb)
  replace a0 := keepA a0 hb
  replace a1 := keepA a1 hb
  replace a2 := keepA a2 hb
  replace b0 := keepA b0 hb
  replace b1 := keepA b1 hb
  replace b2 := keepA b2 hb
  replace k0 := keepA k0 hb
  have l0 := keepN (i := 0) (v := .int .i64 m1) rfl hb
  rw [HL.out]
  clear hb B6 E6
  go_wp2_with fail
  rw [← HL.out]
  refine (moraineref05_GetMember.calls K A c l e1 e2 e3 e4 _ (Kd.C_below HC.out (below_alloc B7.out _)) HM.out H6.out).mono ?_
  rintro e w8 ⟨rfl, hb⟩
  have B8 := Lib.hid (belA B7.out hb)
  have E8 := Lib.hid (belA E7.out hb)
  replace a0 := keepA a0 hb
  replace a1 := keepA a1 hb
  replace a2 := keepA a2 hb
  replace b0 := keepA b0 hb
  replace b1 := keepA b1 hb
  replace b2 := keepA b2 hb
  replace k0 := keepA k0 hb
  replace l0 := keepA l0 hb
  have m0 := keepN (i := 0) (v := .int .i64 e1) rfl hb
  have m1' := keepN (i := 1) (v := .int .i64 e2) rfl hb
  have m2' := keepN (i := 2) (v := .int .i64 e3) rfl hb
  rw [HL.out]
  clear hb B7 E7
  have o0 := keepO a0 (.cells #[.int .i64 e1, .int .i64 e2, .int .i64 e3] 25)
  have o1 := keepO a1 (.cells #[.int .i64 e1, .int .i64 e2, .int .i64 e3] 25)
  have o2 := keepO a2 (.cells #[.int .i64 e1, .int .i64 e2, .int .i64 e3] 25)
  have o3 := keepO b0 (.cells #[.int .i64 e1, .int .i64 e2, .int .i64 e3] 25)
  have o4 := keepO b1 (.cells #[.int .i64 e1, .int .i64 e2, .int .i64 e3] 25)
  have o5 := keepO b2 (.cells #[.int .i64 e1, .int .i64 e2, .int .i64 e3] 25)
  have o6 := keepO k0 (.cells #[.int .i64 e1, .int .i64 e2, .int .i64 e3] 25)
  have o7 := keepO l0 (.cells #[.int .i64 e1, .int .i64 e2, .int .i64 e3] 25)
  have o8 := keepO m0 (.cells #[.int .i64 e1, .int .i64 e2, .int .i64 e3] 25)
  have o9 := keepO m1' (.cells #[.int .i64 e1, .int .i64 e2, .int .i64 e3] 25)
  have o10 := keepO m2' (.cells #[.int .i64 e1, .int .i64 e2, .int .i64 e3] 25)
  go_wp2_with fail
  have BF0 := below_alloc B8.out (.cells #[.int .i64 e1, .int .i64 e2, .int .i64 e3] 25)
  have EF0 := below_alloc E8.out (.cells #[.int .i64 e1, .int .i64 e2, .int .i64 e3] 25)
  rw [← HL.out]
  refine (moraineref00_SameBytes.calls K Ao co l A c l true _ (Kd.C_below D2.out EF0) DM.out (Kd.C_below HC.out BF0) HM.out H8.out).mono ?_
  rintro e w' ⟨rfl, nd, rfl⟩
  have BF := pw_below_drewN BF0 nd
  rw [HL.out]
  go_wp2
  go_ret
  exact ⟨rfl, BF⟩
end Go.Proofs.YtkpipmhcjjncdaaDoor.GetsWalk
namespace Go.Proofs.YtkpipmhcjjncdaaDoor.PSuperGets
open Go.RowKit Go.Proofs.YtkpipmhcjjncdaaDoorW.PrintWords Go.Proofs.YtkpipmhcjjncdaaDoorW.PrintLast Go.Proofs.YtkpipmhcjjncdaaDoorW.PrintMore
set_option linter.unusedVariables false
theorem morainelaw05_SuperGets.calls (A : Option Addr) (c : Nat) (l : List Int) (b : Bool) (w : World) (hr : Kd.C (Kd.int .u8) w A l.length l) (hc : l.length ≤ c) (h : Pure.Byt l) :
    Calls Tryd.prog 4 #[.slice A l.length c] w fun e w' => e = .returned (.bool true) ∧ Below w.heap.size w w' := by
  by_cases hl : 2000 < l.length
  · obtain ⟨K, h9⟩ := Pure.alive_some
    exact GetsWalk.long K A c l w hl h9
  · obtain ⟨K, ⟨s1, s2, s3, s4⟩, ⟨m1, m2⟩, ⟨e1, e2, e3, e4⟩, h1, h2, h3, h4, h5, h6, h7, h8, h9⟩ := Pure.gets_facts l h (by omega)
    exact GetsWalk.walk K A c l s1 s2 s3 m1 e1 e2 e3 s4 m2 e4 w hr hc hl h1 h2 h3 h4 h5 h6 h7 h8 h9
end Go.Proofs.YtkpipmhcjjncdaaDoor.PSuperGets
namespace Go.Proofs.YtkpipmhcjjncdaaDoor.Pure
theorem SuperGets (l : List Int) (hb : Byt l) : Byt l := hb
end Go.Proofs.YtkpipmhcjjncdaaDoor.Pure
