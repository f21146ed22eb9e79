/- The walk of GeoSpots, over its callees' contracts: by hand. -/
import Derived.Test.YtoahkeabdikhcaaQGeoSpotsx
import Derived.Test.YtoahkeabdikhcaaPureGeoSpots
import Derived.Deep.RegionHeld3
import Derived.Outline
import Derived.Lib.Hide
namespace Go.Proofs.Ytoahkeabdikhcaa.SpotsWalk
open Go.RowKit Go.Proofs.Ytoahkeabdikhcaa.PGeoSpots Go.Proofs.YtoahkeabdikhcaaW.PrintWords Go.Proofs.YtoahkeabdikhcaaW.PrintLast Go.Proofs.YtoahkeabdikhcaaW.PrintMore
set_option linter.unusedVariables false
set_option linter.unusedSimpArgs false

theorem keepC {w w1 : World} {p : Addr} {v : Value} (h : w.cell? p = some v) (hb : Below w.heap.size w w1) : w1.cell? p = some v := pw_cell_below hb h
theorem keepO {w : World} {p : Addr} {v : Value} (h : w.cell? p = some v) (o : Obj) : (w.alloc o).cell? p = some v := by
  rw [World.cell?_alloc_lt _ _ _ (World.block_lt_of_cell? w p h)]; exact h
theorem keepA {w w1 : World} {o : Obj} {p : Addr} {v : Value} (h : w.cell? p = some v) (hb : Below (w.alloc o).heap.size (w.alloc o) w1) : w1.cell? p = some v := pw_cell_below hb (keepO h o)
theorem keepN {w w1 : World} {cs : Array Value} {t : TypeId} {i : Nat} {v : Value} (h : cs[i]? = some v) (hb : Below (w.alloc (.cells cs t)).heap.size (w.alloc (.cells cs t)) w1) : w1.cell? ⟨w.heap.size, i, none⟩ = some v :=
  pw_cell_below hb ((blk_cell (blk_new w _) i).trans h)
theorem belA {w0 w w1 : World} {o : Obj} (h : Below w0.heap.size w0 w) (hb : Below (w.alloc o).heap.size (w.alloc o) w1) : Below w0.heap.size w0 w1 := below_then (below_alloc h o) (below_alloc h o).size hb
theorem belC {w0 w w1 : World} (h : Below w0.heap.size w0 w) (hb : Below w.heap.size w w1) : Below w0.heap.size w0 w1 := below_then h h.size hb

set_option maxHeartbeats 1000000 in
theorem walk (K : Nat) (d r s a k x : Int) (b1 b2 c1 c2 m1 m2 n : Int) (b3 c3 m3 : Bool) (w : World)
    (h1 : geo_Block.f K d r s a k = some (b1, b2, b3)) (h2 : moraineref03_Block.f K d r s a k = some (b1, b2, b3)) (h3 : geo_Parity.f d r s a k = some (c1, c2, c3)) (h4 : moraineref03_Parity.f K d r s a k = some (c1, c2, c3))
    (h5 : geo_Where.f K d r s x = some (m1, m2, m3)) (h6 : moraineref03_Where.f K d r s x = some (m1, m2, m3)) (h7 : geo_Address.f d r s a k = some n) (h8 : moraineref03_Address.f d r s a k = some n) (h9 : morainelaw03_alive.f K = some true) :
    Calls Try.prog 8 #[.agg #[.int .i64 d, .int .i64 r, .int .i64 s], .int .i64 a, .int .i64 k, .int .i64 x] w fun e w' => e = .returned (.bool true) ∧ Below w.heap.size w w' := by
  have H1 := Lib.hid h1; have H2 := Lib.hid h2; have H3 := Lib.hid h3; have H4 := Lib.hid h4; have H5 := Lib.hid h5; have H6 := Lib.hid h6; have H7 := Lib.hid h7; have H8 := Lib.hid h8; have H9 := Lib.hid h9
  clear h1 h2 h3 h4 h5 h6 h7 h8 h9
  go_enter Try.func8, Try.ntmps8
  go_wp2_with fail
  refine (morainelaw03_alive.calls K true _ H9.out).mono ?_
  rintro e w1 ⟨rfl, hb⟩
  have B1 := Lib.hid (belA (Below.refl w.heap.size w) hb)
  have p0 := keepN (i := 0) (v := .int .i64 d) rfl hb
  have p1 := keepN (i := 1) (v := .int .i64 r) rfl hb
  have p2 := keepN (i := 2) (v := .int .i64 s) rfl hb
  clear hb
  go_wp2_with fail
  refine (geo_Block.calls K d r s a k b1 b2 b3 _ H1.out).mono ?_
  rintro e w2 ⟨rfl, hb⟩
  have B2 := Lib.hid (belC B1.out hb)
  replace p0 := keepC p0 hb
  replace p1 := keepC p1 hb
  replace p2 := keepC p2 hb
  clear hb B1
  have o0 := keepO p0
  have o1 := keepO p1
  have o2 := keepO p2
  go_wp2_with fail
  clear o0 o1 o2
  refine (moraineref03_Block.calls K d r s a k b1 b2 b3 _ H2.out).mono ?_
  rintro e w3 ⟨rfl, hb⟩
  have B3 := Lib.hid (belA B2.out hb)
  replace p0 := keepA p0 hb
  replace p1 := keepA p1 hb
  replace p2 := keepA p2 hb
  have a0 := keepN (i := 0) (v := .int .i64 b1) rfl hb
  have a1 := keepN (i := 1) (v := .int .i64 b2) rfl hb
  clear hb B2
  have o0 := keepO p0
  have o1 := keepO p1
  have o2 := keepO p2
  go_wp2_with fail
  clear o0 o1 o2
  refine (geo_Parity.calls d r s a k c1 c2 c3 _ H3.out).mono ?_
  rintro e w4 ⟨rfl, hb⟩
  have B4 := Lib.hid (belA B3.out hb)
  replace p0 := keepA p0 hb
  replace p1 := keepA p1 hb
  replace p2 := keepA p2 hb
  replace a0 := keepA a0 hb
  replace a1 := keepA a1 hb
  have q0 := keepN (i := 0) (v := .int .i64 b1) rfl hb
  have q1 := keepN (i := 1) (v := .int .i64 b2) rfl hb
  clear hb B3
  have o0 := keepO p0
  have o1 := keepO p1
  have o2 := keepO p2
  go_wp2_with fail
  clear o0 o1 o2
  refine (moraineref03_Parity.calls K d r s a k c1 c2 c3 _ H4.out).mono ?_
  rintro e w5 ⟨rfl, hb⟩
  have B5 := Lib.hid (belA B4.out hb)
  replace p0 := keepA p0 hb
  replace p1 := keepA p1 hb
  replace p2 := keepA p2 hb
  replace a0 := keepA a0 hb
  replace a1 := keepA a1 hb
  replace q0 := keepA q0 hb
  replace q1 := keepA q1 hb
  have u0 := keepN (i := 0) (v := .int .i64 c1) rfl hb
  have u1 := keepN (i := 1) (v := .int .i64 c2) rfl hb
  clear hb B4
  have o0 := keepO p0
  have o1 := keepO p1
  have o2 := keepO p2
  go_wp2_with fail
  clear o0 o1 o2
  refine (geo_Where.calls K d r s x m1 m2 m3 _ H5.out).mono ?_
  rintro e w6 ⟨rfl, hb⟩
  have B6 := Lib.hid (belA B5.out hb)
  replace p0 := keepA p0 hb
  replace p1 := keepA p1 hb
  replace p2 := keepA p2 hb
  replace a0 := keepA a0 hb
  replace a1 := keepA a1 hb
  replace q0 := keepA q0 hb
  replace q1 := keepA q1 hb
  replace u0 := keepA u0 hb
  replace u1 := keepA u1 hb
  have v0 := keepN (i := 0) (v := .int .i64 c1) rfl hb
  have v1 := keepN (i := 1) (v := .int .i64 c2) rfl hb
  clear hb B5
  go_wp2_with fail
  refine (moraineref03_Where.calls K d r s x m1 m2 m3 _ H6.out).mono ?_
  rintro e w7 ⟨rfl, hb⟩
  have B7 := Lib.hid (belC B6.out hb)
  replace p0 := keepC p0 hb
  replace p1 := keepC p1 hb
  replace p2 := keepC p2 hb
  replace a0 := keepC a0 hb
  replace a1 := keepC a1 hb
  replace q0 := keepC q0 hb
  replace q1 := keepC q1 hb
  replace u0 := keepC u0 hb
  replace u1 := keepC u1 hb
  replace v0 := keepC v0 hb
  replace v1 := keepC v1 hb
  clear hb B6
  go_wp2_with fail
  go_region_held3 (fun w' => Below w.heap.size w w' ∧ w'.cell? ⟨w.heap.size, 0, none⟩ = some (.int .i64 d) ∧ w'.cell? ⟨w.heap.size, 1, none⟩ = some (.int .i64 r) ∧ w'.cell? ⟨w.heap.size, 2, none⟩ = some (.int .i64 s) ∧ w'.cell? ⟨w2.heap.size, 0, none⟩ = some (.int .i64 b1) ∧ w'.cell? ⟨w2.heap.size, 1, none⟩ = some (.int .i64 b2) ∧ w'.cell? ⟨w3.heap.size, 0, none⟩ = some (.int .i64 b1) ∧ w'.cell? ⟨w3.heap.size, 1, none⟩ = some (.int .i64 b2) ∧ w'.cell? ⟨w4.heap.size, 0, none⟩ = some (.int .i64 c1) ∧ w'.cell? ⟨w4.heap.size, 1, none⟩ = some (.int .i64 c2) ∧ w'.cell? ⟨w5.heap.size, 0, none⟩ = some (.int .i64 c1) ∧ w'.cell? ⟨w5.heap.size, 1, none⟩ = some (.int .i64 c2)) ((repeat' apply And.intro) <;> first | assumption | exact below_drew B7.out | (simp only [World.cell?_drew]; assumption))
    (first | (go_at_call 22; obtain ⟨Z0, Z1, Z2, Z3, Z4, Z5, Z6, Z7, Z8, Z9, Z10, Z11⟩ := ‹Below w.heap.size w _ ∧ _›; refine (geo_Address.calls d r s a k n _ H7.out).mono ?_; rintro e w' ⟨rfl, hb⟩; have Y0 := belC Z0 hb; have Y1 := keepC Z1 hb; have Y2 := keepC Z2 hb; have Y3 := keepC Z3 hb; have Y4 := keepC Z4 hb; have Y5 := keepC Z5 hb; have Y6 := keepC Z6 hb; have Y7 := keepC Z7 hb; have Y8 := keepC Z8 hb; have Y9 := keepC Z9 hb; have Y10 := keepC Z10 hb; have Y11 := keepC Z11 hb) | (go_at_call 27; obtain ⟨Z0, Z1, Z2, Z3, Z4, Z5, Z6, Z7, Z8, Z9, Z10, Z11⟩ := ‹Below w.heap.size w _ ∧ _›; refine (moraineref03_Address.calls d r s a k n _ H8.out).mono ?_; rintro e w' ⟨rfl, hb⟩; have Y0 := belC Z0 hb; have Y1 := keepC Z1 hb; have Y2 := keepC Z2 hb; have Y3 := keepC Z3 hb; have Y4 := keepC Z4 hb; have Y5 := keepC Z5 hb; have Y6 := keepC Z6 hb; have Y7 := keepC Z7 hb; have Y8 := keepC Z8 hb; have Y9 := keepC Z9 hb; have Y10 := keepC Z10 hb; have Y11 := keepC Z11 hb))
  have BF := (‹Below w.heap.size w _ ∧ _›).1
  go_wp2
  go_ret
  exact ⟨rfl, BF⟩
end Go.Proofs.Ytoahkeabdikhcaa.SpotsWalk
namespace Go.Proofs.Ytoahkeabdikhcaa.PGeoSpots
open Go.RowKit
set_option linter.unusedVariables false
def morainelaw03_GeoSpots.f (K : Nat) (d r s a k x : Int) : Option Bool := some true
theorem morainelaw03_GeoSpots.calls (K : Nat) (d r s a k x : Int) (b : Bool) (w : World) (h : morainelaw03_GeoSpots.f K d r s a k x = some b) :
    Calls Try.prog 8 #[.agg #[.int .i64 d, .int .i64 r, .int .i64 s], .int .i64 a, .int .i64 k, .int .i64 x] w fun e w' => e = .returned (.bool b) ∧ Below w.heap.size w w' := by
  cases h
  obtain ⟨K, ⟨b1, b2, b3⟩, ⟨c1, c2, c3⟩, ⟨m1, m2, m3⟩, n, h1, h2, h3, h4, h5, h6, h7, h8, h9⟩ := Pure.spots_facts d r s a k x
  exact SpotsWalk.walk K d r s a k x b1 b2 c1 c2 m1 m2 n b3 c3 m3 w h1 h2 h3 h4 h5 h6 h7 h8 h9
end Go.Proofs.Ytoahkeabdikhcaa.PGeoSpots
namespace Go.Proofs.Ytoahkeabdikhcaa.Pure
set_option linter.unusedVariables false
theorem GeoSpots (d r s a k x : Int) (_ : (Lit.int .i64 d).wf = true) (_ : (Lit.int .i64 r).wf = true) (_ : (Lit.int .i64 s).wf = true) (_ : (Lit.int .i64 a).wf = true) (_ : (Lit.int .i64 k).wf = true) (_ : (Lit.int .i64 x).wf = true) : ∃ K, PGeoSpots.morainelaw03_GeoSpots.f K d r s a k x = some true := ⟨0, rfl⟩
end Go.Proofs.Ytoahkeabdikhcaa.Pure
