/- The walk of SuperBack, over its callees' contracts: by hand. -/
import Derived.Test.YtkpipmhcjjncdaaDoorQSuperBackx
import Derived.Test.YtkpipmhcjjncdaaDoorPureSuperBack
import Derived.Deep.RegionHeld3
import Derived.Outline
import Derived.Lib.Hide
namespace Go.Proofs.YtkpipmhcjjncdaaDoor.BackWalk
open Go.RowKit Go.Proofs.YtkpipmhcjjncdaaDoor.PSuperBack Go.Proofs.YtkpipmhcjjncdaaDoorW.PrintWords Go.Proofs.YtkpipmhcjjncdaaDoorW.PrintLast Go.Proofs.YtkpipmhcjjncdaaDoorW.PrintMore
set_option linter.unusedVariables false
set_option linter.unusedSimpArgs false

theorem eqA23 (d : Nat) (w : World) (x0 y0 : Int) :
    (Op.equalIn (d + 2) 23 (.agg #[.int .i64 x0]) (.agg #[.int .i64 y0])).run Tryd.prog w = .ok (x0 == y0) w := by
  refine eqA_of Tryd.underlying23 (by kernel_rfl) ?_
  exact eqf_last (by rfl) (by go_simp; rfl) (by go_simp; rfl) (by go_simp)
theorem eqA25 (d : Nat) (w : World) (x0 y0 : Int) (x1 y1 : Int) (x2 y2 : Int) :
    (Op.equalIn (d + 2) 25 (.agg #[.int .i64 x0, .int .i64 x1, .int .i64 x2]) (.agg #[.int .i64 y0, .int .i64 y1, .int .i64 y2])).run Tryd.prog w = .ok (x0 == y0 && (x1 == y1 && (x2 == y2))) w := by
  refine eqA_of Tryd.underlying25 (by kernel_rfl) ?_
  refine eqf_cons (by rfl) (by go_simp; rfl) (by go_simp; rfl) (by go_simp) ?_
  refine eqf_cons (by rfl) (by go_simp; rfl) (by go_simp; rfl) (by go_simp) ?_
  exact eqf_last (by rfl) (by go_simp; rfl) (by go_simp; rfl) (by go_simp)
theorem eqA40 (d : Nat) (w : World) (x0 y0 : Int) (x1 y1 : Int) (x2 y2 : Int) :
    (Op.equalIn (d + 3) 40 (.agg #[.int .i64 x0, .int .i64 x1, .int .i64 x2]) (.agg #[.int .i64 y0, .int .i64 y1, .int .i64 y2])).run Tryd.prog w = .ok (x0 == y0 && (x1 == y1 && (x2 == y2))) w := by
  have hin : (Op.equalIn (d + 2) 38 (.agg #[.int .i64 x0, .int .i64 x1, .int .i64 x2]) (.agg #[.int .i64 y0, .int .i64 y1, .int .i64 y2])).run Tryd.prog w = .ok (x0 == y0 && (x1 == y1 && (x2 == y2))) w := by
    refine eqA_of Tryd.underlying38 (by kernel_rfl) ?_
    refine eqf_cons (by rfl) (by go_simp; rfl) (by go_simp; rfl) (by go_simp) ?_
    refine eqf_cons (by rfl) (by go_simp; rfl) (by go_simp; rfl) (by go_simp) ?_
    exact eqf_last (by rfl) (by go_simp; rfl) (by go_simp; rfl) (by go_simp)
  refine eqA_of Tryd.underlying40 (by kernel_rfl) ?_
  exact eqf_last (by rfl) (by go_simp) (by go_simp) hin
attribute [local go_sem high] eqA23 eqA25 eqA40
theorem keepC {w w1 : World} {p : Addr} {v : Value} (h : w.cell? p = some v) (hb : Below w.heap.size w w1) : w1.cell? p = some v := pw_cell_below hb h
theorem keepO {w : World} {p : Addr} {v : Value} (h : w.cell? p = some v) (o : Obj) : (w.alloc o).cell? p = some v := by
  rw [World.cell?_alloc_lt _ _ _ (World.block_lt_of_cell? w p h)]; exact h
theorem keepA {w w1 : World} {o : Obj} {p : Addr} {v : Value} (h : w.cell? p = some v) (hb : Below (w.alloc o).heap.size (w.alloc o) w1) : w1.cell? p = some v := pw_cell_below hb (keepO h o)
theorem keepN {w w1 : World} {cs : Array Value} {t : TypeId} {i : Nat} {v : Value} (h : cs[i]? = some v) (hb : Below (w.alloc (.cells cs t)).heap.size (w.alloc (.cells cs t)) w1) : w1.cell? ⟨w.heap.size, i, none⟩ = some v :=
  pw_cell_below hb ((blk_cell (blk_new w _) i).trans h)
theorem belA {w0 w w1 : World} {o : Obj} (h : Below w0.heap.size w0 w) (hb : Below (w.alloc o).heap.size (w.alloc o) w1) : Below w0.heap.size w0 w1 := below_then (below_alloc h o) (below_alloc h o).size hb
theorem belC {w0 w w1 : World} (h : Below w0.heap.size w0 w) (hb : Below w.heap.size w w1) : Below w0.heap.size w0 w1 := below_then h h.size hb

theorem super_GetSuper_at (n k : Nat) (A : Option Addr) (c : Nat) (l : List Int) (r1 r2 r3 : Int) (b : Bool) (w : World) (hn : l.length = n) (hr : Kd.C (Kd.int .u8) w A l.length l) (hc : l.length ≤ c) (h : super_GetSuper.f k l = some (r1, r2, r3, b)) :
    Calls Tryd.prog 15 #[.slice A n c] w fun e w' => e = .returned (.tuple #[.agg #[.int .i64 r1, .int .i64 r2, .int .i64 r3], .bool b]) ∧ Below w.heap.size w w' := by
  subst hn; exact super_GetSuper.calls k A c l r1 r2 r3 b w hr hc h
theorem super_GetMark_at (n k : Nat) (A : Option Addr) (c : Nat) (l : List Int) (r1 : Int) (b : Bool) (w : World) (hn : l.length = n) (hr : Kd.C (Kd.int .u8) w A l.length l) (hc : l.length ≤ c) (h : super_GetMark.f k l = some (r1, b)) :
    Calls Tryd.prog 11 #[.slice A n c] w fun e w' => e = .returned (.tuple #[.agg #[.int .i64 r1], .bool b]) ∧ Below w.heap.size w w' := by
  subst hn; exact super_GetMark.calls k A c l r1 b w hr hc h
theorem super_GetMember_at (n k : Nat) (A : Option Addr) (c : Nat) (l : List Int) (r1 r2 r3 : Int) (b : Bool) (w : World) (hn : l.length = n) (hr : Kd.C (Kd.int .u8) w A l.length l) (hc : l.length ≤ c) (h : super_GetMember.f k l = some (r1, r2, r3, b)) :
    Calls Tryd.prog 13 #[.slice A n c] w fun e w' => e = .returned (.tuple #[.agg #[.int .i64 r1, .int .i64 r2, .int .i64 r3], .bool b]) ∧ Below w.heap.size w w' := by
  subst hn; exact super_GetMember.calls k A c l r1 r2 r3 b w hr hc h
set_option maxHeartbeats 1000000 in
theorem walk_ttt (K : Nat) (d r s n e t u : Int) (LSuper : List Int) (hSuper : super_PutSuper.f K d r s = some (LSuper, true)) (nSuper : LSuper.length = 64) (gSuperSuper : super_GetSuper.f K LSuper = some (d, r, s, true)) (gSuperMark : super_GetMark.f K LSuper = some (0, false)) (gSuperMember : super_GetMember.f K LSuper = some (0, 0, 0, false)) (LMark : List Int) (hMark : super_PutMark.f K n = some (LMark, true)) (nMark : LMark.length = 64) (gMarkMark : super_GetMark.f K LMark = some (n, true)) (gMarkSuper : super_GetSuper.f K LMark = some (0, 0, 0, false)) (gMarkMember : super_GetMember.f K LMark = some (0, 0, 0, false)) (LMember : List Int) (hMember : super_PutMember.f K e t u = some (LMember, true)) (nMember : LMember.length = 64) (gMemberMember : super_GetMember.f K LMember = some (e, t, u, true)) (gMemberSuper : super_GetSuper.f K LMember = some (0, 0, 0, false)) (gMemberMark : super_GetMark.f K LMember = some (0, false)) (w : World) (halive : morainelaw05_alive.f K = some true) :
    Calls Tryd.prog 6 #[.agg #[.int .i64 d, .int .i64 r, .int .i64 s], .agg #[.int .i64 n], .agg #[.int .i64 e, .int .i64 t, .int .i64 u]] w fun e w' => e = .returned (.bool true) ∧ Below w.heap.size w w' := by
  have halive' := Lib.hid halive
  have hSuper' := Lib.hid hSuper
  have nSuper' := Lib.hid nSuper
  have gSuperSuper' := Lib.hid gSuperSuper
  have gSuperMark' := Lib.hid gSuperMark
  have gSuperMember' := Lib.hid gSuperMember
  have hMark' := Lib.hid hMark
  have nMark' := Lib.hid nMark
  have gMarkMark' := Lib.hid gMarkMark
  have gMarkSuper' := Lib.hid gMarkSuper
  have gMarkMember' := Lib.hid gMarkMember
  have hMember' := Lib.hid hMember
  have nMember' := Lib.hid nMember
  have gMemberMember' := Lib.hid gMemberMember
  have gMemberSuper' := Lib.hid gMemberSuper
  have gMemberMark' := Lib.hid gMemberMark
  clear halive hSuper nSuper gSuperSuper gSuperMark gSuperMember hMark nMark gMarkMark gMarkSuper gMarkMember hMember nMember gMemberMember gMemberSuper gMemberMark
  have B := Lib.hid (Below.refl w.heap.size w)
  go_enter Tryd.func6, Tryd.ntmps6
  have pSuper0 : (World.alloc w (.cells #[.int .i64 d, .int .i64 r, .int .i64 s] 40)).cell? ⟨w.heap.size, 0, none⟩ = some (.int .i64 d) := (blk_cell (blk_new w _) 0).trans rfl
  have pSuper1 : (World.alloc w (.cells #[.int .i64 d, .int .i64 r, .int .i64 s] 40)).cell? ⟨w.heap.size, 1, none⟩ = some (.int .i64 r) := (blk_cell (blk_new w _) 1).trans rfl
  have pSuper2 : (World.alloc w (.cells #[.int .i64 d, .int .i64 r, .int .i64 s] 40)).cell? ⟨w.heap.size, 2, none⟩ = some (.int .i64 s) := (blk_cell (blk_new w _) 2).trans rfl
  have B_ := Lib.hid (below_alloc B.out (.cells #[.int .i64 d, .int .i64 r, .int .i64 s] 40))
  clear B
  have B := B_
  clear B_
  have pSuper0_ := keepO pSuper0 (.cells #[.int .i64 n] 23)
  replace pSuper0 := pSuper0_
  clear pSuper0_
  have pSuper1_ := keepO pSuper1 (.cells #[.int .i64 n] 23)
  replace pSuper1 := pSuper1_
  clear pSuper1_
  have pSuper2_ := keepO pSuper2 (.cells #[.int .i64 n] 23)
  replace pSuper2 := pSuper2_
  clear pSuper2_
  have pMark0 : (World.alloc (World.alloc w (.cells #[.int .i64 d, .int .i64 r, .int .i64 s] 40)) (.cells #[.int .i64 n] 23)).cell? ⟨w.heap.size + 1, 0, none⟩ = some (.int .i64 n) := by have h_ := (blk_cell (blk_new (World.alloc w (.cells #[.int .i64 d, .int .i64 r, .int .i64 s] 40)) (.cells #[.int .i64 n] 23)) 0).trans rfl; simp only [World.size_alloc] at h_; exact h_
  have B_ := Lib.hid (below_alloc B.out (.cells #[.int .i64 n] 23))
  clear B
  have B := B_
  clear B_
  have pSuper0_ := keepO pSuper0 (.cells #[.int .i64 e, .int .i64 t, .int .i64 u] 25)
  replace pSuper0 := pSuper0_
  clear pSuper0_
  have pSuper1_ := keepO pSuper1 (.cells #[.int .i64 e, .int .i64 t, .int .i64 u] 25)
  replace pSuper1 := pSuper1_
  clear pSuper1_
  have pSuper2_ := keepO pSuper2 (.cells #[.int .i64 e, .int .i64 t, .int .i64 u] 25)
  replace pSuper2 := pSuper2_
  clear pSuper2_
  have pMark0_ := keepO pMark0 (.cells #[.int .i64 e, .int .i64 t, .int .i64 u] 25)
  replace pMark0 := pMark0_
  clear pMark0_
  have pMember0 : (World.alloc (World.alloc (World.alloc w (.cells #[.int .i64 d, .int .i64 r, .int .i64 s] 40)) (.cells #[.int .i64 n] 23)) (.cells #[.int .i64 e, .int .i64 t, .int .i64 u] 25)).cell? ⟨w.heap.size + 1 + 1, 0, none⟩ = some (.int .i64 e) := by have h_ := (blk_cell (blk_new (World.alloc (World.alloc w (.cells #[.int .i64 d, .int .i64 r, .int .i64 s] 40)) (.cells #[.int .i64 n] 23)) (.cells #[.int .i64 e, .int .i64 t, .int .i64 u] 25)) 0).trans rfl; simp only [World.size_alloc] at h_; exact h_
  have pMember1 : (World.alloc (World.alloc (World.alloc w (.cells #[.int .i64 d, .int .i64 r, .int .i64 s] 40)) (.cells #[.int .i64 n] 23)) (.cells #[.int .i64 e, .int .i64 t, .int .i64 u] 25)).cell? ⟨w.heap.size + 1 + 1, 1, none⟩ = some (.int .i64 t) := by have h_ := (blk_cell (blk_new (World.alloc (World.alloc w (.cells #[.int .i64 d, .int .i64 r, .int .i64 s] 40)) (.cells #[.int .i64 n] 23)) (.cells #[.int .i64 e, .int .i64 t, .int .i64 u] 25)) 1).trans rfl; simp only [World.size_alloc] at h_; exact h_
  have pMember2 : (World.alloc (World.alloc (World.alloc w (.cells #[.int .i64 d, .int .i64 r, .int .i64 s] 40)) (.cells #[.int .i64 n] 23)) (.cells #[.int .i64 e, .int .i64 t, .int .i64 u] 25)).cell? ⟨w.heap.size + 1 + 1, 2, none⟩ = some (.int .i64 u) := by have h_ := (blk_cell (blk_new (World.alloc (World.alloc w (.cells #[.int .i64 d, .int .i64 r, .int .i64 s] 40)) (.cells #[.int .i64 n] 23)) (.cells #[.int .i64 e, .int .i64 t, .int .i64 u] 25)) 2).trans rfl; simp only [World.size_alloc] at h_; exact h_
  have B_ := Lib.hid (below_alloc B.out (.cells #[.int .i64 e, .int .i64 t, .int .i64 u] 25))
  clear B
  have B := B_
  clear B_
  go_wp2_with fail
  refine (morainelaw05_alive.calls K true _ halive'.out).mono ?_
  rintro e w1 ⟨rfl, hb⟩
  replace pSuper0 := keepC pSuper0 hb
  replace pSuper1 := keepC pSuper1 hb
  replace pSuper2 := keepC pSuper2 hb
  replace pMark0 := keepC pMark0 hb
  replace pMember0 := keepC pMember0 hb
  replace pMember1 := keepC pMember1 hb
  replace pMember2 := keepC pMember2 hb
  have B_ := Lib.hid (belC B.out hb)
  clear B
  have B := B_
  clear B_
  clear hb
  go_wp2_with fail
  refine (super_PutSuper.calls K d r s LSuper true _ hSuper'.out).mono ?_
  rintro e w2 ⟨v0, rfl, hR, hb⟩
  obtain ⟨ASuper, cSuper, rfl⟩ := Kd.R_slice hR
  replace pSuper0 := keepC pSuper0 hb
  replace pSuper1 := keepC pSuper1 hb
  replace pSuper2 := keepC pSuper2 hb
  replace pMark0 := keepC pMark0 hb
  replace pMember0 := keepC pMember0 hb
  replace pMember1 := keepC pMember1 hb
  replace pMember2 := keepC pMember2 hb
  have B_ := Lib.hid (belC B.out hb)
  clear B
  have B := B_
  clear B_
  clear hb
  have CSuper := Lib.hid (Kd.R_reads' hR).2.2
  have MSuper := Lib.hid (Kd.R_reads' hR).2.1
  have E := Lib.hid (Below.refl w2.heap.size w2)
  rw [nSuper'.out]
  clear hR
  go_wp2_with fail
  refine (super_GetSuper_at 64 K ASuper cSuper LSuper d r s true _ nSuper'.out (Kd.C_below CSuper.out E.out) MSuper.out gSuperSuper'.out).mono ?_
  rintro e w3 ⟨rfl, hb⟩
  replace pSuper0 := keepC pSuper0 hb
  replace pSuper1 := keepC pSuper1 hb
  replace pSuper2 := keepC pSuper2 hb
  replace pMark0 := keepC pMark0 hb
  replace pMember0 := keepC pMember0 hb
  replace pMember1 := keepC pMember1 hb
  replace pMember2 := keepC pMember2 hb
  have B_ := Lib.hid (belC B.out hb)
  clear B
  have B := B_
  clear B_
  have E_ := Lib.hid (belC E.out hb)
  clear E
  have E := E_
  clear E_
  clear hb
  have pSuper0_ := keepO pSuper0 (.cells #[.int .i64 d, .int .i64 r, .int .i64 s] 40)
  replace pSuper0 := pSuper0_
  clear pSuper0_
  have pSuper1_ := keepO pSuper1 (.cells #[.int .i64 d, .int .i64 r, .int .i64 s] 40)
  replace pSuper1 := pSuper1_
  clear pSuper1_
  have pSuper2_ := keepO pSuper2 (.cells #[.int .i64 d, .int .i64 r, .int .i64 s] 40)
  replace pSuper2 := pSuper2_
  clear pSuper2_
  have pMark0_ := keepO pMark0 (.cells #[.int .i64 d, .int .i64 r, .int .i64 s] 40)
  replace pMark0 := pMark0_
  clear pMark0_
  have pMember0_ := keepO pMember0 (.cells #[.int .i64 d, .int .i64 r, .int .i64 s] 40)
  replace pMember0 := pMember0_
  clear pMember0_
  have pMember1_ := keepO pMember1 (.cells #[.int .i64 d, .int .i64 r, .int .i64 s] 40)
  replace pMember1 := pMember1_
  clear pMember1_
  have pMember2_ := keepO pMember2 (.cells #[.int .i64 d, .int .i64 r, .int .i64 s] 40)
  replace pMember2 := pMember2_
  clear pMember2_
  have qSuperSuper0 : (World.alloc w3 (.cells #[.int .i64 d, .int .i64 r, .int .i64 s] 40)).cell? ⟨w3.heap.size, 0, none⟩ = some (.int .i64 d) := (blk_cell (blk_new w3 _) 0).trans rfl
  have qSuperSuper1 : (World.alloc w3 (.cells #[.int .i64 d, .int .i64 r, .int .i64 s] 40)).cell? ⟨w3.heap.size, 1, none⟩ = some (.int .i64 r) := (blk_cell (blk_new w3 _) 1).trans rfl
  have qSuperSuper2 : (World.alloc w3 (.cells #[.int .i64 d, .int .i64 r, .int .i64 s] 40)).cell? ⟨w3.heap.size, 2, none⟩ = some (.int .i64 s) := (blk_cell (blk_new w3 _) 2).trans rfl
  have B_ := Lib.hid (below_alloc B.out (.cells #[.int .i64 d, .int .i64 r, .int .i64 s] 40))
  clear B
  have B := B_
  clear B_
  have E_ := Lib.hid (below_alloc E.out (.cells #[.int .i64 d, .int .i64 r, .int .i64 s] 40))
  clear E
  have E := E_
  clear E_
  go_wp2_with fail
  refine (super_GetMark_at 64 K ASuper cSuper LSuper 0 false _ nSuper'.out (Kd.C_below CSuper.out E.out) MSuper.out gSuperMark'.out).mono ?_
  rintro e w4 ⟨rfl, hb⟩
  replace pSuper0 := keepC pSuper0 hb
  replace pSuper1 := keepC pSuper1 hb
  replace pSuper2 := keepC pSuper2 hb
  replace pMark0 := keepC pMark0 hb
  replace pMember0 := keepC pMember0 hb
  replace pMember1 := keepC pMember1 hb
  replace pMember2 := keepC pMember2 hb
  replace qSuperSuper0 := keepC qSuperSuper0 hb
  replace qSuperSuper1 := keepC qSuperSuper1 hb
  replace qSuperSuper2 := keepC qSuperSuper2 hb
  have B_ := Lib.hid (belC B.out hb)
  clear B
  have B := B_
  clear B_
  have E_ := Lib.hid (belC E.out hb)
  clear E
  have E := E_
  clear E_
  clear hb
  have pSuper0_ := keepO pSuper0 (.cells #[.int .i64 0] 23)
  replace pSuper0 := pSuper0_
  clear pSuper0_
  have pSuper1_ := keepO pSuper1 (.cells #[.int .i64 0] 23)
  replace pSuper1 := pSuper1_
  clear pSuper1_
  have pSuper2_ := keepO pSuper2 (.cells #[.int .i64 0] 23)
  replace pSuper2 := pSuper2_
  clear pSuper2_
  have pMark0_ := keepO pMark0 (.cells #[.int .i64 0] 23)
  replace pMark0 := pMark0_
  clear pMark0_
  have pMember0_ := keepO pMember0 (.cells #[.int .i64 0] 23)
  replace pMember0 := pMember0_
  clear pMember0_
  have pMember1_ := keepO pMember1 (.cells #[.int .i64 0] 23)
  replace pMember1 := pMember1_
  clear pMember1_
  have pMember2_ := keepO pMember2 (.cells #[.int .i64 0] 23)
  replace pMember2 := pMember2_
  clear pMember2_
  have qSuperSuper0_ := keepO qSuperSuper0 (.cells #[.int .i64 0] 23)
  replace qSuperSuper0 := qSuperSuper0_
  clear qSuperSuper0_
  have qSuperSuper1_ := keepO qSuperSuper1 (.cells #[.int .i64 0] 23)
  replace qSuperSuper1 := qSuperSuper1_
  clear qSuperSuper1_
  have qSuperSuper2_ := keepO qSuperSuper2 (.cells #[.int .i64 0] 23)
  replace qSuperSuper2 := qSuperSuper2_
  clear qSuperSuper2_
  have qSuperMark0 : (World.alloc w4 (.cells #[.int .i64 0] 23)).cell? ⟨w4.heap.size, 0, none⟩ = some (.int .i64 0) := (blk_cell (blk_new w4 _) 0).trans rfl
  have B_ := Lib.hid (below_alloc B.out (.cells #[.int .i64 0] 23))
  clear B
  have B := B_
  clear B_
  have E_ := Lib.hid (below_alloc E.out (.cells #[.int .i64 0] 23))
  clear E
  have E := E_
  clear E_
  go_wp2_with fail
  refine (super_GetMember_at 64 K ASuper cSuper LSuper 0 0 0 false _ nSuper'.out (Kd.C_below CSuper.out E.out) MSuper.out gSuperMember'.out).mono ?_
  rintro e w5 ⟨rfl, hb⟩
  replace pSuper0 := keepC pSuper0 hb
  replace pSuper1 := keepC pSuper1 hb
  replace pSuper2 := keepC pSuper2 hb
  replace pMark0 := keepC pMark0 hb
  replace pMember0 := keepC pMember0 hb
  replace pMember1 := keepC pMember1 hb
  replace pMember2 := keepC pMember2 hb
  replace qSuperSuper0 := keepC qSuperSuper0 hb
  replace qSuperSuper1 := keepC qSuperSuper1 hb
  replace qSuperSuper2 := keepC qSuperSuper2 hb
  replace qSuperMark0 := keepC qSuperMark0 hb
  have B_ := Lib.hid (belC B.out hb)
  clear B
  have B := B_
  clear B_
  have E_ := Lib.hid (belC E.out hb)
  clear E
  have E := E_
  clear E_
  clear hb
  have pSuper0_ := keepO pSuper0 (.cells #[.int .i64 0, .int .i64 0, .int .i64 0] 25)
  replace pSuper0 := pSuper0_
  clear pSuper0_
  have pSuper1_ := keepO pSuper1 (.cells #[.int .i64 0, .int .i64 0, .int .i64 0] 25)
  replace pSuper1 := pSuper1_
  clear pSuper1_
  have pSuper2_ := keepO pSuper2 (.cells #[.int .i64 0, .int .i64 0, .int .i64 0] 25)
  replace pSuper2 := pSuper2_
  clear pSuper2_
  have pMark0_ := keepO pMark0 (.cells #[.int .i64 0, .int .i64 0, .int .i64 0] 25)
  replace pMark0 := pMark0_
  clear pMark0_
  have pMember0_ := keepO pMember0 (.cells #[.int .i64 0, .int .i64 0, .int .i64 0] 25)
  replace pMember0 := pMember0_
  clear pMember0_
  have pMember1_ := keepO pMember1 (.cells #[.int .i64 0, .int .i64 0, .int .i64 0] 25)
  replace pMember1 := pMember1_
  clear pMember1_
  have pMember2_ := keepO pMember2 (.cells #[.int .i64 0, .int .i64 0, .int .i64 0] 25)
  replace pMember2 := pMember2_
  clear pMember2_
  have qSuperSuper0_ := keepO qSuperSuper0 (.cells #[.int .i64 0, .int .i64 0, .int .i64 0] 25)
  replace qSuperSuper0 := qSuperSuper0_
  clear qSuperSuper0_
  have qSuperSuper1_ := keepO qSuperSuper1 (.cells #[.int .i64 0, .int .i64 0, .int .i64 0] 25)
  replace qSuperSuper1 := qSuperSuper1_
  clear qSuperSuper1_
  have qSuperSuper2_ := keepO qSuperSuper2 (.cells #[.int .i64 0, .int .i64 0, .int .i64 0] 25)
  replace qSuperSuper2 := qSuperSuper2_
  clear qSuperSuper2_
  have qSuperMark0_ := keepO qSuperMark0 (.cells #[.int .i64 0, .int .i64 0, .int .i64 0] 25)
  replace qSuperMark0 := qSuperMark0_
  clear qSuperMark0_
  have qSuperMember0 : (World.alloc w5 (.cells #[.int .i64 0, .int .i64 0, .int .i64 0] 25)).cell? ⟨w5.heap.size, 0, none⟩ = some (.int .i64 0) := (blk_cell (blk_new w5 _) 0).trans rfl
  have qSuperMember1 : (World.alloc w5 (.cells #[.int .i64 0, .int .i64 0, .int .i64 0] 25)).cell? ⟨w5.heap.size, 1, none⟩ = some (.int .i64 0) := (blk_cell (blk_new w5 _) 1).trans rfl
  have qSuperMember2 : (World.alloc w5 (.cells #[.int .i64 0, .int .i64 0, .int .i64 0] 25)).cell? ⟨w5.heap.size, 2, none⟩ = some (.int .i64 0) := (blk_cell (blk_new w5 _) 2).trans rfl
  have B_ := Lib.hid (below_alloc B.out (.cells #[.int .i64 0, .int .i64 0, .int .i64 0] 25))
  clear B
  have B := B_
  clear B_
  have E_ := Lib.hid (below_alloc E.out (.cells #[.int .i64 0, .int .i64 0, .int .i64 0] 25))
  clear E
  have E := E_
  clear E_
  clear E CSuper MSuper
  go_wp2_with fail
  refine (super_PutMark.calls K n LMark true _ hMark'.out).mono ?_
  rintro e w6 ⟨v0, rfl, hR, hb⟩
  obtain ⟨AMark, cMark, rfl⟩ := Kd.R_slice hR
  replace pSuper0 := keepC pSuper0 hb
  replace pSuper1 := keepC pSuper1 hb
  replace pSuper2 := keepC pSuper2 hb
  replace pMark0 := keepC pMark0 hb
  replace pMember0 := keepC pMember0 hb
  replace pMember1 := keepC pMember1 hb
  replace pMember2 := keepC pMember2 hb
  replace qSuperSuper0 := keepC qSuperSuper0 hb
  replace qSuperSuper1 := keepC qSuperSuper1 hb
  replace qSuperSuper2 := keepC qSuperSuper2 hb
  replace qSuperMark0 := keepC qSuperMark0 hb
  replace qSuperMember0 := keepC qSuperMember0 hb
  replace qSuperMember1 := keepC qSuperMember1 hb
  replace qSuperMember2 := keepC qSuperMember2 hb
  have B_ := Lib.hid (belC B.out hb)
  clear B
  have B := B_
  clear B_
  clear hb
  have CMark := Lib.hid (Kd.R_reads' hR).2.2
  have MMark := Lib.hid (Kd.R_reads' hR).2.1
  have E := Lib.hid (Below.refl w6.heap.size w6)
  rw [nMark'.out]
  clear hR
  go_wp2_with fail
  refine (super_GetMark_at 64 K AMark cMark LMark n true _ nMark'.out (Kd.C_below CMark.out E.out) MMark.out gMarkMark'.out).mono ?_
  rintro e w7 ⟨rfl, hb⟩
  replace pSuper0 := keepC pSuper0 hb
  replace pSuper1 := keepC pSuper1 hb
  replace pSuper2 := keepC pSuper2 hb
  replace pMark0 := keepC pMark0 hb
  replace pMember0 := keepC pMember0 hb
  replace pMember1 := keepC pMember1 hb
  replace pMember2 := keepC pMember2 hb
  replace qSuperSuper0 := keepC qSuperSuper0 hb
  replace qSuperSuper1 := keepC qSuperSuper1 hb
  replace qSuperSuper2 := keepC qSuperSuper2 hb
  replace qSuperMark0 := keepC qSuperMark0 hb
  replace qSuperMember0 := keepC qSuperMember0 hb
  replace qSuperMember1 := keepC qSuperMember1 hb
  replace qSuperMember2 := keepC qSuperMember2 hb
  have B_ := Lib.hid (belC B.out hb)
  clear B
  have B := B_
  clear B_
  have E_ := Lib.hid (belC E.out hb)
  clear E
  have E := E_
  clear E_
  clear hb
  have pSuper0_ := keepO pSuper0 (.cells #[.int .i64 n] 23)
  replace pSuper0 := pSuper0_
  clear pSuper0_
  have pSuper1_ := keepO pSuper1 (.cells #[.int .i64 n] 23)
  replace pSuper1 := pSuper1_
  clear pSuper1_
  have pSuper2_ := keepO pSuper2 (.cells #[.int .i64 n] 23)
  replace pSuper2 := pSuper2_
  clear pSuper2_
  have pMark0_ := keepO pMark0 (.cells #[.int .i64 n] 23)
  replace pMark0 := pMark0_
  clear pMark0_
  have pMember0_ := keepO pMember0 (.cells #[.int .i64 n] 23)
  replace pMember0 := pMember0_
  clear pMember0_
  have pMember1_ := keepO pMember1 (.cells #[.int .i64 n] 23)
  replace pMember1 := pMember1_
  clear pMember1_
  have pMember2_ := keepO pMember2 (.cells #[.int .i64 n] 23)
  replace pMember2 := pMember2_
  clear pMember2_
  have qSuperSuper0_ := keepO qSuperSuper0 (.cells #[.int .i64 n] 23)
  replace qSuperSuper0 := qSuperSuper0_
  clear qSuperSuper0_
  have qSuperSuper1_ := keepO qSuperSuper1 (.cells #[.int .i64 n] 23)
  replace qSuperSuper1 := qSuperSuper1_
  clear qSuperSuper1_
  have qSuperSuper2_ := keepO qSuperSuper2 (.cells #[.int .i64 n] 23)
  replace qSuperSuper2 := qSuperSuper2_
  clear qSuperSuper2_
  have qSuperMark0_ := keepO qSuperMark0 (.cells #[.int .i64 n] 23)
  replace qSuperMark0 := qSuperMark0_
  clear qSuperMark0_
  have qSuperMember0_ := keepO qSuperMember0 (.cells #[.int .i64 n] 23)
  replace qSuperMember0 := qSuperMember0_
  clear qSuperMember0_
  have qSuperMember1_ := keepO qSuperMember1 (.cells #[.int .i64 n] 23)
  replace qSuperMember1 := qSuperMember1_
  clear qSuperMember1_
  have qSuperMember2_ := keepO qSuperMember2 (.cells #[.int .i64 n] 23)
  replace qSuperMember2 := qSuperMember2_
  clear qSuperMember2_
  have qMarkMark0 : (World.alloc w7 (.cells #[.int .i64 n] 23)).cell? ⟨w7.heap.size, 0, none⟩ = some (.int .i64 n) := (blk_cell (blk_new w7 _) 0).trans rfl
  have B_ := Lib.hid (below_alloc B.out (.cells #[.int .i64 n] 23))
  clear B
  have B := B_
  clear B_
  have E_ := Lib.hid (below_alloc E.out (.cells #[.int .i64 n] 23))
  clear E
  have E := E_
  clear E_
  go_wp2_with fail
  refine (super_GetSuper_at 64 K AMark cMark LMark 0 0 0 false _ nMark'.out (Kd.C_below CMark.out E.out) MMark.out gMarkSuper'.out).mono ?_
  rintro e w8 ⟨rfl, hb⟩
  replace pSuper0 := keepC pSuper0 hb
  replace pSuper1 := keepC pSuper1 hb
  replace pSuper2 := keepC pSuper2 hb
  replace pMark0 := keepC pMark0 hb
  replace pMember0 := keepC pMember0 hb
  replace pMember1 := keepC pMember1 hb
  replace pMember2 := keepC pMember2 hb
  replace qSuperSuper0 := keepC qSuperSuper0 hb
  replace qSuperSuper1 := keepC qSuperSuper1 hb
  replace qSuperSuper2 := keepC qSuperSuper2 hb
  replace qSuperMark0 := keepC qSuperMark0 hb
  replace qSuperMember0 := keepC qSuperMember0 hb
  replace qSuperMember1 := keepC qSuperMember1 hb
  replace qSuperMember2 := keepC qSuperMember2 hb
  replace qMarkMark0 := keepC qMarkMark0 hb
  have B_ := Lib.hid (belC B.out hb)
  clear B
  have B := B_
  clear B_
  have E_ := Lib.hid (belC E.out hb)
  clear E
  have E := E_
  clear E_
  clear hb
  have pSuper0_ := keepO pSuper0 (.cells #[.int .i64 0, .int .i64 0, .int .i64 0] 40)
  replace pSuper0 := pSuper0_
  clear pSuper0_
  have pSuper1_ := keepO pSuper1 (.cells #[.int .i64 0, .int .i64 0, .int .i64 0] 40)
  replace pSuper1 := pSuper1_
  clear pSuper1_
  have pSuper2_ := keepO pSuper2 (.cells #[.int .i64 0, .int .i64 0, .int .i64 0] 40)
  replace pSuper2 := pSuper2_
  clear pSuper2_
  have pMark0_ := keepO pMark0 (.cells #[.int .i64 0, .int .i64 0, .int .i64 0] 40)
  replace pMark0 := pMark0_
  clear pMark0_
  have pMember0_ := keepO pMember0 (.cells #[.int .i64 0, .int .i64 0, .int .i64 0] 40)
  replace pMember0 := pMember0_
  clear pMember0_
  have pMember1_ := keepO pMember1 (.cells #[.int .i64 0, .int .i64 0, .int .i64 0] 40)
  replace pMember1 := pMember1_
  clear pMember1_
  have pMember2_ := keepO pMember2 (.cells #[.int .i64 0, .int .i64 0, .int .i64 0] 40)
  replace pMember2 := pMember2_
  clear pMember2_
  have qSuperSuper0_ := keepO qSuperSuper0 (.cells #[.int .i64 0, .int .i64 0, .int .i64 0] 40)
  replace qSuperSuper0 := qSuperSuper0_
  clear qSuperSuper0_
  have qSuperSuper1_ := keepO qSuperSuper1 (.cells #[.int .i64 0, .int .i64 0, .int .i64 0] 40)
  replace qSuperSuper1 := qSuperSuper1_
  clear qSuperSuper1_
  have qSuperSuper2_ := keepO qSuperSuper2 (.cells #[.int .i64 0, .int .i64 0, .int .i64 0] 40)
  replace qSuperSuper2 := qSuperSuper2_
  clear qSuperSuper2_
  have qSuperMark0_ := keepO qSuperMark0 (.cells #[.int .i64 0, .int .i64 0, .int .i64 0] 40)
  replace qSuperMark0 := qSuperMark0_
  clear qSuperMark0_
  have qSuperMember0_ := keepO qSuperMember0 (.cells #[.int .i64 0, .int .i64 0, .int .i64 0] 40)
  replace qSuperMember0 := qSuperMember0_
  clear qSuperMember0_
  have qSuperMember1_ := keepO qSuperMember1 (.cells #[.int .i64 0, .int .i64 0, .int .i64 0] 40)
  replace qSuperMember1 := qSuperMember1_
  clear qSuperMember1_
  have qSuperMember2_ := keepO qSuperMember2 (.cells #[.int .i64 0, .int .i64 0, .int .i64 0] 40)
  replace qSuperMember2 := qSuperMember2_
  clear qSuperMember2_
  have qMarkMark0_ := keepO qMarkMark0 (.cells #[.int .i64 0, .int .i64 0, .int .i64 0] 40)
  replace qMarkMark0 := qMarkMark0_
  clear qMarkMark0_
  have qMarkSuper0 : (World.alloc w8 (.cells #[.int .i64 0, .int .i64 0, .int .i64 0] 40)).cell? ⟨w8.heap.size, 0, none⟩ = some (.int .i64 0) := (blk_cell (blk_new w8 _) 0).trans rfl
  have qMarkSuper1 : (World.alloc w8 (.cells #[.int .i64 0, .int .i64 0, .int .i64 0] 40)).cell? ⟨w8.heap.size, 1, none⟩ = some (.int .i64 0) := (blk_cell (blk_new w8 _) 1).trans rfl
  have qMarkSuper2 : (World.alloc w8 (.cells #[.int .i64 0, .int .i64 0, .int .i64 0] 40)).cell? ⟨w8.heap.size, 2, none⟩ = some (.int .i64 0) := (blk_cell (blk_new w8 _) 2).trans rfl
  have B_ := Lib.hid (below_alloc B.out (.cells #[.int .i64 0, .int .i64 0, .int .i64 0] 40))
  clear B
  have B := B_
  clear B_
  have E_ := Lib.hid (below_alloc E.out (.cells #[.int .i64 0, .int .i64 0, .int .i64 0] 40))
  clear E
  have E := E_
  clear E_
  go_wp2_with fail
  refine (super_GetMember_at 64 K AMark cMark LMark 0 0 0 false _ nMark'.out (Kd.C_below CMark.out E.out) MMark.out gMarkMember'.out).mono ?_
  rintro e w9 ⟨rfl, hb⟩
  replace pSuper0 := keepC pSuper0 hb
  replace pSuper1 := keepC pSuper1 hb
  replace pSuper2 := keepC pSuper2 hb
  replace pMark0 := keepC pMark0 hb
  replace pMember0 := keepC pMember0 hb
  replace pMember1 := keepC pMember1 hb
  replace pMember2 := keepC pMember2 hb
  replace qSuperSuper0 := keepC qSuperSuper0 hb
  replace qSuperSuper1 := keepC qSuperSuper1 hb
  replace qSuperSuper2 := keepC qSuperSuper2 hb
  replace qSuperMark0 := keepC qSuperMark0 hb
  replace qSuperMember0 := keepC qSuperMember0 hb
  replace qSuperMember1 := keepC qSuperMember1 hb
  replace qSuperMember2 := keepC qSuperMember2 hb
  replace qMarkMark0 := keepC qMarkMark0 hb
  replace qMarkSuper0 := keepC qMarkSuper0 hb
  replace qMarkSuper1 := keepC qMarkSuper1 hb
  replace qMarkSuper2 := keepC qMarkSuper2 hb
  have B_ := Lib.hid (belC B.out hb)
  clear B
  have B := B_
  clear B_
  have E_ := Lib.hid (belC E.out hb)
  clear E
  have E := E_
  clear E_
  clear hb
  have pSuper0_ := keepO pSuper0 (.cells #[.int .i64 0, .int .i64 0, .int .i64 0] 25)
  replace pSuper0 := pSuper0_
  clear pSuper0_
  have pSuper1_ := keepO pSuper1 (.cells #[.int .i64 0, .int .i64 0, .int .i64 0] 25)
  replace pSuper1 := pSuper1_
  clear pSuper1_
  have pSuper2_ := keepO pSuper2 (.cells #[.int .i64 0, .int .i64 0, .int .i64 0] 25)
  replace pSuper2 := pSuper2_
  clear pSuper2_
  have pMark0_ := keepO pMark0 (.cells #[.int .i64 0, .int .i64 0, .int .i64 0] 25)
  replace pMark0 := pMark0_
  clear pMark0_
  have pMember0_ := keepO pMember0 (.cells #[.int .i64 0, .int .i64 0, .int .i64 0] 25)
  replace pMember0 := pMember0_
  clear pMember0_
  have pMember1_ := keepO pMember1 (.cells #[.int .i64 0, .int .i64 0, .int .i64 0] 25)
  replace pMember1 := pMember1_
  clear pMember1_
  have pMember2_ := keepO pMember2 (.cells #[.int .i64 0, .int .i64 0, .int .i64 0] 25)
  replace pMember2 := pMember2_
  clear pMember2_
  have qSuperSuper0_ := keepO qSuperSuper0 (.cells #[.int .i64 0, .int .i64 0, .int .i64 0] 25)
  replace qSuperSuper0 := qSuperSuper0_
  clear qSuperSuper0_
  have qSuperSuper1_ := keepO qSuperSuper1 (.cells #[.int .i64 0, .int .i64 0, .int .i64 0] 25)
  replace qSuperSuper1 := qSuperSuper1_
  clear qSuperSuper1_
  have qSuperSuper2_ := keepO qSuperSuper2 (.cells #[.int .i64 0, .int .i64 0, .int .i64 0] 25)
  replace qSuperSuper2 := qSuperSuper2_
  clear qSuperSuper2_
  have qSuperMark0_ := keepO qSuperMark0 (.cells #[.int .i64 0, .int .i64 0, .int .i64 0] 25)
  replace qSuperMark0 := qSuperMark0_
  clear qSuperMark0_
  have qSuperMember0_ := keepO qSuperMember0 (.cells #[.int .i64 0, .int .i64 0, .int .i64 0] 25)
  replace qSuperMember0 := qSuperMember0_
  clear qSuperMember0_
  have qSuperMember1_ := keepO qSuperMember1 (.cells #[.int .i64 0, .int .i64 0, .int .i64 0] 25)
  replace qSuperMember1 := qSuperMember1_
  clear qSuperMember1_
  have qSuperMember2_ := keepO qSuperMember2 (.cells #[.int .i64 0, .int .i64 0, .int .i64 0] 25)
  replace qSuperMember2 := qSuperMember2_
  clear qSuperMember2_
  have qMarkMark0_ := keepO qMarkMark0 (.cells #[.int .i64 0, .int .i64 0, .int .i64 0] 25)
  replace qMarkMark0 := qMarkMark0_
  clear qMarkMark0_
  have qMarkSuper0_ := keepO qMarkSuper0 (.cells #[.int .i64 0, .int .i64 0, .int .i64 0] 25)
  replace qMarkSuper0 := qMarkSuper0_
  clear qMarkSuper0_
  have qMarkSuper1_ := keepO qMarkSuper1 (.cells #[.int .i64 0, .int .i64 0, .int .i64 0] 25)
  replace qMarkSuper1 := qMarkSuper1_
  clear qMarkSuper1_
  have qMarkSuper2_ := keepO qMarkSuper2 (.cells #[.int .i64 0, .int .i64 0, .int .i64 0] 25)
  replace qMarkSuper2 := qMarkSuper2_
  clear qMarkSuper2_
  have qMarkMember0 : (World.alloc w9 (.cells #[.int .i64 0, .int .i64 0, .int .i64 0] 25)).cell? ⟨w9.heap.size, 0, none⟩ = some (.int .i64 0) := (blk_cell (blk_new w9 _) 0).trans rfl
  have qMarkMember1 : (World.alloc w9 (.cells #[.int .i64 0, .int .i64 0, .int .i64 0] 25)).cell? ⟨w9.heap.size, 1, none⟩ = some (.int .i64 0) := (blk_cell (blk_new w9 _) 1).trans rfl
  have qMarkMember2 : (World.alloc w9 (.cells #[.int .i64 0, .int .i64 0, .int .i64 0] 25)).cell? ⟨w9.heap.size, 2, none⟩ = some (.int .i64 0) := (blk_cell (blk_new w9 _) 2).trans rfl
  have B_ := Lib.hid (below_alloc B.out (.cells #[.int .i64 0, .int .i64 0, .int .i64 0] 25))
  clear B
  have B := B_
  clear B_
  have E_ := Lib.hid (below_alloc E.out (.cells #[.int .i64 0, .int .i64 0, .int .i64 0] 25))
  clear E
  have E := E_
  clear E_
  clear E CMark MMark
  go_wp2_with fail
  refine (super_PutMember.calls K e t u LMember true _ hMember'.out).mono ?_
  rintro e w10 ⟨v0, rfl, hR, hb⟩
  obtain ⟨AMember, cMember, rfl⟩ := Kd.R_slice hR
  replace pSuper0 := keepC pSuper0 hb
  replace pSuper1 := keepC pSuper1 hb
  replace pSuper2 := keepC pSuper2 hb
  replace pMark0 := keepC pMark0 hb
  replace pMember0 := keepC pMember0 hb
  replace pMember1 := keepC pMember1 hb
  replace pMember2 := keepC pMember2 hb
  replace qSuperSuper0 := keepC qSuperSuper0 hb
  replace qSuperSuper1 := keepC qSuperSuper1 hb
  replace qSuperSuper2 := keepC qSuperSuper2 hb
  replace qSuperMark0 := keepC qSuperMark0 hb
  replace qSuperMember0 := keepC qSuperMember0 hb
  replace qSuperMember1 := keepC qSuperMember1 hb
  replace qSuperMember2 := keepC qSuperMember2 hb
  replace qMarkMark0 := keepC qMarkMark0 hb
  replace qMarkSuper0 := keepC qMarkSuper0 hb
  replace qMarkSuper1 := keepC qMarkSuper1 hb
  replace qMarkSuper2 := keepC qMarkSuper2 hb
  replace qMarkMember0 := keepC qMarkMember0 hb
  replace qMarkMember1 := keepC qMarkMember1 hb
  replace qMarkMember2 := keepC qMarkMember2 hb
  have B_ := Lib.hid (belC B.out hb)
  clear B
  have B := B_
  clear B_
  clear hb
  have CMember := Lib.hid (Kd.R_reads' hR).2.2
  have MMember := Lib.hid (Kd.R_reads' hR).2.1
  have E := Lib.hid (Below.refl w10.heap.size w10)
  rw [nMember'.out]
  clear hR
  go_wp2_with fail
  refine (super_GetMember_at 64 K AMember cMember LMember e t u true _ nMember'.out (Kd.C_below CMember.out E.out) MMember.out gMemberMember'.out).mono ?_
  rintro e w11 ⟨rfl, hb⟩
  replace pSuper0 := keepC pSuper0 hb
  replace pSuper1 := keepC pSuper1 hb
  replace pSuper2 := keepC pSuper2 hb
  replace pMark0 := keepC pMark0 hb
  replace pMember0 := keepC pMember0 hb
  replace pMember1 := keepC pMember1 hb
  replace pMember2 := keepC pMember2 hb
  replace qSuperSuper0 := keepC qSuperSuper0 hb
  replace qSuperSuper1 := keepC qSuperSuper1 hb
  replace qSuperSuper2 := keepC qSuperSuper2 hb
  replace qSuperMark0 := keepC qSuperMark0 hb
  replace qSuperMember0 := keepC qSuperMember0 hb
  replace qSuperMember1 := keepC qSuperMember1 hb
  replace qSuperMember2 := keepC qSuperMember2 hb
  replace qMarkMark0 := keepC qMarkMark0 hb
  replace qMarkSuper0 := keepC qMarkSuper0 hb
  replace qMarkSuper1 := keepC qMarkSuper1 hb
  replace qMarkSuper2 := keepC qMarkSuper2 hb
  replace qMarkMember0 := keepC qMarkMember0 hb
  replace qMarkMember1 := keepC qMarkMember1 hb
  replace qMarkMember2 := keepC qMarkMember2 hb
  have B_ := Lib.hid (belC B.out hb)
  clear B
  have B := B_
  clear B_
  have E_ := Lib.hid (belC E.out hb)
  clear E
  have E := E_
  clear E_
  clear hb
  have pSuper0_ := keepO pSuper0 (.cells #[.int .i64 e, .int .i64 t, .int .i64 u] 25)
  replace pSuper0 := pSuper0_
  clear pSuper0_
  have pSuper1_ := keepO pSuper1 (.cells #[.int .i64 e, .int .i64 t, .int .i64 u] 25)
  replace pSuper1 := pSuper1_
  clear pSuper1_
  have pSuper2_ := keepO pSuper2 (.cells #[.int .i64 e, .int .i64 t, .int .i64 u] 25)
  replace pSuper2 := pSuper2_
  clear pSuper2_
  have pMark0_ := keepO pMark0 (.cells #[.int .i64 e, .int .i64 t, .int .i64 u] 25)
  replace pMark0 := pMark0_
  clear pMark0_
  have pMember0_ := keepO pMember0 (.cells #[.int .i64 e, .int .i64 t, .int .i64 u] 25)
  replace pMember0 := pMember0_
  clear pMember0_
  have pMember1_ := keepO pMember1 (.cells #[.int .i64 e, .int .i64 t, .int .i64 u] 25)
  replace pMember1 := pMember1_
  clear pMember1_
  have pMember2_ := keepO pMember2 (.cells #[.int .i64 e, .int .i64 t, .int .i64 u] 25)
  replace pMember2 := pMember2_
  clear pMember2_
  have qSuperSuper0_ := keepO qSuperSuper0 (.cells #[.int .i64 e, .int .i64 t, .int .i64 u] 25)
  replace qSuperSuper0 := qSuperSuper0_
  clear qSuperSuper0_
  have qSuperSuper1_ := keepO qSuperSuper1 (.cells #[.int .i64 e, .int .i64 t, .int .i64 u] 25)
  replace qSuperSuper1 := qSuperSuper1_
  clear qSuperSuper1_
  have qSuperSuper2_ := keepO qSuperSuper2 (.cells #[.int .i64 e, .int .i64 t, .int .i64 u] 25)
  replace qSuperSuper2 := qSuperSuper2_
  clear qSuperSuper2_
  have qSuperMark0_ := keepO qSuperMark0 (.cells #[.int .i64 e, .int .i64 t, .int .i64 u] 25)
  replace qSuperMark0 := qSuperMark0_
  clear qSuperMark0_
  have qSuperMember0_ := keepO qSuperMember0 (.cells #[.int .i64 e, .int .i64 t, .int .i64 u] 25)
  replace qSuperMember0 := qSuperMember0_
  clear qSuperMember0_
  have qSuperMember1_ := keepO qSuperMember1 (.cells #[.int .i64 e, .int .i64 t, .int .i64 u] 25)
  replace qSuperMember1 := qSuperMember1_
  clear qSuperMember1_
  have qSuperMember2_ := keepO qSuperMember2 (.cells #[.int .i64 e, .int .i64 t, .int .i64 u] 25)
  replace qSuperMember2 := qSuperMember2_
  clear qSuperMember2_
  have qMarkMark0_ := keepO qMarkMark0 (.cells #[.int .i64 e, .int .i64 t, .int .i64 u] 25)
  replace qMarkMark0 := qMarkMark0_
  clear qMarkMark0_
  have qMarkSuper0_ := keepO qMarkSuper0 (.cells #[.int .i64 e, .int .i64 t, .int .i64 u] 25)
  replace qMarkSuper0 := qMarkSuper0_
  clear qMarkSuper0_
  have qMarkSuper1_ := keepO qMarkSuper1 (.cells #[.int .i64 e, .int .i64 t, .int .i64 u] 25)
  replace qMarkSuper1 := qMarkSuper1_
  clear qMarkSuper1_
  have qMarkSuper2_ := keepO qMarkSuper2 (.cells #[.int .i64 e, .int .i64 t, .int .i64 u] 25)
  replace qMarkSuper2 := qMarkSuper2_
  clear qMarkSuper2_
  have qMarkMember0_ := keepO qMarkMember0 (.cells #[.int .i64 e, .int .i64 t, .int .i64 u] 25)
  replace qMarkMember0 := qMarkMember0_
  clear qMarkMember0_
  have qMarkMember1_ := keepO qMarkMember1 (.cells #[.int .i64 e, .int .i64 t, .int .i64 u] 25)
  replace qMarkMember1 := qMarkMember1_
  clear qMarkMember1_
  have qMarkMember2_ := keepO qMarkMember2 (.cells #[.int .i64 e, .int .i64 t, .int .i64 u] 25)
  replace qMarkMember2 := qMarkMember2_
  clear qMarkMember2_
  have qMemberMember0 : (World.alloc w11 (.cells #[.int .i64 e, .int .i64 t, .int .i64 u] 25)).cell? ⟨w11.heap.size, 0, none⟩ = some (.int .i64 e) := (blk_cell (blk_new w11 _) 0).trans rfl
  have qMemberMember1 : (World.alloc w11 (.cells #[.int .i64 e, .int .i64 t, .int .i64 u] 25)).cell? ⟨w11.heap.size, 1, none⟩ = some (.int .i64 t) := (blk_cell (blk_new w11 _) 1).trans rfl
  have qMemberMember2 : (World.alloc w11 (.cells #[.int .i64 e, .int .i64 t, .int .i64 u] 25)).cell? ⟨w11.heap.size, 2, none⟩ = some (.int .i64 u) := (blk_cell (blk_new w11 _) 2).trans rfl
  have B_ := Lib.hid (below_alloc B.out (.cells #[.int .i64 e, .int .i64 t, .int .i64 u] 25))
  clear B
  have B := B_
  clear B_
  have E_ := Lib.hid (below_alloc E.out (.cells #[.int .i64 e, .int .i64 t, .int .i64 u] 25))
  clear E
  have E := E_
  clear E_
  go_wp2_with fail
  refine (super_GetSuper_at 64 K AMember cMember LMember 0 0 0 false _ nMember'.out (Kd.C_below CMember.out E.out) MMember.out gMemberSuper'.out).mono ?_
  rintro e w12 ⟨rfl, hb⟩
  replace pSuper0 := keepC pSuper0 hb
  replace pSuper1 := keepC pSuper1 hb
  replace pSuper2 := keepC pSuper2 hb
  replace pMark0 := keepC pMark0 hb
  replace pMember0 := keepC pMember0 hb
  replace pMember1 := keepC pMember1 hb
  replace pMember2 := keepC pMember2 hb
  replace qSuperSuper0 := keepC qSuperSuper0 hb
  replace qSuperSuper1 := keepC qSuperSuper1 hb
  replace qSuperSuper2 := keepC qSuperSuper2 hb
  replace qSuperMark0 := keepC qSuperMark0 hb
  replace qSuperMember0 := keepC qSuperMember0 hb
  replace qSuperMember1 := keepC qSuperMember1 hb
  replace qSuperMember2 := keepC qSuperMember2 hb
  replace qMarkMark0 := keepC qMarkMark0 hb
  replace qMarkSuper0 := keepC qMarkSuper0 hb
  replace qMarkSuper1 := keepC qMarkSuper1 hb
  replace qMarkSuper2 := keepC qMarkSuper2 hb
  replace qMarkMember0 := keepC qMarkMember0 hb
  replace qMarkMember1 := keepC qMarkMember1 hb
  replace qMarkMember2 := keepC qMarkMember2 hb
  replace qMemberMember0 := keepC qMemberMember0 hb
  replace qMemberMember1 := keepC qMemberMember1 hb
  replace qMemberMember2 := keepC qMemberMember2 hb
  have B_ := Lib.hid (belC B.out hb)
  clear B
  have B := B_
  clear B_
  have E_ := Lib.hid (belC E.out hb)
  clear E
  have E := E_
  clear E_
  clear hb
  have pSuper0_ := keepO pSuper0 (.cells #[.int .i64 0, .int .i64 0, .int .i64 0] 40)
  replace pSuper0 := pSuper0_
  clear pSuper0_
  have pSuper1_ := keepO pSuper1 (.cells #[.int .i64 0, .int .i64 0, .int .i64 0] 40)
  replace pSuper1 := pSuper1_
  clear pSuper1_
  have pSuper2_ := keepO pSuper2 (.cells #[.int .i64 0, .int .i64 0, .int .i64 0] 40)
  replace pSuper2 := pSuper2_
  clear pSuper2_
  have pMark0_ := keepO pMark0 (.cells #[.int .i64 0, .int .i64 0, .int .i64 0] 40)
  replace pMark0 := pMark0_
  clear pMark0_
  have pMember0_ := keepO pMember0 (.cells #[.int .i64 0, .int .i64 0, .int .i64 0] 40)
  replace pMember0 := pMember0_
  clear pMember0_
  have pMember1_ := keepO pMember1 (.cells #[.int .i64 0, .int .i64 0, .int .i64 0] 40)
  replace pMember1 := pMember1_
  clear pMember1_
  have pMember2_ := keepO pMember2 (.cells #[.int .i64 0, .int .i64 0, .int .i64 0] 40)
  replace pMember2 := pMember2_
  clear pMember2_
  have qSuperSuper0_ := keepO qSuperSuper0 (.cells #[.int .i64 0, .int .i64 0, .int .i64 0] 40)
  replace qSuperSuper0 := qSuperSuper0_
  clear qSuperSuper0_
  have qSuperSuper1_ := keepO qSuperSuper1 (.cells #[.int .i64 0, .int .i64 0, .int .i64 0] 40)
  replace qSuperSuper1 := qSuperSuper1_
  clear qSuperSuper1_
  have qSuperSuper2_ := keepO qSuperSuper2 (.cells #[.int .i64 0, .int .i64 0, .int .i64 0] 40)
  replace qSuperSuper2 := qSuperSuper2_
  clear qSuperSuper2_
  have qSuperMark0_ := keepO qSuperMark0 (.cells #[.int .i64 0, .int .i64 0, .int .i64 0] 40)
  replace qSuperMark0 := qSuperMark0_
  clear qSuperMark0_
  have qSuperMember0_ := keepO qSuperMember0 (.cells #[.int .i64 0, .int .i64 0, .int .i64 0] 40)
  replace qSuperMember0 := qSuperMember0_
  clear qSuperMember0_
  have qSuperMember1_ := keepO qSuperMember1 (.cells #[.int .i64 0, .int .i64 0, .int .i64 0] 40)
  replace qSuperMember1 := qSuperMember1_
  clear qSuperMember1_
  have qSuperMember2_ := keepO qSuperMember2 (.cells #[.int .i64 0, .int .i64 0, .int .i64 0] 40)
  replace qSuperMember2 := qSuperMember2_
  clear qSuperMember2_
  have qMarkMark0_ := keepO qMarkMark0 (.cells #[.int .i64 0, .int .i64 0, .int .i64 0] 40)
  replace qMarkMark0 := qMarkMark0_
  clear qMarkMark0_
  have qMarkSuper0_ := keepO qMarkSuper0 (.cells #[.int .i64 0, .int .i64 0, .int .i64 0] 40)
  replace qMarkSuper0 := qMarkSuper0_
  clear qMarkSuper0_
  have qMarkSuper1_ := keepO qMarkSuper1 (.cells #[.int .i64 0, .int .i64 0, .int .i64 0] 40)
  replace qMarkSuper1 := qMarkSuper1_
  clear qMarkSuper1_
  have qMarkSuper2_ := keepO qMarkSuper2 (.cells #[.int .i64 0, .int .i64 0, .int .i64 0] 40)
  replace qMarkSuper2 := qMarkSuper2_
  clear qMarkSuper2_
  have qMarkMember0_ := keepO qMarkMember0 (.cells #[.int .i64 0, .int .i64 0, .int .i64 0] 40)
  replace qMarkMember0 := qMarkMember0_
  clear qMarkMember0_
  have qMarkMember1_ := keepO qMarkMember1 (.cells #[.int .i64 0, .int .i64 0, .int .i64 0] 40)
  replace qMarkMember1 := qMarkMember1_
  clear qMarkMember1_
  have qMarkMember2_ := keepO qMarkMember2 (.cells #[.int .i64 0, .int .i64 0, .int .i64 0] 40)
  replace qMarkMember2 := qMarkMember2_
  clear qMarkMember2_
  have qMemberMember0_ := keepO qMemberMember0 (.cells #[.int .i64 0, .int .i64 0, .int .i64 0] 40)
  replace qMemberMember0 := qMemberMember0_
  clear qMemberMember0_
  have qMemberMember1_ := keepO qMemberMember1 (.cells #[.int .i64 0, .int .i64 0, .int .i64 0] 40)
  replace qMemberMember1 := qMemberMember1_
  clear qMemberMember1_
  have qMemberMember2_ := keepO qMemberMember2 (.cells #[.int .i64 0, .int .i64 0, .int .i64 0] 40)
  replace qMemberMember2 := qMemberMember2_
  clear qMemberMember2_
  have qMemberSuper0 : (World.alloc w12 (.cells #[.int .i64 0, .int .i64 0, .int .i64 0] 40)).cell? ⟨w12.heap.size, 0, none⟩ = some (.int .i64 0) := (blk_cell (blk_new w12 _) 0).trans rfl
  have qMemberSuper1 : (World.alloc w12 (.cells #[.int .i64 0, .int .i64 0, .int .i64 0] 40)).cell? ⟨w12.heap.size, 1, none⟩ = some (.int .i64 0) := (blk_cell (blk_new w12 _) 1).trans rfl
  have qMemberSuper2 : (World.alloc w12 (.cells #[.int .i64 0, .int .i64 0, .int .i64 0] 40)).cell? ⟨w12.heap.size, 2, none⟩ = some (.int .i64 0) := (blk_cell (blk_new w12 _) 2).trans rfl
  have B_ := Lib.hid (below_alloc B.out (.cells #[.int .i64 0, .int .i64 0, .int .i64 0] 40))
  clear B
  have B := B_
  clear B_
  have E_ := Lib.hid (below_alloc E.out (.cells #[.int .i64 0, .int .i64 0, .int .i64 0] 40))
  clear E
  have E := E_
  clear E_
  go_wp2_with fail
  refine (super_GetMark_at 64 K AMember cMember LMember 0 false _ nMember'.out (Kd.C_below CMember.out E.out) MMember.out gMemberMark'.out).mono ?_
  rintro e w13 ⟨rfl, hb⟩
  replace pSuper0 := keepC pSuper0 hb
  replace pSuper1 := keepC pSuper1 hb
  replace pSuper2 := keepC pSuper2 hb
  replace pMark0 := keepC pMark0 hb
  replace pMember0 := keepC pMember0 hb
  replace pMember1 := keepC pMember1 hb
  replace pMember2 := keepC pMember2 hb
  replace qSuperSuper0 := keepC qSuperSuper0 hb
  replace qSuperSuper1 := keepC qSuperSuper1 hb
  replace qSuperSuper2 := keepC qSuperSuper2 hb
  replace qSuperMark0 := keepC qSuperMark0 hb
  replace qSuperMember0 := keepC qSuperMember0 hb
  replace qSuperMember1 := keepC qSuperMember1 hb
  replace qSuperMember2 := keepC qSuperMember2 hb
  replace qMarkMark0 := keepC qMarkMark0 hb
  replace qMarkSuper0 := keepC qMarkSuper0 hb
  replace qMarkSuper1 := keepC qMarkSuper1 hb
  replace qMarkSuper2 := keepC qMarkSuper2 hb
  replace qMarkMember0 := keepC qMarkMember0 hb
  replace qMarkMember1 := keepC qMarkMember1 hb
  replace qMarkMember2 := keepC qMarkMember2 hb
  replace qMemberMember0 := keepC qMemberMember0 hb
  replace qMemberMember1 := keepC qMemberMember1 hb
  replace qMemberMember2 := keepC qMemberMember2 hb
  replace qMemberSuper0 := keepC qMemberSuper0 hb
  replace qMemberSuper1 := keepC qMemberSuper1 hb
  replace qMemberSuper2 := keepC qMemberSuper2 hb
  have B_ := Lib.hid (belC B.out hb)
  clear B
  have B := B_
  clear B_
  have E_ := Lib.hid (belC E.out hb)
  clear E
  have E := E_
  clear E_
  clear hb
  have pSuper0_ := keepO pSuper0 (.cells #[.int .i64 0] 23)
  replace pSuper0 := pSuper0_
  clear pSuper0_
  have pSuper1_ := keepO pSuper1 (.cells #[.int .i64 0] 23)
  replace pSuper1 := pSuper1_
  clear pSuper1_
  have pSuper2_ := keepO pSuper2 (.cells #[.int .i64 0] 23)
  replace pSuper2 := pSuper2_
  clear pSuper2_
  have pMark0_ := keepO pMark0 (.cells #[.int .i64 0] 23)
  replace pMark0 := pMark0_
  clear pMark0_
  have pMember0_ := keepO pMember0 (.cells #[.int .i64 0] 23)
  replace pMember0 := pMember0_
  clear pMember0_
  have pMember1_ := keepO pMember1 (.cells #[.int .i64 0] 23)
  replace pMember1 := pMember1_
  clear pMember1_
  have pMember2_ := keepO pMember2 (.cells #[.int .i64 0] 23)
  replace pMember2 := pMember2_
  clear pMember2_
  have qSuperSuper0_ := keepO qSuperSuper0 (.cells #[.int .i64 0] 23)
  replace qSuperSuper0 := qSuperSuper0_
  clear qSuperSuper0_
  have qSuperSuper1_ := keepO qSuperSuper1 (.cells #[.int .i64 0] 23)
  replace qSuperSuper1 := qSuperSuper1_
  clear qSuperSuper1_
  have qSuperSuper2_ := keepO qSuperSuper2 (.cells #[.int .i64 0] 23)
  replace qSuperSuper2 := qSuperSuper2_
  clear qSuperSuper2_
  have qSuperMark0_ := keepO qSuperMark0 (.cells #[.int .i64 0] 23)
  replace qSuperMark0 := qSuperMark0_
  clear qSuperMark0_
  have qSuperMember0_ := keepO qSuperMember0 (.cells #[.int .i64 0] 23)
  replace qSuperMember0 := qSuperMember0_
  clear qSuperMember0_
  have qSuperMember1_ := keepO qSuperMember1 (.cells #[.int .i64 0] 23)
  replace qSuperMember1 := qSuperMember1_
  clear qSuperMember1_
  have qSuperMember2_ := keepO qSuperMember2 (.cells #[.int .i64 0] 23)
  replace qSuperMember2 := qSuperMember2_
  clear qSuperMember2_
  have qMarkMark0_ := keepO qMarkMark0 (.cells #[.int .i64 0] 23)
  replace qMarkMark0 := qMarkMark0_
  clear qMarkMark0_
  have qMarkSuper0_ := keepO qMarkSuper0 (.cells #[.int .i64 0] 23)
  replace qMarkSuper0 := qMarkSuper0_
  clear qMarkSuper0_
  have qMarkSuper1_ := keepO qMarkSuper1 (.cells #[.int .i64 0] 23)
  replace qMarkSuper1 := qMarkSuper1_
  clear qMarkSuper1_
  have qMarkSuper2_ := keepO qMarkSuper2 (.cells #[.int .i64 0] 23)
  replace qMarkSuper2 := qMarkSuper2_
  clear qMarkSuper2_
  have qMarkMember0_ := keepO qMarkMember0 (.cells #[.int .i64 0] 23)
  replace qMarkMember0 := qMarkMember0_
  clear qMarkMember0_
  have qMarkMember1_ := keepO qMarkMember1 (.cells #[.int .i64 0] 23)
  replace qMarkMember1 := qMarkMember1_
  clear qMarkMember1_
  have qMarkMember2_ := keepO qMarkMember2 (.cells #[.int .i64 0] 23)
  replace qMarkMember2 := qMarkMember2_
  clear qMarkMember2_
  have qMemberMember0_ := keepO qMemberMember0 (.cells #[.int .i64 0] 23)
  replace qMemberMember0 := qMemberMember0_
  clear qMemberMember0_
  have qMemberMember1_ := keepO qMemberMember1 (.cells #[.int .i64 0] 23)
  replace qMemberMember1 := qMemberMember1_
  clear qMemberMember1_
  have qMemberMember2_ := keepO qMemberMember2 (.cells #[.int .i64 0] 23)
  replace qMemberMember2 := qMemberMember2_
  clear qMemberMember2_
  have qMemberSuper0_ := keepO qMemberSuper0 (.cells #[.int .i64 0] 23)
  replace qMemberSuper0 := qMemberSuper0_
  clear qMemberSuper0_
  have qMemberSuper1_ := keepO qMemberSuper1 (.cells #[.int .i64 0] 23)
  replace qMemberSuper1 := qMemberSuper1_
  clear qMemberSuper1_
  have qMemberSuper2_ := keepO qMemberSuper2 (.cells #[.int .i64 0] 23)
  replace qMemberSuper2 := qMemberSuper2_
  clear qMemberSuper2_
  have qMemberMark0 : (World.alloc w13 (.cells #[.int .i64 0] 23)).cell? ⟨w13.heap.size, 0, none⟩ = some (.int .i64 0) := (blk_cell (blk_new w13 _) 0).trans rfl
  have B_ := Lib.hid (below_alloc B.out (.cells #[.int .i64 0] 23))
  clear B
  have B := B_
  clear B_
  have E_ := Lib.hid (below_alloc E.out (.cells #[.int .i64 0] 23))
  clear E
  have E := E_
  clear E_
  clear E CMember MMember
  go_wp2
  go_ret
  exact ⟨rfl, B.out⟩
set_option maxHeartbeats 1000000 in
theorem walk_ttf (K : Nat) (d r s n e t u : Int) (LSuper : List Int) (hSuper : super_PutSuper.f K d r s = some (LSuper, true)) (nSuper : LSuper.length = 64) (gSuperSuper : super_GetSuper.f K LSuper = some (d, r, s, true)) (gSuperMark : super_GetMark.f K LSuper = some (0, false)) (gSuperMember : super_GetMember.f K LSuper = some (0, 0, 0, false)) (LMark : List Int) (hMark : super_PutMark.f K n = some (LMark, true)) (nMark : LMark.length = 64) (gMarkMark : super_GetMark.f K LMark = some (n, true)) (gMarkSuper : super_GetSuper.f K LMark = some (0, 0, 0, false)) (gMarkMember : super_GetMember.f K LMark = some (0, 0, 0, false)) (hMember : super_PutMember.f K e t u = some ([], false)) (w : World) (halive : morainelaw05_alive.f K = some true) :
    Calls Tryd.prog 6 #[.agg #[.int .i64 d, .int .i64 r, .int .i64 s], .agg #[.int .i64 n], .agg #[.int .i64 e, .int .i64 t, .int .i64 u]] w fun e w' => e = .returned (.bool true) ∧ Below w.heap.size w w' := by
  have halive' := Lib.hid halive
  have hSuper' := Lib.hid hSuper
  have nSuper' := Lib.hid nSuper
  have gSuperSuper' := Lib.hid gSuperSuper
  have gSuperMark' := Lib.hid gSuperMark
  have gSuperMember' := Lib.hid gSuperMember
  have hMark' := Lib.hid hMark
  have nMark' := Lib.hid nMark
  have gMarkMark' := Lib.hid gMarkMark
  have gMarkSuper' := Lib.hid gMarkSuper
  have gMarkMember' := Lib.hid gMarkMember
  have hMember' := Lib.hid hMember
  clear halive hSuper nSuper gSuperSuper gSuperMark gSuperMember hMark nMark gMarkMark gMarkSuper gMarkMember hMember
  have B := Lib.hid (Below.refl w.heap.size w)
  go_enter Tryd.func6, Tryd.ntmps6
  have pSuper0 : (World.alloc w (.cells #[.int .i64 d, .int .i64 r, .int .i64 s] 40)).cell? ⟨w.heap.size, 0, none⟩ = some (.int .i64 d) := (blk_cell (blk_new w _) 0).trans rfl
  have pSuper1 : (World.alloc w (.cells #[.int .i64 d, .int .i64 r, .int .i64 s] 40)).cell? ⟨w.heap.size, 1, none⟩ = some (.int .i64 r) := (blk_cell (blk_new w _) 1).trans rfl
  have pSuper2 : (World.alloc w (.cells #[.int .i64 d, .int .i64 r, .int .i64 s] 40)).cell? ⟨w.heap.size, 2, none⟩ = some (.int .i64 s) := (blk_cell (blk_new w _) 2).trans rfl
  have B_ := Lib.hid (below_alloc B.out (.cells #[.int .i64 d, .int .i64 r, .int .i64 s] 40))
  clear B
  have B := B_
  clear B_
  have pSuper0_ := keepO pSuper0 (.cells #[.int .i64 n] 23)
  replace pSuper0 := pSuper0_
  clear pSuper0_
  have pSuper1_ := keepO pSuper1 (.cells #[.int .i64 n] 23)
  replace pSuper1 := pSuper1_
  clear pSuper1_
  have pSuper2_ := keepO pSuper2 (.cells #[.int .i64 n] 23)
  replace pSuper2 := pSuper2_
  clear pSuper2_
  have pMark0 : (World.alloc (World.alloc w (.cells #[.int .i64 d, .int .i64 r, .int .i64 s] 40)) (.cells #[.int .i64 n] 23)).cell? ⟨w.heap.size + 1, 0, none⟩ = some (.int .i64 n) := by have h_ := (blk_cell (blk_new (World.alloc w (.cells #[.int .i64 d, .int .i64 r, .int .i64 s] 40)) (.cells #[.int .i64 n] 23)) 0).trans rfl; simp only [World.size_alloc] at h_; exact h_
  have B_ := Lib.hid (below_alloc B.out (.cells #[.int .i64 n] 23))
  clear B
  have B := B_
  clear B_
  have pSuper0_ := keepO pSuper0 (.cells #[.int .i64 e, .int .i64 t, .int .i64 u] 25)
  replace pSuper0 := pSuper0_
  clear pSuper0_
  have pSuper1_ := keepO pSuper1 (.cells #[.int .i64 e, .int .i64 t, .int .i64 u] 25)
  replace pSuper1 := pSuper1_
  clear pSuper1_
  have pSuper2_ := keepO pSuper2 (.cells #[.int .i64 e, .int .i64 t, .int .i64 u] 25)
  replace pSuper2 := pSuper2_
  clear pSuper2_
  have pMark0_ := keepO pMark0 (.cells #[.int .i64 e, .int .i64 t, .int .i64 u] 25)
  replace pMark0 := pMark0_
  clear pMark0_
  have pMember0 : (World.alloc (World.alloc (World.alloc w (.cells #[.int .i64 d, .int .i64 r, .int .i64 s] 40)) (.cells #[.int .i64 n] 23)) (.cells #[.int .i64 e, .int .i64 t, .int .i64 u] 25)).cell? ⟨w.heap.size + 1 + 1, 0, none⟩ = some (.int .i64 e) := by have h_ := (blk_cell (blk_new (World.alloc (World.alloc w (.cells #[.int .i64 d, .int .i64 r, .int .i64 s] 40)) (.cells #[.int .i64 n] 23)) (.cells #[.int .i64 e, .int .i64 t, .int .i64 u] 25)) 0).trans rfl; simp only [World.size_alloc] at h_; exact h_
  have pMember1 : (World.alloc (World.alloc (World.alloc w (.cells #[.int .i64 d, .int .i64 r, .int .i64 s] 40)) (.cells #[.int .i64 n] 23)) (.cells #[.int .i64 e, .int .i64 t, .int .i64 u] 25)).cell? ⟨w.heap.size + 1 + 1, 1, none⟩ = some (.int .i64 t) := by have h_ := (blk_cell (blk_new (World.alloc (World.alloc w (.cells #[.int .i64 d, .int .i64 r, .int .i64 s] 40)) (.cells #[.int .i64 n] 23)) (.cells #[.int .i64 e, .int .i64 t, .int .i64 u] 25)) 1).trans rfl; simp only [World.size_alloc] at h_; exact h_
  have pMember2 : (World.alloc (World.alloc (World.alloc w (.cells #[.int .i64 d, .int .i64 r, .int .i64 s] 40)) (.cells #[.int .i64 n] 23)) (.cells #[.int .i64 e, .int .i64 t, .int .i64 u] 25)).cell? ⟨w.heap.size + 1 + 1, 2, none⟩ = some (.int .i64 u) := by have h_ := (blk_cell (blk_new (World.alloc (World.alloc w (.cells #[.int .i64 d, .int .i64 r, .int .i64 s] 40)) (.cells #[.int .i64 n] 23)) (.cells #[.int .i64 e, .int .i64 t, .int .i64 u] 25)) 2).trans rfl; simp only [World.size_alloc] at h_; exact h_
  have B_ := Lib.hid (below_alloc B.out (.cells #[.int .i64 e, .int .i64 t, .int .i64 u] 25))
  clear B
  have B := B_
  clear B_
  go_wp2_with fail
  refine (morainelaw05_alive.calls K true _ halive'.out).mono ?_
  rintro e w1 ⟨rfl, hb⟩
  replace pSuper0 := keepC pSuper0 hb
  replace pSuper1 := keepC pSuper1 hb
  replace pSuper2 := keepC pSuper2 hb
  replace pMark0 := keepC pMark0 hb
  replace pMember0 := keepC pMember0 hb
  replace pMember1 := keepC pMember1 hb
  replace pMember2 := keepC pMember2 hb
  have B_ := Lib.hid (belC B.out hb)
  clear B
  have B := B_
  clear B_
  clear hb
  go_wp2_with fail
  refine (super_PutSuper.calls K d r s LSuper true _ hSuper'.out).mono ?_
  rintro e w2 ⟨v0, rfl, hR, hb⟩
  obtain ⟨ASuper, cSuper, rfl⟩ := Kd.R_slice hR
  replace pSuper0 := keepC pSuper0 hb
  replace pSuper1 := keepC pSuper1 hb
  replace pSuper2 := keepC pSuper2 hb
  replace pMark0 := keepC pMark0 hb
  replace pMember0 := keepC pMember0 hb
  replace pMember1 := keepC pMember1 hb
  replace pMember2 := keepC pMember2 hb
  have B_ := Lib.hid (belC B.out hb)
  clear B
  have B := B_
  clear B_
  clear hb
  have CSuper := Lib.hid (Kd.R_reads' hR).2.2
  have MSuper := Lib.hid (Kd.R_reads' hR).2.1
  have E := Lib.hid (Below.refl w2.heap.size w2)
  rw [nSuper'.out]
  clear hR
  go_wp2_with fail
  refine (super_GetSuper_at 64 K ASuper cSuper LSuper d r s true _ nSuper'.out (Kd.C_below CSuper.out E.out) MSuper.out gSuperSuper'.out).mono ?_
  rintro e w3 ⟨rfl, hb⟩
  replace pSuper0 := keepC pSuper0 hb
  replace pSuper1 := keepC pSuper1 hb
  replace pSuper2 := keepC pSuper2 hb
  replace pMark0 := keepC pMark0 hb
  replace pMember0 := keepC pMember0 hb
  replace pMember1 := keepC pMember1 hb
  replace pMember2 := keepC pMember2 hb
  have B_ := Lib.hid (belC B.out hb)
  clear B
  have B := B_
  clear B_
  have E_ := Lib.hid (belC E.out hb)
  clear E
  have E := E_
  clear E_
  clear hb
  have pSuper0_ := keepO pSuper0 (.cells #[.int .i64 d, .int .i64 r, .int .i64 s] 40)
  replace pSuper0 := pSuper0_
  clear pSuper0_
  have pSuper1_ := keepO pSuper1 (.cells #[.int .i64 d, .int .i64 r, .int .i64 s] 40)
  replace pSuper1 := pSuper1_
  clear pSuper1_
  have pSuper2_ := keepO pSuper2 (.cells #[.int .i64 d, .int .i64 r, .int .i64 s] 40)
  replace pSuper2 := pSuper2_
  clear pSuper2_
  have pMark0_ := keepO pMark0 (.cells #[.int .i64 d, .int .i64 r, .int .i64 s] 40)
  replace pMark0 := pMark0_
  clear pMark0_
  have pMember0_ := keepO pMember0 (.cells #[.int .i64 d, .int .i64 r, .int .i64 s] 40)
  replace pMember0 := pMember0_
  clear pMember0_
  have pMember1_ := keepO pMember1 (.cells #[.int .i64 d, .int .i64 r, .int .i64 s] 40)
  replace pMember1 := pMember1_
  clear pMember1_
  have pMember2_ := keepO pMember2 (.cells #[.int .i64 d, .int .i64 r, .int .i64 s] 40)
  replace pMember2 := pMember2_
  clear pMember2_
  have qSuperSuper0 : (World.alloc w3 (.cells #[.int .i64 d, .int .i64 r, .int .i64 s] 40)).cell? ⟨w3.heap.size, 0, none⟩ = some (.int .i64 d) := (blk_cell (blk_new w3 _) 0).trans rfl
  have qSuperSuper1 : (World.alloc w3 (.cells #[.int .i64 d, .int .i64 r, .int .i64 s] 40)).cell? ⟨w3.heap.size, 1, none⟩ = some (.int .i64 r) := (blk_cell (blk_new w3 _) 1).trans rfl
  have qSuperSuper2 : (World.alloc w3 (.cells #[.int .i64 d, .int .i64 r, .int .i64 s] 40)).cell? ⟨w3.heap.size, 2, none⟩ = some (.int .i64 s) := (blk_cell (blk_new w3 _) 2).trans rfl
  have B_ := Lib.hid (below_alloc B.out (.cells #[.int .i64 d, .int .i64 r, .int .i64 s] 40))
  clear B
  have B := B_
  clear B_
  have E_ := Lib.hid (below_alloc E.out (.cells #[.int .i64 d, .int .i64 r, .int .i64 s] 40))
  clear E
  have E := E_
  clear E_
  go_wp2_with fail
  refine (super_GetMark_at 64 K ASuper cSuper LSuper 0 false _ nSuper'.out (Kd.C_below CSuper.out E.out) MSuper.out gSuperMark'.out).mono ?_
  rintro e w4 ⟨rfl, hb⟩
  replace pSuper0 := keepC pSuper0 hb
  replace pSuper1 := keepC pSuper1 hb
  replace pSuper2 := keepC pSuper2 hb
  replace pMark0 := keepC pMark0 hb
  replace pMember0 := keepC pMember0 hb
  replace pMember1 := keepC pMember1 hb
  replace pMember2 := keepC pMember2 hb
  replace qSuperSuper0 := keepC qSuperSuper0 hb
  replace qSuperSuper1 := keepC qSuperSuper1 hb
  replace qSuperSuper2 := keepC qSuperSuper2 hb
  have B_ := Lib.hid (belC B.out hb)
  clear B
  have B := B_
  clear B_
  have E_ := Lib.hid (belC E.out hb)
  clear E
  have E := E_
  clear E_
  clear hb
  have pSuper0_ := keepO pSuper0 (.cells #[.int .i64 0] 23)
  replace pSuper0 := pSuper0_
  clear pSuper0_
  have pSuper1_ := keepO pSuper1 (.cells #[.int .i64 0] 23)
  replace pSuper1 := pSuper1_
  clear pSuper1_
  have pSuper2_ := keepO pSuper2 (.cells #[.int .i64 0] 23)
  replace pSuper2 := pSuper2_
  clear pSuper2_
  have pMark0_ := keepO pMark0 (.cells #[.int .i64 0] 23)
  replace pMark0 := pMark0_
  clear pMark0_
  have pMember0_ := keepO pMember0 (.cells #[.int .i64 0] 23)
  replace pMember0 := pMember0_
  clear pMember0_
  have pMember1_ := keepO pMember1 (.cells #[.int .i64 0] 23)
  replace pMember1 := pMember1_
  clear pMember1_
  have pMember2_ := keepO pMember2 (.cells #[.int .i64 0] 23)
  replace pMember2 := pMember2_
  clear pMember2_
  have qSuperSuper0_ := keepO qSuperSuper0 (.cells #[.int .i64 0] 23)
  replace qSuperSuper0 := qSuperSuper0_
  clear qSuperSuper0_
  have qSuperSuper1_ := keepO qSuperSuper1 (.cells #[.int .i64 0] 23)
  replace qSuperSuper1 := qSuperSuper1_
  clear qSuperSuper1_
  have qSuperSuper2_ := keepO qSuperSuper2 (.cells #[.int .i64 0] 23)
  replace qSuperSuper2 := qSuperSuper2_
  clear qSuperSuper2_
  have qSuperMark0 : (World.alloc w4 (.cells #[.int .i64 0] 23)).cell? ⟨w4.heap.size, 0, none⟩ = some (.int .i64 0) := (blk_cell (blk_new w4 _) 0).trans rfl
  have B_ := Lib.hid (below_alloc B.out (.cells #[.int .i64 0] 23))
  clear B
  have B := B_
  clear B_
  have E_ := Lib.hid (below_alloc E.out (.cells #[.int .i64 0] 23))
  clear E
  have E := E_
  clear E_
  go_wp2_with fail
  refine (super_GetMember_at 64 K ASuper cSuper LSuper 0 0 0 false _ nSuper'.out (Kd.C_below CSuper.out E.out) MSuper.out gSuperMember'.out).mono ?_
  rintro e w5 ⟨rfl, hb⟩
  replace pSuper0 := keepC pSuper0 hb
  replace pSuper1 := keepC pSuper1 hb
  replace pSuper2 := keepC pSuper2 hb
  replace pMark0 := keepC pMark0 hb
  replace pMember0 := keepC pMember0 hb
  replace pMember1 := keepC pMember1 hb
  replace pMember2 := keepC pMember2 hb
  replace qSuperSuper0 := keepC qSuperSuper0 hb
  replace qSuperSuper1 := keepC qSuperSuper1 hb
  replace qSuperSuper2 := keepC qSuperSuper2 hb
  replace qSuperMark0 := keepC qSuperMark0 hb
  have B_ := Lib.hid (belC B.out hb)
  clear B
  have B := B_
  clear B_
  have E_ := Lib.hid (belC E.out hb)
  clear E
  have E := E_
  clear E_
  clear hb
  have pSuper0_ := keepO pSuper0 (.cells #[.int .i64 0, .int .i64 0, .int .i64 0] 25)
  replace pSuper0 := pSuper0_
  clear pSuper0_
  have pSuper1_ := keepO pSuper1 (.cells #[.int .i64 0, .int .i64 0, .int .i64 0] 25)
  replace pSuper1 := pSuper1_
  clear pSuper1_
  have pSuper2_ := keepO pSuper2 (.cells #[.int .i64 0, .int .i64 0, .int .i64 0] 25)
  replace pSuper2 := pSuper2_
  clear pSuper2_
  have pMark0_ := keepO pMark0 (.cells #[.int .i64 0, .int .i64 0, .int .i64 0] 25)
  replace pMark0 := pMark0_
  clear pMark0_
  have pMember0_ := keepO pMember0 (.cells #[.int .i64 0, .int .i64 0, .int .i64 0] 25)
  replace pMember0 := pMember0_
  clear pMember0_
  have pMember1_ := keepO pMember1 (.cells #[.int .i64 0, .int .i64 0, .int .i64 0] 25)
  replace pMember1 := pMember1_
  clear pMember1_
  have pMember2_ := keepO pMember2 (.cells #[.int .i64 0, .int .i64 0, .int .i64 0] 25)
  replace pMember2 := pMember2_
  clear pMember2_
  have qSuperSuper0_ := keepO qSuperSuper0 (.cells #[.int .i64 0, .int .i64 0, .int .i64 0] 25)
  replace qSuperSuper0 := qSuperSuper0_
  clear qSuperSuper0_
  have qSuperSuper1_ := keepO qSuperSuper1 (.cells #[.int .i64 0, .int .i64 0, .int .i64 0] 25)
  replace qSuperSuper1 := qSuperSuper1_
  clear qSuperSuper1_
  have qSuperSuper2_ := keepO qSuperSuper2 (.cells #[.int .i64 0, .int .i64 0, .int .i64 0] 25)
  replace qSuperSuper2 := qSuperSuper2_
  clear qSuperSuper2_
  have qSuperMark0_ := keepO qSuperMark0 (.cells #[.int .i64 0, .int .i64 0, .int .i64 0] 25)
  replace qSuperMark0 := qSuperMark0_
  clear qSuperMark0_
  have qSuperMember0 : (World.alloc w5 (.cells #[.int .i64 0, .int .i64 0, .int .i64 0] 25)).cell? ⟨w5.heap.size, 0, none⟩ = some (.int .i64 0) := (blk_cell (blk_new w5 _) 0).trans rfl
  have qSuperMember1 : (World.alloc w5 (.cells #[.int .i64 0, .int .i64 0, .int .i64 0] 25)).cell? ⟨w5.heap.size, 1, none⟩ = some (.int .i64 0) := (blk_cell (blk_new w5 _) 1).trans rfl
  have qSuperMember2 : (World.alloc w5 (.cells #[.int .i64 0, .int .i64 0, .int .i64 0] 25)).cell? ⟨w5.heap.size, 2, none⟩ = some (.int .i64 0) := (blk_cell (blk_new w5 _) 2).trans rfl
  have B_ := Lib.hid (below_alloc B.out (.cells #[.int .i64 0, .int .i64 0, .int .i64 0] 25))
  clear B
  have B := B_
  clear B_
  have E_ := Lib.hid (below_alloc E.out (.cells #[.int .i64 0, .int .i64 0, .int .i64 0] 25))
  clear E
  have E := E_
  clear E_
  clear E CSuper MSuper
  go_wp2_with fail
  refine (super_PutMark.calls K n LMark true _ hMark'.out).mono ?_
  rintro e w6 ⟨v0, rfl, hR, hb⟩
  obtain ⟨AMark, cMark, rfl⟩ := Kd.R_slice hR
  replace pSuper0 := keepC pSuper0 hb
  replace pSuper1 := keepC pSuper1 hb
  replace pSuper2 := keepC pSuper2 hb
  replace pMark0 := keepC pMark0 hb
  replace pMember0 := keepC pMember0 hb
  replace pMember1 := keepC pMember1 hb
  replace pMember2 := keepC pMember2 hb
  replace qSuperSuper0 := keepC qSuperSuper0 hb
  replace qSuperSuper1 := keepC qSuperSuper1 hb
  replace qSuperSuper2 := keepC qSuperSuper2 hb
  replace qSuperMark0 := keepC qSuperMark0 hb
  replace qSuperMember0 := keepC qSuperMember0 hb
  replace qSuperMember1 := keepC qSuperMember1 hb
  replace qSuperMember2 := keepC qSuperMember2 hb
  have B_ := Lib.hid (belC B.out hb)
  clear B
  have B := B_
  clear B_
  clear hb
  have CMark := Lib.hid (Kd.R_reads' hR).2.2
  have MMark := Lib.hid (Kd.R_reads' hR).2.1
  have E := Lib.hid (Below.refl w6.heap.size w6)
  rw [nMark'.out]
  clear hR
  go_wp2_with fail
  refine (super_GetMark_at 64 K AMark cMark LMark n true _ nMark'.out (Kd.C_below CMark.out E.out) MMark.out gMarkMark'.out).mono ?_
  rintro e w7 ⟨rfl, hb⟩
  replace pSuper0 := keepC pSuper0 hb
  replace pSuper1 := keepC pSuper1 hb
  replace pSuper2 := keepC pSuper2 hb
  replace pMark0 := keepC pMark0 hb
  replace pMember0 := keepC pMember0 hb
  replace pMember1 := keepC pMember1 hb
  replace pMember2 := keepC pMember2 hb
  replace qSuperSuper0 := keepC qSuperSuper0 hb
  replace qSuperSuper1 := keepC qSuperSuper1 hb
  replace qSuperSuper2 := keepC qSuperSuper2 hb
  replace qSuperMark0 := keepC qSuperMark0 hb
  replace qSuperMember0 := keepC qSuperMember0 hb
  replace qSuperMember1 := keepC qSuperMember1 hb
  replace qSuperMember2 := keepC qSuperMember2 hb
  have B_ := Lib.hid (belC B.out hb)
  clear B
  have B := B_
  clear B_
  have E_ := Lib.hid (belC E.out hb)
  clear E
  have E := E_
  clear E_
  clear hb
  have pSuper0_ := keepO pSuper0 (.cells #[.int .i64 n] 23)
  replace pSuper0 := pSuper0_
  clear pSuper0_
  have pSuper1_ := keepO pSuper1 (.cells #[.int .i64 n] 23)
  replace pSuper1 := pSuper1_
  clear pSuper1_
  have pSuper2_ := keepO pSuper2 (.cells #[.int .i64 n] 23)
  replace pSuper2 := pSuper2_
  clear pSuper2_
  have pMark0_ := keepO pMark0 (.cells #[.int .i64 n] 23)
  replace pMark0 := pMark0_
  clear pMark0_
  have pMember0_ := keepO pMember0 (.cells #[.int .i64 n] 23)
  replace pMember0 := pMember0_
  clear pMember0_
  have pMember1_ := keepO pMember1 (.cells #[.int .i64 n] 23)
  replace pMember1 := pMember1_
  clear pMember1_
  have pMember2_ := keepO pMember2 (.cells #[.int .i64 n] 23)
  replace pMember2 := pMember2_
  clear pMember2_
  have qSuperSuper0_ := keepO qSuperSuper0 (.cells #[.int .i64 n] 23)
  replace qSuperSuper0 := qSuperSuper0_
  clear qSuperSuper0_
  have qSuperSuper1_ := keepO qSuperSuper1 (.cells #[.int .i64 n] 23)
  replace qSuperSuper1 := qSuperSuper1_
  clear qSuperSuper1_
  have qSuperSuper2_ := keepO qSuperSuper2 (.cells #[.int .i64 n] 23)
  replace qSuperSuper2 := qSuperSuper2_
  clear qSuperSuper2_
  have qSuperMark0_ := keepO qSuperMark0 (.cells #[.int .i64 n] 23)
  replace qSuperMark0 := qSuperMark0_
  clear qSuperMark0_
  have qSuperMember0_ := keepO qSuperMember0 (.cells #[.int .i64 n] 23)
  replace qSuperMember0 := qSuperMember0_
  clear qSuperMember0_
  have qSuperMember1_ := keepO qSuperMember1 (.cells #[.int .i64 n] 23)
  replace qSuperMember1 := qSuperMember1_
  clear qSuperMember1_
  have qSuperMember2_ := keepO qSuperMember2 (.cells #[.int .i64 n] 23)
  replace qSuperMember2 := qSuperMember2_
  clear qSuperMember2_
  have qMarkMark0 : (World.alloc w7 (.cells #[.int .i64 n] 23)).cell? ⟨w7.heap.size, 0, none⟩ = some (.int .i64 n) := (blk_cell (blk_new w7 _) 0).trans rfl
  have B_ := Lib.hid (below_alloc B.out (.cells #[.int .i64 n] 23))
  clear B
  have B := B_
  clear B_
  have E_ := Lib.hid (below_alloc E.out (.cells #[.int .i64 n] 23))
  clear E
  have E := E_
  clear E_
  go_wp2_with fail
  refine (super_GetSuper_at 64 K AMark cMark LMark 0 0 0 false _ nMark'.out (Kd.C_below CMark.out E.out) MMark.out gMarkSuper'.out).mono ?_
  rintro e w8 ⟨rfl, hb⟩
  replace pSuper0 := keepC pSuper0 hb
  replace pSuper1 := keepC pSuper1 hb
  replace pSuper2 := keepC pSuper2 hb
  replace pMark0 := keepC pMark0 hb
  replace pMember0 := keepC pMember0 hb
  replace pMember1 := keepC pMember1 hb
  replace pMember2 := keepC pMember2 hb
  replace qSuperSuper0 := keepC qSuperSuper0 hb
  replace qSuperSuper1 := keepC qSuperSuper1 hb
  replace qSuperSuper2 := keepC qSuperSuper2 hb
  replace qSuperMark0 := keepC qSuperMark0 hb
  replace qSuperMember0 := keepC qSuperMember0 hb
  replace qSuperMember1 := keepC qSuperMember1 hb
  replace qSuperMember2 := keepC qSuperMember2 hb
  replace qMarkMark0 := keepC qMarkMark0 hb
  have B_ := Lib.hid (belC B.out hb)
  clear B
  have B := B_
  clear B_
  have E_ := Lib.hid (belC E.out hb)
  clear E
  have E := E_
  clear E_
  clear hb
  have pSuper0_ := keepO pSuper0 (.cells #[.int .i64 0, .int .i64 0, .int .i64 0] 40)
  replace pSuper0 := pSuper0_
  clear pSuper0_
  have pSuper1_ := keepO pSuper1 (.cells #[.int .i64 0, .int .i64 0, .int .i64 0] 40)
  replace pSuper1 := pSuper1_
  clear pSuper1_
  have pSuper2_ := keepO pSuper2 (.cells #[.int .i64 0, .int .i64 0, .int .i64 0] 40)
  replace pSuper2 := pSuper2_
  clear pSuper2_
  have pMark0_ := keepO pMark0 (.cells #[.int .i64 0, .int .i64 0, .int .i64 0] 40)
  replace pMark0 := pMark0_
  clear pMark0_
  have pMember0_ := keepO pMember0 (.cells #[.int .i64 0, .int .i64 0, .int .i64 0] 40)
  replace pMember0 := pMember0_
  clear pMember0_
  have pMember1_ := keepO pMember1 (.cells #[.int .i64 0, .int .i64 0, .int .i64 0] 40)
  replace pMember1 := pMember1_
  clear pMember1_
  have pMember2_ := keepO pMember2 (.cells #[.int .i64 0, .int .i64 0, .int .i64 0] 40)
  replace pMember2 := pMember2_
  clear pMember2_
  have qSuperSuper0_ := keepO qSuperSuper0 (.cells #[.int .i64 0, .int .i64 0, .int .i64 0] 40)
  replace qSuperSuper0 := qSuperSuper0_
  clear qSuperSuper0_
  have qSuperSuper1_ := keepO qSuperSuper1 (.cells #[.int .i64 0, .int .i64 0, .int .i64 0] 40)
  replace qSuperSuper1 := qSuperSuper1_
  clear qSuperSuper1_
  have qSuperSuper2_ := keepO qSuperSuper2 (.cells #[.int .i64 0, .int .i64 0, .int .i64 0] 40)
  replace qSuperSuper2 := qSuperSuper2_
  clear qSuperSuper2_
  have qSuperMark0_ := keepO qSuperMark0 (.cells #[.int .i64 0, .int .i64 0, .int .i64 0] 40)
  replace qSuperMark0 := qSuperMark0_
  clear qSuperMark0_
  have qSuperMember0_ := keepO qSuperMember0 (.cells #[.int .i64 0, .int .i64 0, .int .i64 0] 40)
  replace qSuperMember0 := qSuperMember0_
  clear qSuperMember0_
  have qSuperMember1_ := keepO qSuperMember1 (.cells #[.int .i64 0, .int .i64 0, .int .i64 0] 40)
  replace qSuperMember1 := qSuperMember1_
  clear qSuperMember1_
  have qSuperMember2_ := keepO qSuperMember2 (.cells #[.int .i64 0, .int .i64 0, .int .i64 0] 40)
  replace qSuperMember2 := qSuperMember2_
  clear qSuperMember2_
  have qMarkMark0_ := keepO qMarkMark0 (.cells #[.int .i64 0, .int .i64 0, .int .i64 0] 40)
  replace qMarkMark0 := qMarkMark0_
  clear qMarkMark0_
  have qMarkSuper0 : (World.alloc w8 (.cells #[.int .i64 0, .int .i64 0, .int .i64 0] 40)).cell? ⟨w8.heap.size, 0, none⟩ = some (.int .i64 0) := (blk_cell (blk_new w8 _) 0).trans rfl
  have qMarkSuper1 : (World.alloc w8 (.cells #[.int .i64 0, .int .i64 0, .int .i64 0] 40)).cell? ⟨w8.heap.size, 1, none⟩ = some (.int .i64 0) := (blk_cell (blk_new w8 _) 1).trans rfl
  have qMarkSuper2 : (World.alloc w8 (.cells #[.int .i64 0, .int .i64 0, .int .i64 0] 40)).cell? ⟨w8.heap.size, 2, none⟩ = some (.int .i64 0) := (blk_cell (blk_new w8 _) 2).trans rfl
  have B_ := Lib.hid (below_alloc B.out (.cells #[.int .i64 0, .int .i64 0, .int .i64 0] 40))
  clear B
  have B := B_
  clear B_
  have E_ := Lib.hid (below_alloc E.out (.cells #[.int .i64 0, .int .i64 0, .int .i64 0] 40))
  clear E
  have E := E_
  clear E_
  go_wp2_with fail
  refine (super_GetMember_at 64 K AMark cMark LMark 0 0 0 false _ nMark'.out (Kd.C_below CMark.out E.out) MMark.out gMarkMember'.out).mono ?_
  rintro e w9 ⟨rfl, hb⟩
  replace pSuper0 := keepC pSuper0 hb
  replace pSuper1 := keepC pSuper1 hb
  replace pSuper2 := keepC pSuper2 hb
  replace pMark0 := keepC pMark0 hb
  replace pMember0 := keepC pMember0 hb
  replace pMember1 := keepC pMember1 hb
  replace pMember2 := keepC pMember2 hb
  replace qSuperSuper0 := keepC qSuperSuper0 hb
  replace qSuperSuper1 := keepC qSuperSuper1 hb
  replace qSuperSuper2 := keepC qSuperSuper2 hb
  replace qSuperMark0 := keepC qSuperMark0 hb
  replace qSuperMember0 := keepC qSuperMember0 hb
  replace qSuperMember1 := keepC qSuperMember1 hb
  replace qSuperMember2 := keepC qSuperMember2 hb
  replace qMarkMark0 := keepC qMarkMark0 hb
  replace qMarkSuper0 := keepC qMarkSuper0 hb
  replace qMarkSuper1 := keepC qMarkSuper1 hb
  replace qMarkSuper2 := keepC qMarkSuper2 hb
  have B_ := Lib.hid (belC B.out hb)
  clear B
  have B := B_
  clear B_
  have E_ := Lib.hid (belC E.out hb)
  clear E
  have E := E_
  clear E_
  clear hb
  have pSuper0_ := keepO pSuper0 (.cells #[.int .i64 0, .int .i64 0, .int .i64 0] 25)
  replace pSuper0 := pSuper0_
  clear pSuper0_
  have pSuper1_ := keepO pSuper1 (.cells #[.int .i64 0, .int .i64 0, .int .i64 0] 25)
  replace pSuper1 := pSuper1_
  clear pSuper1_
  have pSuper2_ := keepO pSuper2 (.cells #[.int .i64 0, .int .i64 0, .int .i64 0] 25)
  replace pSuper2 := pSuper2_
  clear pSuper2_
  have pMark0_ := keepO pMark0 (.cells #[.int .i64 0, .int .i64 0, .int .i64 0] 25)
  replace pMark0 := pMark0_
  clear pMark0_
  have pMember0_ := keepO pMember0 (.cells #[.int .i64 0, .int .i64 0, .int .i64 0] 25)
  replace pMember0 := pMember0_
  clear pMember0_
  have pMember1_ := keepO pMember1 (.cells #[.int .i64 0, .int .i64 0, .int .i64 0] 25)
  replace pMember1 := pMember1_
  clear pMember1_
  have pMember2_ := keepO pMember2 (.cells #[.int .i64 0, .int .i64 0, .int .i64 0] 25)
  replace pMember2 := pMember2_
  clear pMember2_
  have qSuperSuper0_ := keepO qSuperSuper0 (.cells #[.int .i64 0, .int .i64 0, .int .i64 0] 25)
  replace qSuperSuper0 := qSuperSuper0_
  clear qSuperSuper0_
  have qSuperSuper1_ := keepO qSuperSuper1 (.cells #[.int .i64 0, .int .i64 0, .int .i64 0] 25)
  replace qSuperSuper1 := qSuperSuper1_
  clear qSuperSuper1_
  have qSuperSuper2_ := keepO qSuperSuper2 (.cells #[.int .i64 0, .int .i64 0, .int .i64 0] 25)
  replace qSuperSuper2 := qSuperSuper2_
  clear qSuperSuper2_
  have qSuperMark0_ := keepO qSuperMark0 (.cells #[.int .i64 0, .int .i64 0, .int .i64 0] 25)
  replace qSuperMark0 := qSuperMark0_
  clear qSuperMark0_
  have qSuperMember0_ := keepO qSuperMember0 (.cells #[.int .i64 0, .int .i64 0, .int .i64 0] 25)
  replace qSuperMember0 := qSuperMember0_
  clear qSuperMember0_
  have qSuperMember1_ := keepO qSuperMember1 (.cells #[.int .i64 0, .int .i64 0, .int .i64 0] 25)
  replace qSuperMember1 := qSuperMember1_
  clear qSuperMember1_
  have qSuperMember2_ := keepO qSuperMember2 (.cells #[.int .i64 0, .int .i64 0, .int .i64 0] 25)
  replace qSuperMember2 := qSuperMember2_
  clear qSuperMember2_
  have qMarkMark0_ := keepO qMarkMark0 (.cells #[.int .i64 0, .int .i64 0, .int .i64 0] 25)
  replace qMarkMark0 := qMarkMark0_
  clear qMarkMark0_
  have qMarkSuper0_ := keepO qMarkSuper0 (.cells #[.int .i64 0, .int .i64 0, .int .i64 0] 25)
  replace qMarkSuper0 := qMarkSuper0_
  clear qMarkSuper0_
  have qMarkSuper1_ := keepO qMarkSuper1 (.cells #[.int .i64 0, .int .i64 0, .int .i64 0] 25)
  replace qMarkSuper1 := qMarkSuper1_
  clear qMarkSuper1_
  have qMarkSuper2_ := keepO qMarkSuper2 (.cells #[.int .i64 0, .int .i64 0, .int .i64 0] 25)
  replace qMarkSuper2 := qMarkSuper2_
  clear qMarkSuper2_
  have qMarkMember0 : (World.alloc w9 (.cells #[.int .i64 0, .int .i64 0, .int .i64 0] 25)).cell? ⟨w9.heap.size, 0, none⟩ = some (.int .i64 0) := (blk_cell (blk_new w9 _) 0).trans rfl
  have qMarkMember1 : (World.alloc w9 (.cells #[.int .i64 0, .int .i64 0, .int .i64 0] 25)).cell? ⟨w9.heap.size, 1, none⟩ = some (.int .i64 0) := (blk_cell (blk_new w9 _) 1).trans rfl
  have qMarkMember2 : (World.alloc w9 (.cells #[.int .i64 0, .int .i64 0, .int .i64 0] 25)).cell? ⟨w9.heap.size, 2, none⟩ = some (.int .i64 0) := (blk_cell (blk_new w9 _) 2).trans rfl
  have B_ := Lib.hid (below_alloc B.out (.cells #[.int .i64 0, .int .i64 0, .int .i64 0] 25))
  clear B
  have B := B_
  clear B_
  have E_ := Lib.hid (below_alloc E.out (.cells #[.int .i64 0, .int .i64 0, .int .i64 0] 25))
  clear E
  have E := E_
  clear E_
  clear E CMark MMark
  go_wp2_with fail
  refine (super_PutMember.calls K e t u [] false _ hMember'.out).mono ?_
  rintro e w10 ⟨v0, rfl, hR, hb⟩
  obtain ⟨AMember, cMember, rfl⟩ := Kd.R_slice hR
  replace pSuper0 := keepC pSuper0 hb
  replace pSuper1 := keepC pSuper1 hb
  replace pSuper2 := keepC pSuper2 hb
  replace pMark0 := keepC pMark0 hb
  replace pMember0 := keepC pMember0 hb
  replace pMember1 := keepC pMember1 hb
  replace pMember2 := keepC pMember2 hb
  replace qSuperSuper0 := keepC qSuperSuper0 hb
  replace qSuperSuper1 := keepC qSuperSuper1 hb
  replace qSuperSuper2 := keepC qSuperSuper2 hb
  replace qSuperMark0 := keepC qSuperMark0 hb
  replace qSuperMember0 := keepC qSuperMember0 hb
  replace qSuperMember1 := keepC qSuperMember1 hb
  replace qSuperMember2 := keepC qSuperMember2 hb
  replace qMarkMark0 := keepC qMarkMark0 hb
  replace qMarkSuper0 := keepC qMarkSuper0 hb
  replace qMarkSuper1 := keepC qMarkSuper1 hb
  replace qMarkSuper2 := keepC qMarkSuper2 hb
  replace qMarkMember0 := keepC qMarkMember0 hb
  replace qMarkMember1 := keepC qMarkMember1 hb
  replace qMarkMember2 := keepC qMarkMember2 hb
  have B_ := Lib.hid (belC B.out hb)
  clear B
  have B := B_
  clear B_
  clear hb
  clear hR
  go_wp2
  go_ret
  exact ⟨rfl, B.out⟩
set_option maxHeartbeats 1000000 in
theorem walk_tft (K : Nat) (d r s n e t u : Int) (LSuper : List Int) (hSuper : super_PutSuper.f K d r s = some (LSuper, true)) (nSuper : LSuper.length = 64) (gSuperSuper : super_GetSuper.f K LSuper = some (d, r, s, true)) (gSuperMark : super_GetMark.f K LSuper = some (0, false)) (gSuperMember : super_GetMember.f K LSuper = some (0, 0, 0, false)) (hMark : super_PutMark.f K n = some ([], false)) (LMember : List Int) (hMember : super_PutMember.f K e t u = some (LMember, true)) (nMember : LMember.length = 64) (gMemberMember : super_GetMember.f K LMember = some (e, t, u, true)) (gMemberSuper : super_GetSuper.f K LMember = some (0, 0, 0, false)) (gMemberMark : super_GetMark.f K LMember = some (0, false)) (w : World) (halive : morainelaw05_alive.f K = some true) :
    Calls Tryd.prog 6 #[.agg #[.int .i64 d, .int .i64 r, .int .i64 s], .agg #[.int .i64 n], .agg #[.int .i64 e, .int .i64 t, .int .i64 u]] w fun e w' => e = .returned (.bool true) ∧ Below w.heap.size w w' := by
  have halive' := Lib.hid halive
  have hSuper' := Lib.hid hSuper
  have nSuper' := Lib.hid nSuper
  have gSuperSuper' := Lib.hid gSuperSuper
  have gSuperMark' := Lib.hid gSuperMark
  have gSuperMember' := Lib.hid gSuperMember
  have hMark' := Lib.hid hMark
  have hMember' := Lib.hid hMember
  have nMember' := Lib.hid nMember
  have gMemberMember' := Lib.hid gMemberMember
  have gMemberSuper' := Lib.hid gMemberSuper
  have gMemberMark' := Lib.hid gMemberMark
  clear halive hSuper nSuper gSuperSuper gSuperMark gSuperMember hMark hMember nMember gMemberMember gMemberSuper gMemberMark
  have B := Lib.hid (Below.refl w.heap.size w)
  go_enter Tryd.func6, Tryd.ntmps6
  have pSuper0 : (World.alloc w (.cells #[.int .i64 d, .int .i64 r, .int .i64 s] 40)).cell? ⟨w.heap.size, 0, none⟩ = some (.int .i64 d) := (blk_cell (blk_new w _) 0).trans rfl
  have pSuper1 : (World.alloc w (.cells #[.int .i64 d, .int .i64 r, .int .i64 s] 40)).cell? ⟨w.heap.size, 1, none⟩ = some (.int .i64 r) := (blk_cell (blk_new w _) 1).trans rfl
  have pSuper2 : (World.alloc w (.cells #[.int .i64 d, .int .i64 r, .int .i64 s] 40)).cell? ⟨w.heap.size, 2, none⟩ = some (.int .i64 s) := (blk_cell (blk_new w _) 2).trans rfl
  have B_ := Lib.hid (below_alloc B.out (.cells #[.int .i64 d, .int .i64 r, .int .i64 s] 40))
  clear B
  have B := B_
  clear B_
  have pSuper0_ := keepO pSuper0 (.cells #[.int .i64 n] 23)
  replace pSuper0 := pSuper0_
  clear pSuper0_
  have pSuper1_ := keepO pSuper1 (.cells #[.int .i64 n] 23)
  replace pSuper1 := pSuper1_
  clear pSuper1_
  have pSuper2_ := keepO pSuper2 (.cells #[.int .i64 n] 23)
  replace pSuper2 := pSuper2_
  clear pSuper2_
  have pMark0 : (World.alloc (World.alloc w (.cells #[.int .i64 d, .int .i64 r, .int .i64 s] 40)) (.cells #[.int .i64 n] 23)).cell? ⟨w.heap.size + 1, 0, none⟩ = some (.int .i64 n) := by have h_ := (blk_cell (blk_new (World.alloc w (.cells #[.int .i64 d, .int .i64 r, .int .i64 s] 40)) (.cells #[.int .i64 n] 23)) 0).trans rfl; simp only [World.size_alloc] at h_; exact h_
  have B_ := Lib.hid (below_alloc B.out (.cells #[.int .i64 n] 23))
  clear B
  have B := B_
  clear B_
  have pSuper0_ := keepO pSuper0 (.cells #[.int .i64 e, .int .i64 t, .int .i64 u] 25)
  replace pSuper0 := pSuper0_
  clear pSuper0_
  have pSuper1_ := keepO pSuper1 (.cells #[.int .i64 e, .int .i64 t, .int .i64 u] 25)
  replace pSuper1 := pSuper1_
  clear pSuper1_
  have pSuper2_ := keepO pSuper2 (.cells #[.int .i64 e, .int .i64 t, .int .i64 u] 25)
  replace pSuper2 := pSuper2_
  clear pSuper2_
  have pMark0_ := keepO pMark0 (.cells #[.int .i64 e, .int .i64 t, .int .i64 u] 25)
  replace pMark0 := pMark0_
  clear pMark0_
  have pMember0 : (World.alloc (World.alloc (World.alloc w (.cells #[.int .i64 d, .int .i64 r, .int .i64 s] 40)) (.cells #[.int .i64 n] 23)) (.cells #[.int .i64 e, .int .i64 t, .int .i64 u] 25)).cell? ⟨w.heap.size + 1 + 1, 0, none⟩ = some (.int .i64 e) := by have h_ := (blk_cell (blk_new (World.alloc (World.alloc w (.cells #[.int .i64 d, .int .i64 r, .int .i64 s] 40)) (.cells #[.int .i64 n] 23)) (.cells #[.int .i64 e, .int .i64 t, .int .i64 u] 25)) 0).trans rfl; simp only [World.size_alloc] at h_; exact h_
  have pMember1 : (World.alloc (World.alloc (World.alloc w (.cells #[.int .i64 d, .int .i64 r, .int .i64 s] 40)) (.cells #[.int .i64 n] 23)) (.cells #[.int .i64 e, .int .i64 t, .int .i64 u] 25)).cell? ⟨w.heap.size + 1 + 1, 1, none⟩ = some (.int .i64 t) := by have h_ := (blk_cell (blk_new (World.alloc (World.alloc w (.cells #[.int .i64 d, .int .i64 r, .int .i64 s] 40)) (.cells #[.int .i64 n] 23)) (.cells #[.int .i64 e, .int .i64 t, .int .i64 u] 25)) 1).trans rfl; simp only [World.size_alloc] at h_; exact h_
  have pMember2 : (World.alloc (World.alloc (World.alloc w (.cells #[.int .i64 d, .int .i64 r, .int .i64 s] 40)) (.cells #[.int .i64 n] 23)) (.cells #[.int .i64 e, .int .i64 t, .int .i64 u] 25)).cell? ⟨w.heap.size + 1 + 1, 2, none⟩ = some (.int .i64 u) := by have h_ := (blk_cell (blk_new (World.alloc (World.alloc w (.cells #[.int .i64 d, .int .i64 r, .int .i64 s] 40)) (.cells #[.int .i64 n] 23)) (.cells #[.int .i64 e, .int .i64 t, .int .i64 u] 25)) 2).trans rfl; simp only [World.size_alloc] at h_; exact h_
  have B_ := Lib.hid (below_alloc B.out (.cells #[.int .i64 e, .int .i64 t, .int .i64 u] 25))
  clear B
  have B := B_
  clear B_
  go_wp2_with fail
  refine (morainelaw05_alive.calls K true _ halive'.out).mono ?_
  rintro e w1 ⟨rfl, hb⟩
  replace pSuper0 := keepC pSuper0 hb
  replace pSuper1 := keepC pSuper1 hb
  replace pSuper2 := keepC pSuper2 hb
  replace pMark0 := keepC pMark0 hb
  replace pMember0 := keepC pMember0 hb
  replace pMember1 := keepC pMember1 hb
  replace pMember2 := keepC pMember2 hb
  have B_ := Lib.hid (belC B.out hb)
  clear B
  have B := B_
  clear B_
  clear hb
  go_wp2_with fail
  refine (super_PutSuper.calls K d r s LSuper true _ hSuper'.out).mono ?_
  rintro e w2 ⟨v0, rfl, hR, hb⟩
  obtain ⟨ASuper, cSuper, rfl⟩ := Kd.R_slice hR
  replace pSuper0 := keepC pSuper0 hb
  replace pSuper1 := keepC pSuper1 hb
  replace pSuper2 := keepC pSuper2 hb
  replace pMark0 := keepC pMark0 hb
  replace pMember0 := keepC pMember0 hb
  replace pMember1 := keepC pMember1 hb
  replace pMember2 := keepC pMember2 hb
  have B_ := Lib.hid (belC B.out hb)
  clear B
  have B := B_
  clear B_
  clear hb
  have CSuper := Lib.hid (Kd.R_reads' hR).2.2
  have MSuper := Lib.hid (Kd.R_reads' hR).2.1
  have E := Lib.hid (Below.refl w2.heap.size w2)
  rw [nSuper'.out]
  clear hR
  go_wp2_with fail
  refine (super_GetSuper_at 64 K ASuper cSuper LSuper d r s true _ nSuper'.out (Kd.C_below CSuper.out E.out) MSuper.out gSuperSuper'.out).mono ?_
  rintro e w3 ⟨rfl, hb⟩
  replace pSuper0 := keepC pSuper0 hb
  replace pSuper1 := keepC pSuper1 hb
  replace pSuper2 := keepC pSuper2 hb
  replace pMark0 := keepC pMark0 hb
  replace pMember0 := keepC pMember0 hb
  replace pMember1 := keepC pMember1 hb
  replace pMember2 := keepC pMember2 hb
  have B_ := Lib.hid (belC B.out hb)
  clear B
  have B := B_
  clear B_
  have E_ := Lib.hid (belC E.out hb)
  clear E
  have E := E_
  clear E_
  clear hb
  have pSuper0_ := keepO pSuper0 (.cells #[.int .i64 d, .int .i64 r, .int .i64 s] 40)
  replace pSuper0 := pSuper0_
  clear pSuper0_
  have pSuper1_ := keepO pSuper1 (.cells #[.int .i64 d, .int .i64 r, .int .i64 s] 40)
  replace pSuper1 := pSuper1_
  clear pSuper1_
  have pSuper2_ := keepO pSuper2 (.cells #[.int .i64 d, .int .i64 r, .int .i64 s] 40)
  replace pSuper2 := pSuper2_
  clear pSuper2_
  have pMark0_ := keepO pMark0 (.cells #[.int .i64 d, .int .i64 r, .int .i64 s] 40)
  replace pMark0 := pMark0_
  clear pMark0_
  have pMember0_ := keepO pMember0 (.cells #[.int .i64 d, .int .i64 r, .int .i64 s] 40)
  replace pMember0 := pMember0_
  clear pMember0_
  have pMember1_ := keepO pMember1 (.cells #[.int .i64 d, .int .i64 r, .int .i64 s] 40)
  replace pMember1 := pMember1_
  clear pMember1_
  have pMember2_ := keepO pMember2 (.cells #[.int .i64 d, .int .i64 r, .int .i64 s] 40)
  replace pMember2 := pMember2_
  clear pMember2_
  have qSuperSuper0 : (World.alloc w3 (.cells #[.int .i64 d, .int .i64 r, .int .i64 s] 40)).cell? ⟨w3.heap.size, 0, none⟩ = some (.int .i64 d) := (blk_cell (blk_new w3 _) 0).trans rfl
  have qSuperSuper1 : (World.alloc w3 (.cells #[.int .i64 d, .int .i64 r, .int .i64 s] 40)).cell? ⟨w3.heap.size, 1, none⟩ = some (.int .i64 r) := (blk_cell (blk_new w3 _) 1).trans rfl
  have qSuperSuper2 : (World.alloc w3 (.cells #[.int .i64 d, .int .i64 r, .int .i64 s] 40)).cell? ⟨w3.heap.size, 2, none⟩ = some (.int .i64 s) := (blk_cell (blk_new w3 _) 2).trans rfl
  have B_ := Lib.hid (below_alloc B.out (.cells #[.int .i64 d, .int .i64 r, .int .i64 s] 40))
  clear B
  have B := B_
  clear B_
  have E_ := Lib.hid (below_alloc E.out (.cells #[.int .i64 d, .int .i64 r, .int .i64 s] 40))
  clear E
  have E := E_
  clear E_
  go_wp2_with fail
  refine (super_GetMark_at 64 K ASuper cSuper LSuper 0 false _ nSuper'.out (Kd.C_below CSuper.out E.out) MSuper.out gSuperMark'.out).mono ?_
  rintro e w4 ⟨rfl, hb⟩
  replace pSuper0 := keepC pSuper0 hb
  replace pSuper1 := keepC pSuper1 hb
  replace pSuper2 := keepC pSuper2 hb
  replace pMark0 := keepC pMark0 hb
  replace pMember0 := keepC pMember0 hb
  replace pMember1 := keepC pMember1 hb
  replace pMember2 := keepC pMember2 hb
  replace qSuperSuper0 := keepC qSuperSuper0 hb
  replace qSuperSuper1 := keepC qSuperSuper1 hb
  replace qSuperSuper2 := keepC qSuperSuper2 hb
  have B_ := Lib.hid (belC B.out hb)
  clear B
  have B := B_
  clear B_
  have E_ := Lib.hid (belC E.out hb)
  clear E
  have E := E_
  clear E_
  clear hb
  have pSuper0_ := keepO pSuper0 (.cells #[.int .i64 0] 23)
  replace pSuper0 := pSuper0_
  clear pSuper0_
  have pSuper1_ := keepO pSuper1 (.cells #[.int .i64 0] 23)
  replace pSuper1 := pSuper1_
  clear pSuper1_
  have pSuper2_ := keepO pSuper2 (.cells #[.int .i64 0] 23)
  replace pSuper2 := pSuper2_
  clear pSuper2_
  have pMark0_ := keepO pMark0 (.cells #[.int .i64 0] 23)
  replace pMark0 := pMark0_
  clear pMark0_
  have pMember0_ := keepO pMember0 (.cells #[.int .i64 0] 23)
  replace pMember0 := pMember0_
  clear pMember0_
  have pMember1_ := keepO pMember1 (.cells #[.int .i64 0] 23)
  replace pMember1 := pMember1_
  clear pMember1_
  have pMember2_ := keepO pMember2 (.cells #[.int .i64 0] 23)
  replace pMember2 := pMember2_
  clear pMember2_
  have qSuperSuper0_ := keepO qSuperSuper0 (.cells #[.int .i64 0] 23)
  replace qSuperSuper0 := qSuperSuper0_
  clear qSuperSuper0_
  have qSuperSuper1_ := keepO qSuperSuper1 (.cells #[.int .i64 0] 23)
  replace qSuperSuper1 := qSuperSuper1_
  clear qSuperSuper1_
  have qSuperSuper2_ := keepO qSuperSuper2 (.cells #[.int .i64 0] 23)
  replace qSuperSuper2 := qSuperSuper2_
  clear qSuperSuper2_
  have qSuperMark0 : (World.alloc w4 (.cells #[.int .i64 0] 23)).cell? ⟨w4.heap.size, 0, none⟩ = some (.int .i64 0) := (blk_cell (blk_new w4 _) 0).trans rfl
  have B_ := Lib.hid (below_alloc B.out (.cells #[.int .i64 0] 23))
  clear B
  have B := B_
  clear B_
  have E_ := Lib.hid (below_alloc E.out (.cells #[.int .i64 0] 23))
  clear E
  have E := E_
  clear E_
  go_wp2_with fail
  refine (super_GetMember_at 64 K ASuper cSuper LSuper 0 0 0 false _ nSuper'.out (Kd.C_below CSuper.out E.out) MSuper.out gSuperMember'.out).mono ?_
  rintro e w5 ⟨rfl, hb⟩
  replace pSuper0 := keepC pSuper0 hb
  replace pSuper1 := keepC pSuper1 hb
  replace pSuper2 := keepC pSuper2 hb
  replace pMark0 := keepC pMark0 hb
  replace pMember0 := keepC pMember0 hb
  replace pMember1 := keepC pMember1 hb
  replace pMember2 := keepC pMember2 hb
  replace qSuperSuper0 := keepC qSuperSuper0 hb
  replace qSuperSuper1 := keepC qSuperSuper1 hb
  replace qSuperSuper2 := keepC qSuperSuper2 hb
  replace qSuperMark0 := keepC qSuperMark0 hb
  have B_ := Lib.hid (belC B.out hb)
  clear B
  have B := B_
  clear B_
  have E_ := Lib.hid (belC E.out hb)
  clear E
  have E := E_
  clear E_
  clear hb
  have pSuper0_ := keepO pSuper0 (.cells #[.int .i64 0, .int .i64 0, .int .i64 0] 25)
  replace pSuper0 := pSuper0_
  clear pSuper0_
  have pSuper1_ := keepO pSuper1 (.cells #[.int .i64 0, .int .i64 0, .int .i64 0] 25)
  replace pSuper1 := pSuper1_
  clear pSuper1_
  have pSuper2_ := keepO pSuper2 (.cells #[.int .i64 0, .int .i64 0, .int .i64 0] 25)
  replace pSuper2 := pSuper2_
  clear pSuper2_
  have pMark0_ := keepO pMark0 (.cells #[.int .i64 0, .int .i64 0, .int .i64 0] 25)
  replace pMark0 := pMark0_
  clear pMark0_
  have pMember0_ := keepO pMember0 (.cells #[.int .i64 0, .int .i64 0, .int .i64 0] 25)
  replace pMember0 := pMember0_
  clear pMember0_
  have pMember1_ := keepO pMember1 (.cells #[.int .i64 0, .int .i64 0, .int .i64 0] 25)
  replace pMember1 := pMember1_
  clear pMember1_
  have pMember2_ := keepO pMember2 (.cells #[.int .i64 0, .int .i64 0, .int .i64 0] 25)
  replace pMember2 := pMember2_
  clear pMember2_
  have qSuperSuper0_ := keepO qSuperSuper0 (.cells #[.int .i64 0, .int .i64 0, .int .i64 0] 25)
  replace qSuperSuper0 := qSuperSuper0_
  clear qSuperSuper0_
  have qSuperSuper1_ := keepO qSuperSuper1 (.cells #[.int .i64 0, .int .i64 0, .int .i64 0] 25)
  replace qSuperSuper1 := qSuperSuper1_
  clear qSuperSuper1_
  have qSuperSuper2_ := keepO qSuperSuper2 (.cells #[.int .i64 0, .int .i64 0, .int .i64 0] 25)
  replace qSuperSuper2 := qSuperSuper2_
  clear qSuperSuper2_
  have qSuperMark0_ := keepO qSuperMark0 (.cells #[.int .i64 0, .int .i64 0, .int .i64 0] 25)
  replace qSuperMark0 := qSuperMark0_
  clear qSuperMark0_
  have qSuperMember0 : (World.alloc w5 (.cells #[.int .i64 0, .int .i64 0, .int .i64 0] 25)).cell? ⟨w5.heap.size, 0, none⟩ = some (.int .i64 0) := (blk_cell (blk_new w5 _) 0).trans rfl
  have qSuperMember1 : (World.alloc w5 (.cells #[.int .i64 0, .int .i64 0, .int .i64 0] 25)).cell? ⟨w5.heap.size, 1, none⟩ = some (.int .i64 0) := (blk_cell (blk_new w5 _) 1).trans rfl
  have qSuperMember2 : (World.alloc w5 (.cells #[.int .i64 0, .int .i64 0, .int .i64 0] 25)).cell? ⟨w5.heap.size, 2, none⟩ = some (.int .i64 0) := (blk_cell (blk_new w5 _) 2).trans rfl
  have B_ := Lib.hid (below_alloc B.out (.cells #[.int .i64 0, .int .i64 0, .int .i64 0] 25))
  clear B
  have B := B_
  clear B_
  have E_ := Lib.hid (below_alloc E.out (.cells #[.int .i64 0, .int .i64 0, .int .i64 0] 25))
  clear E
  have E := E_
  clear E_
  clear E CSuper MSuper
  go_wp2_with fail
  refine (super_PutMark.calls K n [] false _ hMark'.out).mono ?_
  rintro e w6 ⟨v0, rfl, hR, hb⟩
  obtain ⟨AMark, cMark, rfl⟩ := Kd.R_slice hR
  replace pSuper0 := keepC pSuper0 hb
  replace pSuper1 := keepC pSuper1 hb
  replace pSuper2 := keepC pSuper2 hb
  replace pMark0 := keepC pMark0 hb
  replace pMember0 := keepC pMember0 hb
  replace pMember1 := keepC pMember1 hb
  replace pMember2 := keepC pMember2 hb
  replace qSuperSuper0 := keepC qSuperSuper0 hb
  replace qSuperSuper1 := keepC qSuperSuper1 hb
  replace qSuperSuper2 := keepC qSuperSuper2 hb
  replace qSuperMark0 := keepC qSuperMark0 hb
  replace qSuperMember0 := keepC qSuperMember0 hb
  replace qSuperMember1 := keepC qSuperMember1 hb
  replace qSuperMember2 := keepC qSuperMember2 hb
  have B_ := Lib.hid (belC B.out hb)
  clear B
  have B := B_
  clear B_
  clear hb
  clear hR
  go_wp2_with fail
  refine (super_PutMember.calls K e t u LMember true _ hMember'.out).mono ?_
  rintro e w7 ⟨v0, rfl, hR, hb⟩
  obtain ⟨AMember, cMember, rfl⟩ := Kd.R_slice hR
  replace pSuper0 := keepC pSuper0 hb
  replace pSuper1 := keepC pSuper1 hb
  replace pSuper2 := keepC pSuper2 hb
  replace pMark0 := keepC pMark0 hb
  replace pMember0 := keepC pMember0 hb
  replace pMember1 := keepC pMember1 hb
  replace pMember2 := keepC pMember2 hb
  replace qSuperSuper0 := keepC qSuperSuper0 hb
  replace qSuperSuper1 := keepC qSuperSuper1 hb
  replace qSuperSuper2 := keepC qSuperSuper2 hb
  replace qSuperMark0 := keepC qSuperMark0 hb
  replace qSuperMember0 := keepC qSuperMember0 hb
  replace qSuperMember1 := keepC qSuperMember1 hb
  replace qSuperMember2 := keepC qSuperMember2 hb
  have B_ := Lib.hid (belC B.out hb)
  clear B
  have B := B_
  clear B_
  clear hb
  have CMember := Lib.hid (Kd.R_reads' hR).2.2
  have MMember := Lib.hid (Kd.R_reads' hR).2.1
  have E := Lib.hid (Below.refl w7.heap.size w7)
  rw [nMember'.out]
  clear hR
  go_wp2_with fail
  refine (super_GetMember_at 64 K AMember cMember LMember e t u true _ nMember'.out (Kd.C_below CMember.out E.out) MMember.out gMemberMember'.out).mono ?_
  rintro e w8 ⟨rfl, hb⟩
  replace pSuper0 := keepC pSuper0 hb
  replace pSuper1 := keepC pSuper1 hb
  replace pSuper2 := keepC pSuper2 hb
  replace pMark0 := keepC pMark0 hb
  replace pMember0 := keepC pMember0 hb
  replace pMember1 := keepC pMember1 hb
  replace pMember2 := keepC pMember2 hb
  replace qSuperSuper0 := keepC qSuperSuper0 hb
  replace qSuperSuper1 := keepC qSuperSuper1 hb
  replace qSuperSuper2 := keepC qSuperSuper2 hb
  replace qSuperMark0 := keepC qSuperMark0 hb
  replace qSuperMember0 := keepC qSuperMember0 hb
  replace qSuperMember1 := keepC qSuperMember1 hb
  replace qSuperMember2 := keepC qSuperMember2 hb
  have B_ := Lib.hid (belC B.out hb)
  clear B
  have B := B_
  clear B_
  have E_ := Lib.hid (belC E.out hb)
  clear E
  have E := E_
  clear E_
  clear hb
  have pSuper0_ := keepO pSuper0 (.cells #[.int .i64 e, .int .i64 t, .int .i64 u] 25)
  replace pSuper0 := pSuper0_
  clear pSuper0_
  have pSuper1_ := keepO pSuper1 (.cells #[.int .i64 e, .int .i64 t, .int .i64 u] 25)
  replace pSuper1 := pSuper1_
  clear pSuper1_
  have pSuper2_ := keepO pSuper2 (.cells #[.int .i64 e, .int .i64 t, .int .i64 u] 25)
  replace pSuper2 := pSuper2_
  clear pSuper2_
  have pMark0_ := keepO pMark0 (.cells #[.int .i64 e, .int .i64 t, .int .i64 u] 25)
  replace pMark0 := pMark0_
  clear pMark0_
  have pMember0_ := keepO pMember0 (.cells #[.int .i64 e, .int .i64 t, .int .i64 u] 25)
  replace pMember0 := pMember0_
  clear pMember0_
  have pMember1_ := keepO pMember1 (.cells #[.int .i64 e, .int .i64 t, .int .i64 u] 25)
  replace pMember1 := pMember1_
  clear pMember1_
  have pMember2_ := keepO pMember2 (.cells #[.int .i64 e, .int .i64 t, .int .i64 u] 25)
  replace pMember2 := pMember2_
  clear pMember2_
  have qSuperSuper0_ := keepO qSuperSuper0 (.cells #[.int .i64 e, .int .i64 t, .int .i64 u] 25)
  replace qSuperSuper0 := qSuperSuper0_
  clear qSuperSuper0_
  have qSuperSuper1_ := keepO qSuperSuper1 (.cells #[.int .i64 e, .int .i64 t, .int .i64 u] 25)
  replace qSuperSuper1 := qSuperSuper1_
  clear qSuperSuper1_
  have qSuperSuper2_ := keepO qSuperSuper2 (.cells #[.int .i64 e, .int .i64 t, .int .i64 u] 25)
  replace qSuperSuper2 := qSuperSuper2_
  clear qSuperSuper2_
  have qSuperMark0_ := keepO qSuperMark0 (.cells #[.int .i64 e, .int .i64 t, .int .i64 u] 25)
  replace qSuperMark0 := qSuperMark0_
  clear qSuperMark0_
  have qSuperMember0_ := keepO qSuperMember0 (.cells #[.int .i64 e, .int .i64 t, .int .i64 u] 25)
  replace qSuperMember0 := qSuperMember0_
  clear qSuperMember0_
  have qSuperMember1_ := keepO qSuperMember1 (.cells #[.int .i64 e, .int .i64 t, .int .i64 u] 25)
  replace qSuperMember1 := qSuperMember1_
  clear qSuperMember1_
  have qSuperMember2_ := keepO qSuperMember2 (.cells #[.int .i64 e, .int .i64 t, .int .i64 u] 25)
  replace qSuperMember2 := qSuperMember2_
  clear qSuperMember2_
  have qMemberMember0 : (World.alloc w8 (.cells #[.int .i64 e, .int .i64 t, .int .i64 u] 25)).cell? ⟨w8.heap.size, 0, none⟩ = some (.int .i64 e) := (blk_cell (blk_new w8 _) 0).trans rfl
  have qMemberMember1 : (World.alloc w8 (.cells #[.int .i64 e, .int .i64 t, .int .i64 u] 25)).cell? ⟨w8.heap.size, 1, none⟩ = some (.int .i64 t) := (blk_cell (blk_new w8 _) 1).trans rfl
  have qMemberMember2 : (World.alloc w8 (.cells #[.int .i64 e, .int .i64 t, .int .i64 u] 25)).cell? ⟨w8.heap.size, 2, none⟩ = some (.int .i64 u) := (blk_cell (blk_new w8 _) 2).trans rfl
  have B_ := Lib.hid (below_alloc B.out (.cells #[.int .i64 e, .int .i64 t, .int .i64 u] 25))
  clear B
  have B := B_
  clear B_
  have E_ := Lib.hid (below_alloc E.out (.cells #[.int .i64 e, .int .i64 t, .int .i64 u] 25))
  clear E
  have E := E_
  clear E_
  go_wp2_with fail
  refine (super_GetSuper_at 64 K AMember cMember LMember 0 0 0 false _ nMember'.out (Kd.C_below CMember.out E.out) MMember.out gMemberSuper'.out).mono ?_
  rintro e w9 ⟨rfl, hb⟩
  replace pSuper0 := keepC pSuper0 hb
  replace pSuper1 := keepC pSuper1 hb
  replace pSuper2 := keepC pSuper2 hb
  replace pMark0 := keepC pMark0 hb
  replace pMember0 := keepC pMember0 hb
  replace pMember1 := keepC pMember1 hb
  replace pMember2 := keepC pMember2 hb
  replace qSuperSuper0 := keepC qSuperSuper0 hb
  replace qSuperSuper1 := keepC qSuperSuper1 hb
  replace qSuperSuper2 := keepC qSuperSuper2 hb
  replace qSuperMark0 := keepC qSuperMark0 hb
  replace qSuperMember0 := keepC qSuperMember0 hb
  replace qSuperMember1 := keepC qSuperMember1 hb
  replace qSuperMember2 := keepC qSuperMember2 hb
  replace qMemberMember0 := keepC qMemberMember0 hb
  replace qMemberMember1 := keepC qMemberMember1 hb
  replace qMemberMember2 := keepC qMemberMember2 hb
  have B_ := Lib.hid (belC B.out hb)
  clear B
  have B := B_
  clear B_
  have E_ := Lib.hid (belC E.out hb)
  clear E
  have E := E_
  clear E_
  clear hb
  have pSuper0_ := keepO pSuper0 (.cells #[.int .i64 0, .int .i64 0, .int .i64 0] 40)
  replace pSuper0 := pSuper0_
  clear pSuper0_
  have pSuper1_ := keepO pSuper1 (.cells #[.int .i64 0, .int .i64 0, .int .i64 0] 40)
  replace pSuper1 := pSuper1_
  clear pSuper1_
  have pSuper2_ := keepO pSuper2 (.cells #[.int .i64 0, .int .i64 0, .int .i64 0] 40)
  replace pSuper2 := pSuper2_
  clear pSuper2_
  have pMark0_ := keepO pMark0 (.cells #[.int .i64 0, .int .i64 0, .int .i64 0] 40)
  replace pMark0 := pMark0_
  clear pMark0_
  have pMember0_ := keepO pMember0 (.cells #[.int .i64 0, .int .i64 0, .int .i64 0] 40)
  replace pMember0 := pMember0_
  clear pMember0_
  have pMember1_ := keepO pMember1 (.cells #[.int .i64 0, .int .i64 0, .int .i64 0] 40)
  replace pMember1 := pMember1_
  clear pMember1_
  have pMember2_ := keepO pMember2 (.cells #[.int .i64 0, .int .i64 0, .int .i64 0] 40)
  replace pMember2 := pMember2_
  clear pMember2_
  have qSuperSuper0_ := keepO qSuperSuper0 (.cells #[.int .i64 0, .int .i64 0, .int .i64 0] 40)
  replace qSuperSuper0 := qSuperSuper0_
  clear qSuperSuper0_
  have qSuperSuper1_ := keepO qSuperSuper1 (.cells #[.int .i64 0, .int .i64 0, .int .i64 0] 40)
  replace qSuperSuper1 := qSuperSuper1_
  clear qSuperSuper1_
  have qSuperSuper2_ := keepO qSuperSuper2 (.cells #[.int .i64 0, .int .i64 0, .int .i64 0] 40)
  replace qSuperSuper2 := qSuperSuper2_
  clear qSuperSuper2_
  have qSuperMark0_ := keepO qSuperMark0 (.cells #[.int .i64 0, .int .i64 0, .int .i64 0] 40)
  replace qSuperMark0 := qSuperMark0_
  clear qSuperMark0_
  have qSuperMember0_ := keepO qSuperMember0 (.cells #[.int .i64 0, .int .i64 0, .int .i64 0] 40)
  replace qSuperMember0 := qSuperMember0_
  clear qSuperMember0_
  have qSuperMember1_ := keepO qSuperMember1 (.cells #[.int .i64 0, .int .i64 0, .int .i64 0] 40)
  replace qSuperMember1 := qSuperMember1_
  clear qSuperMember1_
  have qSuperMember2_ := keepO qSuperMember2 (.cells #[.int .i64 0, .int .i64 0, .int .i64 0] 40)
  replace qSuperMember2 := qSuperMember2_
  clear qSuperMember2_
  have qMemberMember0_ := keepO qMemberMember0 (.cells #[.int .i64 0, .int .i64 0, .int .i64 0] 40)
  replace qMemberMember0 := qMemberMember0_
  clear qMemberMember0_
  have qMemberMember1_ := keepO qMemberMember1 (.cells #[.int .i64 0, .int .i64 0, .int .i64 0] 40)
  replace qMemberMember1 := qMemberMember1_
  clear qMemberMember1_
  have qMemberMember2_ := keepO qMemberMember2 (.cells #[.int .i64 0, .int .i64 0, .int .i64 0] 40)
  replace qMemberMember2 := qMemberMember2_
  clear qMemberMember2_
  have qMemberSuper0 : (World.alloc w9 (.cells #[.int .i64 0, .int .i64 0, .int .i64 0] 40)).cell? ⟨w9.heap.size, 0, none⟩ = some (.int .i64 0) := (blk_cell (blk_new w9 _) 0).trans rfl
  have qMemberSuper1 : (World.alloc w9 (.cells #[.int .i64 0, .int .i64 0, .int .i64 0] 40)).cell? ⟨w9.heap.size, 1, none⟩ = some (.int .i64 0) := (blk_cell (blk_new w9 _) 1).trans rfl
  have qMemberSuper2 : (World.alloc w9 (.cells #[.int .i64 0, .int .i64 0, .int .i64 0] 40)).cell? ⟨w9.heap.size, 2, none⟩ = some (.int .i64 0) := (blk_cell (blk_new w9 _) 2).trans rfl
  have B_ := Lib.hid (below_alloc B.out (.cells #[.int .i64 0, .int .i64 0, .int .i64 0] 40))
  clear B
  have B := B_
  clear B_
  have E_ := Lib.hid (below_alloc E.out (.cells #[.int .i64 0, .int .i64 0, .int .i64 0] 40))
  clear E
  have E := E_
  clear E_
  go_wp2_with fail
  refine (super_GetMark_at 64 K AMember cMember LMember 0 false _ nMember'.out (Kd.C_below CMember.out E.out) MMember.out gMemberMark'.out).mono ?_
  rintro e w10 ⟨rfl, hb⟩
  replace pSuper0 := keepC pSuper0 hb
  replace pSuper1 := keepC pSuper1 hb
  replace pSuper2 := keepC pSuper2 hb
  replace pMark0 := keepC pMark0 hb
  replace pMember0 := keepC pMember0 hb
  replace pMember1 := keepC pMember1 hb
  replace pMember2 := keepC pMember2 hb
  replace qSuperSuper0 := keepC qSuperSuper0 hb
  replace qSuperSuper1 := keepC qSuperSuper1 hb
  replace qSuperSuper2 := keepC qSuperSuper2 hb
  replace qSuperMark0 := keepC qSuperMark0 hb
  replace qSuperMember0 := keepC qSuperMember0 hb
  replace qSuperMember1 := keepC qSuperMember1 hb
  replace qSuperMember2 := keepC qSuperMember2 hb
  replace qMemberMember0 := keepC qMemberMember0 hb
  replace qMemberMember1 := keepC qMemberMember1 hb
  replace qMemberMember2 := keepC qMemberMember2 hb
  replace qMemberSuper0 := keepC qMemberSuper0 hb
  replace qMemberSuper1 := keepC qMemberSuper1 hb
  replace qMemberSuper2 := keepC qMemberSuper2 hb
  have B_ := Lib.hid (belC B.out hb)
  clear B
  have B := B_
  clear B_
  have E_ := Lib.hid (belC E.out hb)
  clear E
  have E := E_
  clear E_
  clear hb
  have pSuper0_ := keepO pSuper0 (.cells #[.int .i64 0] 23)
  replace pSuper0 := pSuper0_
  clear pSuper0_
  have pSuper1_ := keepO pSuper1 (.cells #[.int .i64 0] 23)
  replace pSuper1 := pSuper1_
  clear pSuper1_
  have pSuper2_ := keepO pSuper2 (.cells #[.int .i64 0] 23)
  replace pSuper2 := pSuper2_
  clear pSuper2_
  have pMark0_ := keepO pMark0 (.cells #[.int .i64 0] 23)
  replace pMark0 := pMark0_
  clear pMark0_
  have pMember0_ := keepO pMember0 (.cells #[.int .i64 0] 23)
  replace pMember0 := pMember0_
  clear pMember0_
  have pMember1_ := keepO pMember1 (.cells #[.int .i64 0] 23)
  replace pMember1 := pMember1_
  clear pMember1_
  have pMember2_ := keepO pMember2 (.cells #[.int .i64 0] 23)
  replace pMember2 := pMember2_
  clear pMember2_
  have qSuperSuper0_ := keepO qSuperSuper0 (.cells #[.int .i64 0] 23)
  replace qSuperSuper0 := qSuperSuper0_
  clear qSuperSuper0_
  have qSuperSuper1_ := keepO qSuperSuper1 (.cells #[.int .i64 0] 23)
  replace qSuperSuper1 := qSuperSuper1_
  clear qSuperSuper1_
  have qSuperSuper2_ := keepO qSuperSuper2 (.cells #[.int .i64 0] 23)
  replace qSuperSuper2 := qSuperSuper2_
  clear qSuperSuper2_
  have qSuperMark0_ := keepO qSuperMark0 (.cells #[.int .i64 0] 23)
  replace qSuperMark0 := qSuperMark0_
  clear qSuperMark0_
  have qSuperMember0_ := keepO qSuperMember0 (.cells #[.int .i64 0] 23)
  replace qSuperMember0 := qSuperMember0_
  clear qSuperMember0_
  have qSuperMember1_ := keepO qSuperMember1 (.cells #[.int .i64 0] 23)
  replace qSuperMember1 := qSuperMember1_
  clear qSuperMember1_
  have qSuperMember2_ := keepO qSuperMember2 (.cells #[.int .i64 0] 23)
  replace qSuperMember2 := qSuperMember2_
  clear qSuperMember2_
  have qMemberMember0_ := keepO qMemberMember0 (.cells #[.int .i64 0] 23)
  replace qMemberMember0 := qMemberMember0_
  clear qMemberMember0_
  have qMemberMember1_ := keepO qMemberMember1 (.cells #[.int .i64 0] 23)
  replace qMemberMember1 := qMemberMember1_
  clear qMemberMember1_
  have qMemberMember2_ := keepO qMemberMember2 (.cells #[.int .i64 0] 23)
  replace qMemberMember2 := qMemberMember2_
  clear qMemberMember2_
  have qMemberSuper0_ := keepO qMemberSuper0 (.cells #[.int .i64 0] 23)
  replace qMemberSuper0 := qMemberSuper0_
  clear qMemberSuper0_
  have qMemberSuper1_ := keepO qMemberSuper1 (.cells #[.int .i64 0] 23)
  replace qMemberSuper1 := qMemberSuper1_
  clear qMemberSuper1_
  have qMemberSuper2_ := keepO qMemberSuper2 (.cells #[.int .i64 0] 23)
  replace qMemberSuper2 := qMemberSuper2_
  clear qMemberSuper2_
  have qMemberMark0 : (World.alloc w10 (.cells #[.int .i64 0] 23)).cell? ⟨w10.heap.size, 0, none⟩ = some (.int .i64 0) := (blk_cell (blk_new w10 _) 0).trans rfl
  have B_ := Lib.hid (below_alloc B.out (.cells #[.int .i64 0] 23))
  clear B
  have B := B_
  clear B_
  have E_ := Lib.hid (below_alloc E.out (.cells #[.int .i64 0] 23))
  clear E
  have E := E_
  clear E_
  clear E CMember MMember
  go_wp2
  go_ret
  exact ⟨rfl, B.out⟩
set_option maxHeartbeats 1000000 in
theorem walk_tff (K : Nat) (d r s n e t u : Int) (LSuper : List Int) (hSuper : super_PutSuper.f K d r s = some (LSuper, true)) (nSuper : LSuper.length = 64) (gSuperSuper : super_GetSuper.f K LSuper = some (d, r, s, true)) (gSuperMark : super_GetMark.f K LSuper = some (0, false)) (gSuperMember : super_GetMember.f K LSuper = some (0, 0, 0, false)) (hMark : super_PutMark.f K n = some ([], false)) (hMember : super_PutMember.f K e t u = some ([], false)) (w : World) (halive : morainelaw05_alive.f K = some true) :
    Calls Tryd.prog 6 #[.agg #[.int .i64 d, .int .i64 r, .int .i64 s], .agg #[.int .i64 n], .agg #[.int .i64 e, .int .i64 t, .int .i64 u]] w fun e w' => e = .returned (.bool true) ∧ Below w.heap.size w w' := by
  have halive' := Lib.hid halive
  have hSuper' := Lib.hid hSuper
  have nSuper' := Lib.hid nSuper
  have gSuperSuper' := Lib.hid gSuperSuper
  have gSuperMark' := Lib.hid gSuperMark
  have gSuperMember' := Lib.hid gSuperMember
  have hMark' := Lib.hid hMark
  have hMember' := Lib.hid hMember
  clear halive hSuper nSuper gSuperSuper gSuperMark gSuperMember hMark hMember
  have B := Lib.hid (Below.refl w.heap.size w)
  go_enter Tryd.func6, Tryd.ntmps6
  have pSuper0 : (World.alloc w (.cells #[.int .i64 d, .int .i64 r, .int .i64 s] 40)).cell? ⟨w.heap.size, 0, none⟩ = some (.int .i64 d) := (blk_cell (blk_new w _) 0).trans rfl
  have pSuper1 : (World.alloc w (.cells #[.int .i64 d, .int .i64 r, .int .i64 s] 40)).cell? ⟨w.heap.size, 1, none⟩ = some (.int .i64 r) := (blk_cell (blk_new w _) 1).trans rfl
  have pSuper2 : (World.alloc w (.cells #[.int .i64 d, .int .i64 r, .int .i64 s] 40)).cell? ⟨w.heap.size, 2, none⟩ = some (.int .i64 s) := (blk_cell (blk_new w _) 2).trans rfl
  have B_ := Lib.hid (below_alloc B.out (.cells #[.int .i64 d, .int .i64 r, .int .i64 s] 40))
  clear B
  have B := B_
  clear B_
  have pSuper0_ := keepO pSuper0 (.cells #[.int .i64 n] 23)
  replace pSuper0 := pSuper0_
  clear pSuper0_
  have pSuper1_ := keepO pSuper1 (.cells #[.int .i64 n] 23)
  replace pSuper1 := pSuper1_
  clear pSuper1_
  have pSuper2_ := keepO pSuper2 (.cells #[.int .i64 n] 23)
  replace pSuper2 := pSuper2_
  clear pSuper2_
  have pMark0 : (World.alloc (World.alloc w (.cells #[.int .i64 d, .int .i64 r, .int .i64 s] 40)) (.cells #[.int .i64 n] 23)).cell? ⟨w.heap.size + 1, 0, none⟩ = some (.int .i64 n) := by have h_ := (blk_cell (blk_new (World.alloc w (.cells #[.int .i64 d, .int .i64 r, .int .i64 s] 40)) (.cells #[.int .i64 n] 23)) 0).trans rfl; simp only [World.size_alloc] at h_; exact h_
  have B_ := Lib.hid (below_alloc B.out (.cells #[.int .i64 n] 23))
  clear B
  have B := B_
  clear B_
  have pSuper0_ := keepO pSuper0 (.cells #[.int .i64 e, .int .i64 t, .int .i64 u] 25)
  replace pSuper0 := pSuper0_
  clear pSuper0_
  have pSuper1_ := keepO pSuper1 (.cells #[.int .i64 e, .int .i64 t, .int .i64 u] 25)
  replace pSuper1 := pSuper1_
  clear pSuper1_
  have pSuper2_ := keepO pSuper2 (.cells #[.int .i64 e, .int .i64 t, .int .i64 u] 25)
  replace pSuper2 := pSuper2_
  clear pSuper2_
  have pMark0_ := keepO pMark0 (.cells #[.int .i64 e, .int .i64 t, .int .i64 u] 25)
  replace pMark0 := pMark0_
  clear pMark0_
  have pMember0 : (World.alloc (World.alloc (World.alloc w (.cells #[.int .i64 d, .int .i64 r, .int .i64 s] 40)) (.cells #[.int .i64 n] 23)) (.cells #[.int .i64 e, .int .i64 t, .int .i64 u] 25)).cell? ⟨w.heap.size + 1 + 1, 0, none⟩ = some (.int .i64 e) := by have h_ := (blk_cell (blk_new (World.alloc (World.alloc w (.cells #[.int .i64 d, .int .i64 r, .int .i64 s] 40)) (.cells #[.int .i64 n] 23)) (.cells #[.int .i64 e, .int .i64 t, .int .i64 u] 25)) 0).trans rfl; simp only [World.size_alloc] at h_; exact h_
  have pMember1 : (World.alloc (World.alloc (World.alloc w (.cells #[.int .i64 d, .int .i64 r, .int .i64 s] 40)) (.cells #[.int .i64 n] 23)) (.cells #[.int .i64 e, .int .i64 t, .int .i64 u] 25)).cell? ⟨w.heap.size + 1 + 1, 1, none⟩ = some (.int .i64 t) := by have h_ := (blk_cell (blk_new (World.alloc (World.alloc w (.cells #[.int .i64 d, .int .i64 r, .int .i64 s] 40)) (.cells #[.int .i64 n] 23)) (.cells #[.int .i64 e, .int .i64 t, .int .i64 u] 25)) 1).trans rfl; simp only [World.size_alloc] at h_; exact h_
  have pMember2 : (World.alloc (World.alloc (World.alloc w (.cells #[.int .i64 d, .int .i64 r, .int .i64 s] 40)) (.cells #[.int .i64 n] 23)) (.cells #[.int .i64 e, .int .i64 t, .int .i64 u] 25)).cell? ⟨w.heap.size + 1 + 1, 2, none⟩ = some (.int .i64 u) := by have h_ := (blk_cell (blk_new (World.alloc (World.alloc w (.cells #[.int .i64 d, .int .i64 r, .int .i64 s] 40)) (.cells #[.int .i64 n] 23)) (.cells #[.int .i64 e, .int .i64 t, .int .i64 u] 25)) 2).trans rfl; simp only [World.size_alloc] at h_; exact h_
  have B_ := Lib.hid (below_alloc B.out (.cells #[.int .i64 e, .int .i64 t, .int .i64 u] 25))
  clear B
  have B := B_
  clear B_
  go_wp2_with fail
  refine (morainelaw05_alive.calls K true _ halive'.out).mono ?_
  rintro e w1 ⟨rfl, hb⟩
  replace pSuper0 := keepC pSuper0 hb
  replace pSuper1 := keepC pSuper1 hb
  replace pSuper2 := keepC pSuper2 hb
  replace pMark0 := keepC pMark0 hb
  replace pMember0 := keepC pMember0 hb
  replace pMember1 := keepC pMember1 hb
  replace pMember2 := keepC pMember2 hb
  have B_ := Lib.hid (belC B.out hb)
  clear B
  have B := B_
  clear B_
  clear hb
  go_wp2_with fail
  refine (super_PutSuper.calls K d r s LSuper true _ hSuper'.out).mono ?_
  rintro e w2 ⟨v0, rfl, hR, hb⟩
  obtain ⟨ASuper, cSuper, rfl⟩ := Kd.R_slice hR
  replace pSuper0 := keepC pSuper0 hb
  replace pSuper1 := keepC pSuper1 hb
  replace pSuper2 := keepC pSuper2 hb
  replace pMark0 := keepC pMark0 hb
  replace pMember0 := keepC pMember0 hb
  replace pMember1 := keepC pMember1 hb
  replace pMember2 := keepC pMember2 hb
  have B_ := Lib.hid (belC B.out hb)
  clear B
  have B := B_
  clear B_
  clear hb
  have CSuper := Lib.hid (Kd.R_reads' hR).2.2
  have MSuper := Lib.hid (Kd.R_reads' hR).2.1
  have E := Lib.hid (Below.refl w2.heap.size w2)
  rw [nSuper'.out]
  clear hR
  go_wp2_with fail
  refine (super_GetSuper_at 64 K ASuper cSuper LSuper d r s true _ nSuper'.out (Kd.C_below CSuper.out E.out) MSuper.out gSuperSuper'.out).mono ?_
  rintro e w3 ⟨rfl, hb⟩
  replace pSuper0 := keepC pSuper0 hb
  replace pSuper1 := keepC pSuper1 hb
  replace pSuper2 := keepC pSuper2 hb
  replace pMark0 := keepC pMark0 hb
  replace pMember0 := keepC pMember0 hb
  replace pMember1 := keepC pMember1 hb
  replace pMember2 := keepC pMember2 hb
  have B_ := Lib.hid (belC B.out hb)
  clear B
  have B := B_
  clear B_
  have E_ := Lib.hid (belC E.out hb)
  clear E
  have E := E_
  clear E_
  clear hb
  have pSuper0_ := keepO pSuper0 (.cells #[.int .i64 d, .int .i64 r, .int .i64 s] 40)
  replace pSuper0 := pSuper0_
  clear pSuper0_
  have pSuper1_ := keepO pSuper1 (.cells #[.int .i64 d, .int .i64 r, .int .i64 s] 40)
  replace pSuper1 := pSuper1_
  clear pSuper1_
  have pSuper2_ := keepO pSuper2 (.cells #[.int .i64 d, .int .i64 r, .int .i64 s] 40)
  replace pSuper2 := pSuper2_
  clear pSuper2_
  have pMark0_ := keepO pMark0 (.cells #[.int .i64 d, .int .i64 r, .int .i64 s] 40)
  replace pMark0 := pMark0_
  clear pMark0_
  have pMember0_ := keepO pMember0 (.cells #[.int .i64 d, .int .i64 r, .int .i64 s] 40)
  replace pMember0 := pMember0_
  clear pMember0_
  have pMember1_ := keepO pMember1 (.cells #[.int .i64 d, .int .i64 r, .int .i64 s] 40)
  replace pMember1 := pMember1_
  clear pMember1_
  have pMember2_ := keepO pMember2 (.cells #[.int .i64 d, .int .i64 r, .int .i64 s] 40)
  replace pMember2 := pMember2_
  clear pMember2_
  have qSuperSuper0 : (World.alloc w3 (.cells #[.int .i64 d, .int .i64 r, .int .i64 s] 40)).cell? ⟨w3.heap.size, 0, none⟩ = some (.int .i64 d) := (blk_cell (blk_new w3 _) 0).trans rfl
  have qSuperSuper1 : (World.alloc w3 (.cells #[.int .i64 d, .int .i64 r, .int .i64 s] 40)).cell? ⟨w3.heap.size, 1, none⟩ = some (.int .i64 r) := (blk_cell (blk_new w3 _) 1).trans rfl
  have qSuperSuper2 : (World.alloc w3 (.cells #[.int .i64 d, .int .i64 r, .int .i64 s] 40)).cell? ⟨w3.heap.size, 2, none⟩ = some (.int .i64 s) := (blk_cell (blk_new w3 _) 2).trans rfl
  have B_ := Lib.hid (below_alloc B.out (.cells #[.int .i64 d, .int .i64 r, .int .i64 s] 40))
  clear B
  have B := B_
  clear B_
  have E_ := Lib.hid (below_alloc E.out (.cells #[.int .i64 d, .int .i64 r, .int .i64 s] 40))
  clear E
  have E := E_
  clear E_
  go_wp2_with fail
  refine (super_GetMark_at 64 K ASuper cSuper LSuper 0 false _ nSuper'.out (Kd.C_below CSuper.out E.out) MSuper.out gSuperMark'.out).mono ?_
  rintro e w4 ⟨rfl, hb⟩
  replace pSuper0 := keepC pSuper0 hb
  replace pSuper1 := keepC pSuper1 hb
  replace pSuper2 := keepC pSuper2 hb
  replace pMark0 := keepC pMark0 hb
  replace pMember0 := keepC pMember0 hb
  replace pMember1 := keepC pMember1 hb
  replace pMember2 := keepC pMember2 hb
  replace qSuperSuper0 := keepC qSuperSuper0 hb
  replace qSuperSuper1 := keepC qSuperSuper1 hb
  replace qSuperSuper2 := keepC qSuperSuper2 hb
  have B_ := Lib.hid (belC B.out hb)
  clear B
  have B := B_
  clear B_
  have E_ := Lib.hid (belC E.out hb)
  clear E
  have E := E_
  clear E_
  clear hb
  have pSuper0_ := keepO pSuper0 (.cells #[.int .i64 0] 23)
  replace pSuper0 := pSuper0_
  clear pSuper0_
  have pSuper1_ := keepO pSuper1 (.cells #[.int .i64 0] 23)
  replace pSuper1 := pSuper1_
  clear pSuper1_
  have pSuper2_ := keepO pSuper2 (.cells #[.int .i64 0] 23)
  replace pSuper2 := pSuper2_
  clear pSuper2_
  have pMark0_ := keepO pMark0 (.cells #[.int .i64 0] 23)
  replace pMark0 := pMark0_
  clear pMark0_
  have pMember0_ := keepO pMember0 (.cells #[.int .i64 0] 23)
  replace pMember0 := pMember0_
  clear pMember0_
  have pMember1_ := keepO pMember1 (.cells #[.int .i64 0] 23)
  replace pMember1 := pMember1_
  clear pMember1_
  have pMember2_ := keepO pMember2 (.cells #[.int .i64 0] 23)
  replace pMember2 := pMember2_
  clear pMember2_
  have qSuperSuper0_ := keepO qSuperSuper0 (.cells #[.int .i64 0] 23)
  replace qSuperSuper0 := qSuperSuper0_
  clear qSuperSuper0_
  have qSuperSuper1_ := keepO qSuperSuper1 (.cells #[.int .i64 0] 23)
  replace qSuperSuper1 := qSuperSuper1_
  clear qSuperSuper1_
  have qSuperSuper2_ := keepO qSuperSuper2 (.cells #[.int .i64 0] 23)
  replace qSuperSuper2 := qSuperSuper2_
  clear qSuperSuper2_
  have qSuperMark0 : (World.alloc w4 (.cells #[.int .i64 0] 23)).cell? ⟨w4.heap.size, 0, none⟩ = some (.int .i64 0) := (blk_cell (blk_new w4 _) 0).trans rfl
  have B_ := Lib.hid (below_alloc B.out (.cells #[.int .i64 0] 23))
  clear B
  have B := B_
  clear B_
  have E_ := Lib.hid (below_alloc E.out (.cells #[.int .i64 0] 23))
  clear E
  have E := E_
  clear E_
  go_wp2_with fail
  refine (super_GetMember_at 64 K ASuper cSuper LSuper 0 0 0 false _ nSuper'.out (Kd.C_below CSuper.out E.out) MSuper.out gSuperMember'.out).mono ?_
  rintro e w5 ⟨rfl, hb⟩
  replace pSuper0 := keepC pSuper0 hb
  replace pSuper1 := keepC pSuper1 hb
  replace pSuper2 := keepC pSuper2 hb
  replace pMark0 := keepC pMark0 hb
  replace pMember0 := keepC pMember0 hb
  replace pMember1 := keepC pMember1 hb
  replace pMember2 := keepC pMember2 hb
  replace qSuperSuper0 := keepC qSuperSuper0 hb
  replace qSuperSuper1 := keepC qSuperSuper1 hb
  replace qSuperSuper2 := keepC qSuperSuper2 hb
  replace qSuperMark0 := keepC qSuperMark0 hb
  have B_ := Lib.hid (belC B.out hb)
  clear B
  have B := B_
  clear B_
  have E_ := Lib.hid (belC E.out hb)
  clear E
  have E := E_
  clear E_
  clear hb
  have pSuper0_ := keepO pSuper0 (.cells #[.int .i64 0, .int .i64 0, .int .i64 0] 25)
  replace pSuper0 := pSuper0_
  clear pSuper0_
  have pSuper1_ := keepO pSuper1 (.cells #[.int .i64 0, .int .i64 0, .int .i64 0] 25)
  replace pSuper1 := pSuper1_
  clear pSuper1_
  have pSuper2_ := keepO pSuper2 (.cells #[.int .i64 0, .int .i64 0, .int .i64 0] 25)
  replace pSuper2 := pSuper2_
  clear pSuper2_
  have pMark0_ := keepO pMark0 (.cells #[.int .i64 0, .int .i64 0, .int .i64 0] 25)
  replace pMark0 := pMark0_
  clear pMark0_
  have pMember0_ := keepO pMember0 (.cells #[.int .i64 0, .int .i64 0, .int .i64 0] 25)
  replace pMember0 := pMember0_
  clear pMember0_
  have pMember1_ := keepO pMember1 (.cells #[.int .i64 0, .int .i64 0, .int .i64 0] 25)
  replace pMember1 := pMember1_
  clear pMember1_
  have pMember2_ := keepO pMember2 (.cells #[.int .i64 0, .int .i64 0, .int .i64 0] 25)
  replace pMember2 := pMember2_
  clear pMember2_
  have qSuperSuper0_ := keepO qSuperSuper0 (.cells #[.int .i64 0, .int .i64 0, .int .i64 0] 25)
  replace qSuperSuper0 := qSuperSuper0_
  clear qSuperSuper0_
  have qSuperSuper1_ := keepO qSuperSuper1 (.cells #[.int .i64 0, .int .i64 0, .int .i64 0] 25)
  replace qSuperSuper1 := qSuperSuper1_
  clear qSuperSuper1_
  have qSuperSuper2_ := keepO qSuperSuper2 (.cells #[.int .i64 0, .int .i64 0, .int .i64 0] 25)
  replace qSuperSuper2 := qSuperSuper2_
  clear qSuperSuper2_
  have qSuperMark0_ := keepO qSuperMark0 (.cells #[.int .i64 0, .int .i64 0, .int .i64 0] 25)
  replace qSuperMark0 := qSuperMark0_
  clear qSuperMark0_
  have qSuperMember0 : (World.alloc w5 (.cells #[.int .i64 0, .int .i64 0, .int .i64 0] 25)).cell? ⟨w5.heap.size, 0, none⟩ = some (.int .i64 0) := (blk_cell (blk_new w5 _) 0).trans rfl
  have qSuperMember1 : (World.alloc w5 (.cells #[.int .i64 0, .int .i64 0, .int .i64 0] 25)).cell? ⟨w5.heap.size, 1, none⟩ = some (.int .i64 0) := (blk_cell (blk_new w5 _) 1).trans rfl
  have qSuperMember2 : (World.alloc w5 (.cells #[.int .i64 0, .int .i64 0, .int .i64 0] 25)).cell? ⟨w5.heap.size, 2, none⟩ = some (.int .i64 0) := (blk_cell (blk_new w5 _) 2).trans rfl
  have B_ := Lib.hid (below_alloc B.out (.cells #[.int .i64 0, .int .i64 0, .int .i64 0] 25))
  clear B
  have B := B_
  clear B_
  have E_ := Lib.hid (below_alloc E.out (.cells #[.int .i64 0, .int .i64 0, .int .i64 0] 25))
  clear E
  have E := E_
  clear E_
  clear E CSuper MSuper
  go_wp2_with fail
  refine (super_PutMark.calls K n [] false _ hMark'.out).mono ?_
  rintro e w6 ⟨v0, rfl, hR, hb⟩
  obtain ⟨AMark, cMark, rfl⟩ := Kd.R_slice hR
  replace pSuper0 := keepC pSuper0 hb
  replace pSuper1 := keepC pSuper1 hb
  replace pSuper2 := keepC pSuper2 hb
  replace pMark0 := keepC pMark0 hb
  replace pMember0 := keepC pMember0 hb
  replace pMember1 := keepC pMember1 hb
  replace pMember2 := keepC pMember2 hb
  replace qSuperSuper0 := keepC qSuperSuper0 hb
  replace qSuperSuper1 := keepC qSuperSuper1 hb
  replace qSuperSuper2 := keepC qSuperSuper2 hb
  replace qSuperMark0 := keepC qSuperMark0 hb
  replace qSuperMember0 := keepC qSuperMember0 hb
  replace qSuperMember1 := keepC qSuperMember1 hb
  replace qSuperMember2 := keepC qSuperMember2 hb
  have B_ := Lib.hid (belC B.out hb)
  clear B
  have B := B_
  clear B_
  clear hb
  clear hR
  go_wp2_with fail
  refine (super_PutMember.calls K e t u [] false _ hMember'.out).mono ?_
  rintro e w7 ⟨v0, rfl, hR, hb⟩
  obtain ⟨AMember, cMember, rfl⟩ := Kd.R_slice hR
  replace pSuper0 := keepC pSuper0 hb
  replace pSuper1 := keepC pSuper1 hb
  replace pSuper2 := keepC pSuper2 hb
  replace pMark0 := keepC pMark0 hb
  replace pMember0 := keepC pMember0 hb
  replace pMember1 := keepC pMember1 hb
  replace pMember2 := keepC pMember2 hb
  replace qSuperSuper0 := keepC qSuperSuper0 hb
  replace qSuperSuper1 := keepC qSuperSuper1 hb
  replace qSuperSuper2 := keepC qSuperSuper2 hb
  replace qSuperMark0 := keepC qSuperMark0 hb
  replace qSuperMember0 := keepC qSuperMember0 hb
  replace qSuperMember1 := keepC qSuperMember1 hb
  replace qSuperMember2 := keepC qSuperMember2 hb
  have B_ := Lib.hid (belC B.out hb)
  clear B
  have B := B_
  clear B_
  clear hb
  clear hR
  go_wp2
  go_ret
  exact ⟨rfl, B.out⟩
set_option maxHeartbeats 1000000 in
theorem walk_ftt (K : Nat) (d r s n e t u : Int) (hSuper : super_PutSuper.f K d r s = some ([], false)) (LMark : List Int) (hMark : super_PutMark.f K n = some (LMark, true)) (nMark : LMark.length = 64) (gMarkMark : super_GetMark.f K LMark = some (n, true)) (gMarkSuper : super_GetSuper.f K LMark = some (0, 0, 0, false)) (gMarkMember : super_GetMember.f K LMark = some (0, 0, 0, false)) (LMember : List Int) (hMember : super_PutMember.f K e t u = some (LMember, true)) (nMember : LMember.length = 64) (gMemberMember : super_GetMember.f K LMember = some (e, t, u, true)) (gMemberSuper : super_GetSuper.f K LMember = some (0, 0, 0, false)) (gMemberMark : super_GetMark.f K LMember = some (0, false)) (w : World) (halive : morainelaw05_alive.f K = some true) :
    Calls Tryd.prog 6 #[.agg #[.int .i64 d, .int .i64 r, .int .i64 s], .agg #[.int .i64 n], .agg #[.int .i64 e, .int .i64 t, .int .i64 u]] w fun e w' => e = .returned (.bool true) ∧ Below w.heap.size w w' := by
  have halive' := Lib.hid halive
  have hSuper' := Lib.hid hSuper
  have hMark' := Lib.hid hMark
  have nMark' := Lib.hid nMark
  have gMarkMark' := Lib.hid gMarkMark
  have gMarkSuper' := Lib.hid gMarkSuper
  have gMarkMember' := Lib.hid gMarkMember
  have hMember' := Lib.hid hMember
  have nMember' := Lib.hid nMember
  have gMemberMember' := Lib.hid gMemberMember
  have gMemberSuper' := Lib.hid gMemberSuper
  have gMemberMark' := Lib.hid gMemberMark
  clear halive hSuper hMark nMark gMarkMark gMarkSuper gMarkMember hMember nMember gMemberMember gMemberSuper gMemberMark
  have B := Lib.hid (Below.refl w.heap.size w)
  go_enter Tryd.func6, Tryd.ntmps6
  have pSuper0 : (World.alloc w (.cells #[.int .i64 d, .int .i64 r, .int .i64 s] 40)).cell? ⟨w.heap.size, 0, none⟩ = some (.int .i64 d) := (blk_cell (blk_new w _) 0).trans rfl
  have pSuper1 : (World.alloc w (.cells #[.int .i64 d, .int .i64 r, .int .i64 s] 40)).cell? ⟨w.heap.size, 1, none⟩ = some (.int .i64 r) := (blk_cell (blk_new w _) 1).trans rfl
  have pSuper2 : (World.alloc w (.cells #[.int .i64 d, .int .i64 r, .int .i64 s] 40)).cell? ⟨w.heap.size, 2, none⟩ = some (.int .i64 s) := (blk_cell (blk_new w _) 2).trans rfl
  have B_ := Lib.hid (below_alloc B.out (.cells #[.int .i64 d, .int .i64 r, .int .i64 s] 40))
  clear B
  have B := B_
  clear B_
  have pSuper0_ := keepO pSuper0 (.cells #[.int .i64 n] 23)
  replace pSuper0 := pSuper0_
  clear pSuper0_
  have pSuper1_ := keepO pSuper1 (.cells #[.int .i64 n] 23)
  replace pSuper1 := pSuper1_
  clear pSuper1_
  have pSuper2_ := keepO pSuper2 (.cells #[.int .i64 n] 23)
  replace pSuper2 := pSuper2_
  clear pSuper2_
  have pMark0 : (World.alloc (World.alloc w (.cells #[.int .i64 d, .int .i64 r, .int .i64 s] 40)) (.cells #[.int .i64 n] 23)).cell? ⟨w.heap.size + 1, 0, none⟩ = some (.int .i64 n) := by have h_ := (blk_cell (blk_new (World.alloc w (.cells #[.int .i64 d, .int .i64 r, .int .i64 s] 40)) (.cells #[.int .i64 n] 23)) 0).trans rfl; simp only [World.size_alloc] at h_; exact h_
  have B_ := Lib.hid (below_alloc B.out (.cells #[.int .i64 n] 23))
  clear B
  have B := B_
  clear B_
  have pSuper0_ := keepO pSuper0 (.cells #[.int .i64 e, .int .i64 t, .int .i64 u] 25)
  replace pSuper0 := pSuper0_
  clear pSuper0_
  have pSuper1_ := keepO pSuper1 (.cells #[.int .i64 e, .int .i64 t, .int .i64 u] 25)
  replace pSuper1 := pSuper1_
  clear pSuper1_
  have pSuper2_ := keepO pSuper2 (.cells #[.int .i64 e, .int .i64 t, .int .i64 u] 25)
  replace pSuper2 := pSuper2_
  clear pSuper2_
  have pMark0_ := keepO pMark0 (.cells #[.int .i64 e, .int .i64 t, .int .i64 u] 25)
  replace pMark0 := pMark0_
  clear pMark0_
  have pMember0 : (World.alloc (World.alloc (World.alloc w (.cells #[.int .i64 d, .int .i64 r, .int .i64 s] 40)) (.cells #[.int .i64 n] 23)) (.cells #[.int .i64 e, .int .i64 t, .int .i64 u] 25)).cell? ⟨w.heap.size + 1 + 1, 0, none⟩ = some (.int .i64 e) := by have h_ := (blk_cell (blk_new (World.alloc (World.alloc w (.cells #[.int .i64 d, .int .i64 r, .int .i64 s] 40)) (.cells #[.int .i64 n] 23)) (.cells #[.int .i64 e, .int .i64 t, .int .i64 u] 25)) 0).trans rfl; simp only [World.size_alloc] at h_; exact h_
  have pMember1 : (World.alloc (World.alloc (World.alloc w (.cells #[.int .i64 d, .int .i64 r, .int .i64 s] 40)) (.cells #[.int .i64 n] 23)) (.cells #[.int .i64 e, .int .i64 t, .int .i64 u] 25)).cell? ⟨w.heap.size + 1 + 1, 1, none⟩ = some (.int .i64 t) := by have h_ := (blk_cell (blk_new (World.alloc (World.alloc w (.cells #[.int .i64 d, .int .i64 r, .int .i64 s] 40)) (.cells #[.int .i64 n] 23)) (.cells #[.int .i64 e, .int .i64 t, .int .i64 u] 25)) 1).trans rfl; simp only [World.size_alloc] at h_; exact h_
  have pMember2 : (World.alloc (World.alloc (World.alloc w (.cells #[.int .i64 d, .int .i64 r, .int .i64 s] 40)) (.cells #[.int .i64 n] 23)) (.cells #[.int .i64 e, .int .i64 t, .int .i64 u] 25)).cell? ⟨w.heap.size + 1 + 1, 2, none⟩ = some (.int .i64 u) := by have h_ := (blk_cell (blk_new (World.alloc (World.alloc w (.cells #[.int .i64 d, .int .i64 r, .int .i64 s] 40)) (.cells #[.int .i64 n] 23)) (.cells #[.int .i64 e, .int .i64 t, .int .i64 u] 25)) 2).trans rfl; simp only [World.size_alloc] at h_; exact h_
  have B_ := Lib.hid (below_alloc B.out (.cells #[.int .i64 e, .int .i64 t, .int .i64 u] 25))
  clear B
  have B := B_
  clear B_
  go_wp2_with fail
  refine (morainelaw05_alive.calls K true _ halive'.out).mono ?_
  rintro e w1 ⟨rfl, hb⟩
  replace pSuper0 := keepC pSuper0 hb
  replace pSuper1 := keepC pSuper1 hb
  replace pSuper2 := keepC pSuper2 hb
  replace pMark0 := keepC pMark0 hb
  replace pMember0 := keepC pMember0 hb
  replace pMember1 := keepC pMember1 hb
  replace pMember2 := keepC pMember2 hb
  have B_ := Lib.hid (belC B.out hb)
  clear B
  have B := B_
  clear B_
  clear hb
  go_wp2_with fail
  refine (super_PutSuper.calls K d r s [] false _ hSuper'.out).mono ?_
  rintro e w2 ⟨v0, rfl, hR, hb⟩
  obtain ⟨ASuper, cSuper, rfl⟩ := Kd.R_slice hR
  replace pSuper0 := keepC pSuper0 hb
  replace pSuper1 := keepC pSuper1 hb
  replace pSuper2 := keepC pSuper2 hb
  replace pMark0 := keepC pMark0 hb
  replace pMember0 := keepC pMember0 hb
  replace pMember1 := keepC pMember1 hb
  replace pMember2 := keepC pMember2 hb
  have B_ := Lib.hid (belC B.out hb)
  clear B
  have B := B_
  clear B_
  clear hb
  clear hR
  go_wp2_with fail
  refine (super_PutMark.calls K n LMark true _ hMark'.out).mono ?_
  rintro e w3 ⟨v0, rfl, hR, hb⟩
  obtain ⟨AMark, cMark, rfl⟩ := Kd.R_slice hR
  replace pSuper0 := keepC pSuper0 hb
  replace pSuper1 := keepC pSuper1 hb
  replace pSuper2 := keepC pSuper2 hb
  replace pMark0 := keepC pMark0 hb
  replace pMember0 := keepC pMember0 hb
  replace pMember1 := keepC pMember1 hb
  replace pMember2 := keepC pMember2 hb
  have B_ := Lib.hid (belC B.out hb)
  clear B
  have B := B_
  clear B_
  clear hb
  have CMark := Lib.hid (Kd.R_reads' hR).2.2
  have MMark := Lib.hid (Kd.R_reads' hR).2.1
  have E := Lib.hid (Below.refl w3.heap.size w3)
  rw [nMark'.out]
  clear hR
  go_wp2_with fail
  refine (super_GetMark_at 64 K AMark cMark LMark n true _ nMark'.out (Kd.C_below CMark.out E.out) MMark.out gMarkMark'.out).mono ?_
  rintro e w4 ⟨rfl, hb⟩
  replace pSuper0 := keepC pSuper0 hb
  replace pSuper1 := keepC pSuper1 hb
  replace pSuper2 := keepC pSuper2 hb
  replace pMark0 := keepC pMark0 hb
  replace pMember0 := keepC pMember0 hb
  replace pMember1 := keepC pMember1 hb
  replace pMember2 := keepC pMember2 hb
  have B_ := Lib.hid (belC B.out hb)
  clear B
  have B := B_
  clear B_
  have E_ := Lib.hid (belC E.out hb)
  clear E
  have E := E_
  clear E_
  clear hb
  have pSuper0_ := keepO pSuper0 (.cells #[.int .i64 n] 23)
  replace pSuper0 := pSuper0_
  clear pSuper0_
  have pSuper1_ := keepO pSuper1 (.cells #[.int .i64 n] 23)
  replace pSuper1 := pSuper1_
  clear pSuper1_
  have pSuper2_ := keepO pSuper2 (.cells #[.int .i64 n] 23)
  replace pSuper2 := pSuper2_
  clear pSuper2_
  have pMark0_ := keepO pMark0 (.cells #[.int .i64 n] 23)
  replace pMark0 := pMark0_
  clear pMark0_
  have pMember0_ := keepO pMember0 (.cells #[.int .i64 n] 23)
  replace pMember0 := pMember0_
  clear pMember0_
  have pMember1_ := keepO pMember1 (.cells #[.int .i64 n] 23)
  replace pMember1 := pMember1_
  clear pMember1_
  have pMember2_ := keepO pMember2 (.cells #[.int .i64 n] 23)
  replace pMember2 := pMember2_
  clear pMember2_
  have qMarkMark0 : (World.alloc w4 (.cells #[.int .i64 n] 23)).cell? ⟨w4.heap.size, 0, none⟩ = some (.int .i64 n) := (blk_cell (blk_new w4 _) 0).trans rfl
  have B_ := Lib.hid (below_alloc B.out (.cells #[.int .i64 n] 23))
  clear B
  have B := B_
  clear B_
  have E_ := Lib.hid (below_alloc E.out (.cells #[.int .i64 n] 23))
  clear E
  have E := E_
  clear E_
  go_wp2_with fail
  refine (super_GetSuper_at 64 K AMark cMark LMark 0 0 0 false _ nMark'.out (Kd.C_below CMark.out E.out) MMark.out gMarkSuper'.out).mono ?_
  rintro e w5 ⟨rfl, hb⟩
  replace pSuper0 := keepC pSuper0 hb
  replace pSuper1 := keepC pSuper1 hb
  replace pSuper2 := keepC pSuper2 hb
  replace pMark0 := keepC pMark0 hb
  replace pMember0 := keepC pMember0 hb
  replace pMember1 := keepC pMember1 hb
  replace pMember2 := keepC pMember2 hb
  replace qMarkMark0 := keepC qMarkMark0 hb
  have B_ := Lib.hid (belC B.out hb)
  clear B
  have B := B_
  clear B_
  have E_ := Lib.hid (belC E.out hb)
  clear E
  have E := E_
  clear E_
  clear hb
  have pSuper0_ := keepO pSuper0 (.cells #[.int .i64 0, .int .i64 0, .int .i64 0] 40)
  replace pSuper0 := pSuper0_
  clear pSuper0_
  have pSuper1_ := keepO pSuper1 (.cells #[.int .i64 0, .int .i64 0, .int .i64 0] 40)
  replace pSuper1 := pSuper1_
  clear pSuper1_
  have pSuper2_ := keepO pSuper2 (.cells #[.int .i64 0, .int .i64 0, .int .i64 0] 40)
  replace pSuper2 := pSuper2_
  clear pSuper2_
  have pMark0_ := keepO pMark0 (.cells #[.int .i64 0, .int .i64 0, .int .i64 0] 40)
  replace pMark0 := pMark0_
  clear pMark0_
  have pMember0_ := keepO pMember0 (.cells #[.int .i64 0, .int .i64 0, .int .i64 0] 40)
  replace pMember0 := pMember0_
  clear pMember0_
  have pMember1_ := keepO pMember1 (.cells #[.int .i64 0, .int .i64 0, .int .i64 0] 40)
  replace pMember1 := pMember1_
  clear pMember1_
  have pMember2_ := keepO pMember2 (.cells #[.int .i64 0, .int .i64 0, .int .i64 0] 40)
  replace pMember2 := pMember2_
  clear pMember2_
  have qMarkMark0_ := keepO qMarkMark0 (.cells #[.int .i64 0, .int .i64 0, .int .i64 0] 40)
  replace qMarkMark0 := qMarkMark0_
  clear qMarkMark0_
  have qMarkSuper0 : (World.alloc w5 (.cells #[.int .i64 0, .int .i64 0, .int .i64 0] 40)).cell? ⟨w5.heap.size, 0, none⟩ = some (.int .i64 0) := (blk_cell (blk_new w5 _) 0).trans rfl
  have qMarkSuper1 : (World.alloc w5 (.cells #[.int .i64 0, .int .i64 0, .int .i64 0] 40)).cell? ⟨w5.heap.size, 1, none⟩ = some (.int .i64 0) := (blk_cell (blk_new w5 _) 1).trans rfl
  have qMarkSuper2 : (World.alloc w5 (.cells #[.int .i64 0, .int .i64 0, .int .i64 0] 40)).cell? ⟨w5.heap.size, 2, none⟩ = some (.int .i64 0) := (blk_cell (blk_new w5 _) 2).trans rfl
  have B_ := Lib.hid (below_alloc B.out (.cells #[.int .i64 0, .int .i64 0, .int .i64 0] 40))
  clear B
  have B := B_
  clear B_
  have E_ := Lib.hid (below_alloc E.out (.cells #[.int .i64 0, .int .i64 0, .int .i64 0] 40))
  clear E
  have E := E_
  clear E_
  go_wp2_with fail
  refine (super_GetMember_at 64 K AMark cMark LMark 0 0 0 false _ nMark'.out (Kd.C_below CMark.out E.out) MMark.out gMarkMember'.out).mono ?_
  rintro e w6 ⟨rfl, hb⟩
  replace pSuper0 := keepC pSuper0 hb
  replace pSuper1 := keepC pSuper1 hb
  replace pSuper2 := keepC pSuper2 hb
  replace pMark0 := keepC pMark0 hb
  replace pMember0 := keepC pMember0 hb
  replace pMember1 := keepC pMember1 hb
  replace pMember2 := keepC pMember2 hb
  replace qMarkMark0 := keepC qMarkMark0 hb
  replace qMarkSuper0 := keepC qMarkSuper0 hb
  replace qMarkSuper1 := keepC qMarkSuper1 hb
  replace qMarkSuper2 := keepC qMarkSuper2 hb
  have B_ := Lib.hid (belC B.out hb)
  clear B
  have B := B_
  clear B_
  have E_ := Lib.hid (belC E.out hb)
  clear E
  have E := E_
  clear E_
  clear hb
  have pSuper0_ := keepO pSuper0 (.cells #[.int .i64 0, .int .i64 0, .int .i64 0] 25)
  replace pSuper0 := pSuper0_
  clear pSuper0_
  have pSuper1_ := keepO pSuper1 (.cells #[.int .i64 0, .int .i64 0, .int .i64 0] 25)
  replace pSuper1 := pSuper1_
  clear pSuper1_
  have pSuper2_ := keepO pSuper2 (.cells #[.int .i64 0, .int .i64 0, .int .i64 0] 25)
  replace pSuper2 := pSuper2_
  clear pSuper2_
  have pMark0_ := keepO pMark0 (.cells #[.int .i64 0, .int .i64 0, .int .i64 0] 25)
  replace pMark0 := pMark0_
  clear pMark0_
  have pMember0_ := keepO pMember0 (.cells #[.int .i64 0, .int .i64 0, .int .i64 0] 25)
  replace pMember0 := pMember0_
  clear pMember0_
  have pMember1_ := keepO pMember1 (.cells #[.int .i64 0, .int .i64 0, .int .i64 0] 25)
  replace pMember1 := pMember1_
  clear pMember1_
  have pMember2_ := keepO pMember2 (.cells #[.int .i64 0, .int .i64 0, .int .i64 0] 25)
  replace pMember2 := pMember2_
  clear pMember2_
  have qMarkMark0_ := keepO qMarkMark0 (.cells #[.int .i64 0, .int .i64 0, .int .i64 0] 25)
  replace qMarkMark0 := qMarkMark0_
  clear qMarkMark0_
  have qMarkSuper0_ := keepO qMarkSuper0 (.cells #[.int .i64 0, .int .i64 0, .int .i64 0] 25)
  replace qMarkSuper0 := qMarkSuper0_
  clear qMarkSuper0_
  have qMarkSuper1_ := keepO qMarkSuper1 (.cells #[.int .i64 0, .int .i64 0, .int .i64 0] 25)
  replace qMarkSuper1 := qMarkSuper1_
  clear qMarkSuper1_
  have qMarkSuper2_ := keepO qMarkSuper2 (.cells #[.int .i64 0, .int .i64 0, .int .i64 0] 25)
  replace qMarkSuper2 := qMarkSuper2_
  clear qMarkSuper2_
  have qMarkMember0 : (World.alloc w6 (.cells #[.int .i64 0, .int .i64 0, .int .i64 0] 25)).cell? ⟨w6.heap.size, 0, none⟩ = some (.int .i64 0) := (blk_cell (blk_new w6 _) 0).trans rfl
  have qMarkMember1 : (World.alloc w6 (.cells #[.int .i64 0, .int .i64 0, .int .i64 0] 25)).cell? ⟨w6.heap.size, 1, none⟩ = some (.int .i64 0) := (blk_cell (blk_new w6 _) 1).trans rfl
  have qMarkMember2 : (World.alloc w6 (.cells #[.int .i64 0, .int .i64 0, .int .i64 0] 25)).cell? ⟨w6.heap.size, 2, none⟩ = some (.int .i64 0) := (blk_cell (blk_new w6 _) 2).trans rfl
  have B_ := Lib.hid (below_alloc B.out (.cells #[.int .i64 0, .int .i64 0, .int .i64 0] 25))
  clear B
  have B := B_
  clear B_
  have E_ := Lib.hid (below_alloc E.out (.cells #[.int .i64 0, .int .i64 0, .int .i64 0] 25))
  clear E
  have E := E_
  clear E_
  clear E CMark MMark
  go_wp2_with fail
  refine (super_PutMember.calls K e t u LMember true _ hMember'.out).mono ?_
  rintro e w7 ⟨v0, rfl, hR, hb⟩
  obtain ⟨AMember, cMember, rfl⟩ := Kd.R_slice hR
  replace pSuper0 := keepC pSuper0 hb
  replace pSuper1 := keepC pSuper1 hb
  replace pSuper2 := keepC pSuper2 hb
  replace pMark0 := keepC pMark0 hb
  replace pMember0 := keepC pMember0 hb
  replace pMember1 := keepC pMember1 hb
  replace pMember2 := keepC pMember2 hb
  replace qMarkMark0 := keepC qMarkMark0 hb
  replace qMarkSuper0 := keepC qMarkSuper0 hb
  replace qMarkSuper1 := keepC qMarkSuper1 hb
  replace qMarkSuper2 := keepC qMarkSuper2 hb
  replace qMarkMember0 := keepC qMarkMember0 hb
  replace qMarkMember1 := keepC qMarkMember1 hb
  replace qMarkMember2 := keepC qMarkMember2 hb
  have B_ := Lib.hid (belC B.out hb)
  clear B
  have B := B_
  clear B_
  clear hb
  have CMember := Lib.hid (Kd.R_reads' hR).2.2
  have MMember := Lib.hid (Kd.R_reads' hR).2.1
  have E := Lib.hid (Below.refl w7.heap.size w7)
  rw [nMember'.out]
  clear hR
  go_wp2_with fail
  refine (super_GetMember_at 64 K AMember cMember LMember e t u true _ nMember'.out (Kd.C_below CMember.out E.out) MMember.out gMemberMember'.out).mono ?_
  rintro e w8 ⟨rfl, hb⟩
  replace pSuper0 := keepC pSuper0 hb
  replace pSuper1 := keepC pSuper1 hb
  replace pSuper2 := keepC pSuper2 hb
  replace pMark0 := keepC pMark0 hb
  replace pMember0 := keepC pMember0 hb
  replace pMember1 := keepC pMember1 hb
  replace pMember2 := keepC pMember2 hb
  replace qMarkMark0 := keepC qMarkMark0 hb
  replace qMarkSuper0 := keepC qMarkSuper0 hb
  replace qMarkSuper1 := keepC qMarkSuper1 hb
  replace qMarkSuper2 := keepC qMarkSuper2 hb
  replace qMarkMember0 := keepC qMarkMember0 hb
  replace qMarkMember1 := keepC qMarkMember1 hb
  replace qMarkMember2 := keepC qMarkMember2 hb
  have B_ := Lib.hid (belC B.out hb)
  clear B
  have B := B_
  clear B_
  have E_ := Lib.hid (belC E.out hb)
  clear E
  have E := E_
  clear E_
  clear hb
  have pSuper0_ := keepO pSuper0 (.cells #[.int .i64 e, .int .i64 t, .int .i64 u] 25)
  replace pSuper0 := pSuper0_
  clear pSuper0_
  have pSuper1_ := keepO pSuper1 (.cells #[.int .i64 e, .int .i64 t, .int .i64 u] 25)
  replace pSuper1 := pSuper1_
  clear pSuper1_
  have pSuper2_ := keepO pSuper2 (.cells #[.int .i64 e, .int .i64 t, .int .i64 u] 25)
  replace pSuper2 := pSuper2_
  clear pSuper2_
  have pMark0_ := keepO pMark0 (.cells #[.int .i64 e, .int .i64 t, .int .i64 u] 25)
  replace pMark0 := pMark0_
  clear pMark0_
  have pMember0_ := keepO pMember0 (.cells #[.int .i64 e, .int .i64 t, .int .i64 u] 25)
  replace pMember0 := pMember0_
  clear pMember0_
  have pMember1_ := keepO pMember1 (.cells #[.int .i64 e, .int .i64 t, .int .i64 u] 25)
  replace pMember1 := pMember1_
  clear pMember1_
  have pMember2_ := keepO pMember2 (.cells #[.int .i64 e, .int .i64 t, .int .i64 u] 25)
  replace pMember2 := pMember2_
  clear pMember2_
  have qMarkMark0_ := keepO qMarkMark0 (.cells #[.int .i64 e, .int .i64 t, .int .i64 u] 25)
  replace qMarkMark0 := qMarkMark0_
  clear qMarkMark0_
  have qMarkSuper0_ := keepO qMarkSuper0 (.cells #[.int .i64 e, .int .i64 t, .int .i64 u] 25)
  replace qMarkSuper0 := qMarkSuper0_
  clear qMarkSuper0_
  have qMarkSuper1_ := keepO qMarkSuper1 (.cells #[.int .i64 e, .int .i64 t, .int .i64 u] 25)
  replace qMarkSuper1 := qMarkSuper1_
  clear qMarkSuper1_
  have qMarkSuper2_ := keepO qMarkSuper2 (.cells #[.int .i64 e, .int .i64 t, .int .i64 u] 25)
  replace qMarkSuper2 := qMarkSuper2_
  clear qMarkSuper2_
  have qMarkMember0_ := keepO qMarkMember0 (.cells #[.int .i64 e, .int .i64 t, .int .i64 u] 25)
  replace qMarkMember0 := qMarkMember0_
  clear qMarkMember0_
  have qMarkMember1_ := keepO qMarkMember1 (.cells #[.int .i64 e, .int .i64 t, .int .i64 u] 25)
  replace qMarkMember1 := qMarkMember1_
  clear qMarkMember1_
  have qMarkMember2_ := keepO qMarkMember2 (.cells #[.int .i64 e, .int .i64 t, .int .i64 u] 25)
  replace qMarkMember2 := qMarkMember2_
  clear qMarkMember2_
  have qMemberMember0 : (World.alloc w8 (.cells #[.int .i64 e, .int .i64 t, .int .i64 u] 25)).cell? ⟨w8.heap.size, 0, none⟩ = some (.int .i64 e) := (blk_cell (blk_new w8 _) 0).trans rfl
  have qMemberMember1 : (World.alloc w8 (.cells #[.int .i64 e, .int .i64 t, .int .i64 u] 25)).cell? ⟨w8.heap.size, 1, none⟩ = some (.int .i64 t) := (blk_cell (blk_new w8 _) 1).trans rfl
  have qMemberMember2 : (World.alloc w8 (.cells #[.int .i64 e, .int .i64 t, .int .i64 u] 25)).cell? ⟨w8.heap.size, 2, none⟩ = some (.int .i64 u) := (blk_cell (blk_new w8 _) 2).trans rfl
  have B_ := Lib.hid (below_alloc B.out (.cells #[.int .i64 e, .int .i64 t, .int .i64 u] 25))
  clear B
  have B := B_
  clear B_
  have E_ := Lib.hid (below_alloc E.out (.cells #[.int .i64 e, .int .i64 t, .int .i64 u] 25))
  clear E
  have E := E_
  clear E_
  go_wp2_with fail
  refine (super_GetSuper_at 64 K AMember cMember LMember 0 0 0 false _ nMember'.out (Kd.C_below CMember.out E.out) MMember.out gMemberSuper'.out).mono ?_
  rintro e w9 ⟨rfl, hb⟩
  replace pSuper0 := keepC pSuper0 hb
  replace pSuper1 := keepC pSuper1 hb
  replace pSuper2 := keepC pSuper2 hb
  replace pMark0 := keepC pMark0 hb
  replace pMember0 := keepC pMember0 hb
  replace pMember1 := keepC pMember1 hb
  replace pMember2 := keepC pMember2 hb
  replace qMarkMark0 := keepC qMarkMark0 hb
  replace qMarkSuper0 := keepC qMarkSuper0 hb
  replace qMarkSuper1 := keepC qMarkSuper1 hb
  replace qMarkSuper2 := keepC qMarkSuper2 hb
  replace qMarkMember0 := keepC qMarkMember0 hb
  replace qMarkMember1 := keepC qMarkMember1 hb
  replace qMarkMember2 := keepC qMarkMember2 hb
  replace qMemberMember0 := keepC qMemberMember0 hb
  replace qMemberMember1 := keepC qMemberMember1 hb
  replace qMemberMember2 := keepC qMemberMember2 hb
  have B_ := Lib.hid (belC B.out hb)
  clear B
  have B := B_
  clear B_
  have E_ := Lib.hid (belC E.out hb)
  clear E
  have E := E_
  clear E_
  clear hb
  have pSuper0_ := keepO pSuper0 (.cells #[.int .i64 0, .int .i64 0, .int .i64 0] 40)
  replace pSuper0 := pSuper0_
  clear pSuper0_
  have pSuper1_ := keepO pSuper1 (.cells #[.int .i64 0, .int .i64 0, .int .i64 0] 40)
  replace pSuper1 := pSuper1_
  clear pSuper1_
  have pSuper2_ := keepO pSuper2 (.cells #[.int .i64 0, .int .i64 0, .int .i64 0] 40)
  replace pSuper2 := pSuper2_
  clear pSuper2_
  have pMark0_ := keepO pMark0 (.cells #[.int .i64 0, .int .i64 0, .int .i64 0] 40)
  replace pMark0 := pMark0_
  clear pMark0_
  have pMember0_ := keepO pMember0 (.cells #[.int .i64 0, .int .i64 0, .int .i64 0] 40)
  replace pMember0 := pMember0_
  clear pMember0_
  have pMember1_ := keepO pMember1 (.cells #[.int .i64 0, .int .i64 0, .int .i64 0] 40)
  replace pMember1 := pMember1_
  clear pMember1_
  have pMember2_ := keepO pMember2 (.cells #[.int .i64 0, .int .i64 0, .int .i64 0] 40)
  replace pMember2 := pMember2_
  clear pMember2_
  have qMarkMark0_ := keepO qMarkMark0 (.cells #[.int .i64 0, .int .i64 0, .int .i64 0] 40)
  replace qMarkMark0 := qMarkMark0_
  clear qMarkMark0_
  have qMarkSuper0_ := keepO qMarkSuper0 (.cells #[.int .i64 0, .int .i64 0, .int .i64 0] 40)
  replace qMarkSuper0 := qMarkSuper0_
  clear qMarkSuper0_
  have qMarkSuper1_ := keepO qMarkSuper1 (.cells #[.int .i64 0, .int .i64 0, .int .i64 0] 40)
  replace qMarkSuper1 := qMarkSuper1_
  clear qMarkSuper1_
  have qMarkSuper2_ := keepO qMarkSuper2 (.cells #[.int .i64 0, .int .i64 0, .int .i64 0] 40)
  replace qMarkSuper2 := qMarkSuper2_
  clear qMarkSuper2_
  have qMarkMember0_ := keepO qMarkMember0 (.cells #[.int .i64 0, .int .i64 0, .int .i64 0] 40)
  replace qMarkMember0 := qMarkMember0_
  clear qMarkMember0_
  have qMarkMember1_ := keepO qMarkMember1 (.cells #[.int .i64 0, .int .i64 0, .int .i64 0] 40)
  replace qMarkMember1 := qMarkMember1_
  clear qMarkMember1_
  have qMarkMember2_ := keepO qMarkMember2 (.cells #[.int .i64 0, .int .i64 0, .int .i64 0] 40)
  replace qMarkMember2 := qMarkMember2_
  clear qMarkMember2_
  have qMemberMember0_ := keepO qMemberMember0 (.cells #[.int .i64 0, .int .i64 0, .int .i64 0] 40)
  replace qMemberMember0 := qMemberMember0_
  clear qMemberMember0_
  have qMemberMember1_ := keepO qMemberMember1 (.cells #[.int .i64 0, .int .i64 0, .int .i64 0] 40)
  replace qMemberMember1 := qMemberMember1_
  clear qMemberMember1_
  have qMemberMember2_ := keepO qMemberMember2 (.cells #[.int .i64 0, .int .i64 0, .int .i64 0] 40)
  replace qMemberMember2 := qMemberMember2_
  clear qMemberMember2_
  have qMemberSuper0 : (World.alloc w9 (.cells #[.int .i64 0, .int .i64 0, .int .i64 0] 40)).cell? ⟨w9.heap.size, 0, none⟩ = some (.int .i64 0) := (blk_cell (blk_new w9 _) 0).trans rfl
  have qMemberSuper1 : (World.alloc w9 (.cells #[.int .i64 0, .int .i64 0, .int .i64 0] 40)).cell? ⟨w9.heap.size, 1, none⟩ = some (.int .i64 0) := (blk_cell (blk_new w9 _) 1).trans rfl
  have qMemberSuper2 : (World.alloc w9 (.cells #[.int .i64 0, .int .i64 0, .int .i64 0] 40)).cell? ⟨w9.heap.size, 2, none⟩ = some (.int .i64 0) := (blk_cell (blk_new w9 _) 2).trans rfl
  have B_ := Lib.hid (below_alloc B.out (.cells #[.int .i64 0, .int .i64 0, .int .i64 0] 40))
  clear B
  have B := B_
  clear B_
  have E_ := Lib.hid (below_alloc E.out (.cells #[.int .i64 0, .int .i64 0, .int .i64 0] 40))
  clear E
  have E := E_
  clear E_
  go_wp2_with fail
  refine (super_GetMark_at 64 K AMember cMember LMember 0 false _ nMember'.out (Kd.C_below CMember.out E.out) MMember.out gMemberMark'.out).mono ?_
  rintro e w10 ⟨rfl, hb⟩
  replace pSuper0 := keepC pSuper0 hb
  replace pSuper1 := keepC pSuper1 hb
  replace pSuper2 := keepC pSuper2 hb
  replace pMark0 := keepC pMark0 hb
  replace pMember0 := keepC pMember0 hb
  replace pMember1 := keepC pMember1 hb
  replace pMember2 := keepC pMember2 hb
  replace qMarkMark0 := keepC qMarkMark0 hb
  replace qMarkSuper0 := keepC qMarkSuper0 hb
  replace qMarkSuper1 := keepC qMarkSuper1 hb
  replace qMarkSuper2 := keepC qMarkSuper2 hb
  replace qMarkMember0 := keepC qMarkMember0 hb
  replace qMarkMember1 := keepC qMarkMember1 hb
  replace qMarkMember2 := keepC qMarkMember2 hb
  replace qMemberMember0 := keepC qMemberMember0 hb
  replace qMemberMember1 := keepC qMemberMember1 hb
  replace qMemberMember2 := keepC qMemberMember2 hb
  replace qMemberSuper0 := keepC qMemberSuper0 hb
  replace qMemberSuper1 := keepC qMemberSuper1 hb
  replace qMemberSuper2 := keepC qMemberSuper2 hb
  have B_ := Lib.hid (belC B.out hb)
  clear B
  have B := B_
  clear B_
  have E_ := Lib.hid (belC E.out hb)
  clear E
  have E := E_
  clear E_
  clear hb
  have pSuper0_ := keepO pSuper0 (.cells #[.int .i64 0] 23)
  replace pSuper0 := pSuper0_
  clear pSuper0_
  have pSuper1_ := keepO pSuper1 (.cells #[.int .i64 0] 23)
  replace pSuper1 := pSuper1_
  clear pSuper1_
  have pSuper2_ := keepO pSuper2 (.cells #[.int .i64 0] 23)
  replace pSuper2 := pSuper2_
  clear pSuper2_
  have pMark0_ := keepO pMark0 (.cells #[.int .i64 0] 23)
  replace pMark0 := pMark0_
  clear pMark0_
  have pMember0_ := keepO pMember0 (.cells #[.int .i64 0] 23)
  replace pMember0 := pMember0_
  clear pMember0_
  have pMember1_ := keepO pMember1 (.cells #[.int .i64 0] 23)
  replace pMember1 := pMember1_
  clear pMember1_
  have pMember2_ := keepO pMember2 (.cells #[.int .i64 0] 23)
  replace pMember2 := pMember2_
  clear pMember2_
  have qMarkMark0_ := keepO qMarkMark0 (.cells #[.int .i64 0] 23)
  replace qMarkMark0 := qMarkMark0_
  clear qMarkMark0_
  have qMarkSuper0_ := keepO qMarkSuper0 (.cells #[.int .i64 0] 23)
  replace qMarkSuper0 := qMarkSuper0_
  clear qMarkSuper0_
  have qMarkSuper1_ := keepO qMarkSuper1 (.cells #[.int .i64 0] 23)
  replace qMarkSuper1 := qMarkSuper1_
  clear qMarkSuper1_
  have qMarkSuper2_ := keepO qMarkSuper2 (.cells #[.int .i64 0] 23)
  replace qMarkSuper2 := qMarkSuper2_
  clear qMarkSuper2_
  have qMarkMember0_ := keepO qMarkMember0 (.cells #[.int .i64 0] 23)
  replace qMarkMember0 := qMarkMember0_
  clear qMarkMember0_
  have qMarkMember1_ := keepO qMarkMember1 (.cells #[.int .i64 0] 23)
  replace qMarkMember1 := qMarkMember1_
  clear qMarkMember1_
  have qMarkMember2_ := keepO qMarkMember2 (.cells #[.int .i64 0] 23)
  replace qMarkMember2 := qMarkMember2_
  clear qMarkMember2_
  have qMemberMember0_ := keepO qMemberMember0 (.cells #[.int .i64 0] 23)
  replace qMemberMember0 := qMemberMember0_
  clear qMemberMember0_
  have qMemberMember1_ := keepO qMemberMember1 (.cells #[.int .i64 0] 23)
  replace qMemberMember1 := qMemberMember1_
  clear qMemberMember1_
  have qMemberMember2_ := keepO qMemberMember2 (.cells #[.int .i64 0] 23)
  replace qMemberMember2 := qMemberMember2_
  clear qMemberMember2_
  have qMemberSuper0_ := keepO qMemberSuper0 (.cells #[.int .i64 0] 23)
  replace qMemberSuper0 := qMemberSuper0_
  clear qMemberSuper0_
  have qMemberSuper1_ := keepO qMemberSuper1 (.cells #[.int .i64 0] 23)
  replace qMemberSuper1 := qMemberSuper1_
  clear qMemberSuper1_
  have qMemberSuper2_ := keepO qMemberSuper2 (.cells #[.int .i64 0] 23)
  replace qMemberSuper2 := qMemberSuper2_
  clear qMemberSuper2_
  have qMemberMark0 : (World.alloc w10 (.cells #[.int .i64 0] 23)).cell? ⟨w10.heap.size, 0, none⟩ = some (.int .i64 0) := (blk_cell (blk_new w10 _) 0).trans rfl
  have B_ := Lib.hid (below_alloc B.out (.cells #[.int .i64 0] 23))
  clear B
  have B := B_
  clear B_
  have E_ := Lib.hid (below_alloc E.out (.cells #[.int .i64 0] 23))
  clear E
  have E := E_
  clear E_
  clear E CMember MMember
  go_wp2
  go_ret
  exact ⟨rfl, B.out⟩
set_option maxHeartbeats 1000000 in
theorem walk_ftf (K : Nat) (d r s n e t u : Int) (hSuper : super_PutSuper.f K d r s = some ([], false)) (LMark : List Int) (hMark : super_PutMark.f K n = some (LMark, true)) (nMark : LMark.length = 64) (gMarkMark : super_GetMark.f K LMark = some (n, true)) (gMarkSuper : super_GetSuper.f K LMark = some (0, 0, 0, false)) (gMarkMember : super_GetMember.f K LMark = some (0, 0, 0, false)) (hMember : super_PutMember.f K e t u = some ([], false)) (w : World) (halive : morainelaw05_alive.f K = some true) :
    Calls Tryd.prog 6 #[.agg #[.int .i64 d, .int .i64 r, .int .i64 s], .agg #[.int .i64 n], .agg #[.int .i64 e, .int .i64 t, .int .i64 u]] w fun e w' => e = .returned (.bool true) ∧ Below w.heap.size w w' := by
  have halive' := Lib.hid halive
  have hSuper' := Lib.hid hSuper
  have hMark' := Lib.hid hMark
  have nMark' := Lib.hid nMark
  have gMarkMark' := Lib.hid gMarkMark
  have gMarkSuper' := Lib.hid gMarkSuper
  have gMarkMember' := Lib.hid gMarkMember
  have hMember' := Lib.hid hMember
  clear halive hSuper hMark nMark gMarkMark gMarkSuper gMarkMember hMember
  have B := Lib.hid (Below.refl w.heap.size w)
  go_enter Tryd.func6, Tryd.ntmps6
  have pSuper0 : (World.alloc w (.cells #[.int .i64 d, .int .i64 r, .int .i64 s] 40)).cell? ⟨w.heap.size, 0, none⟩ = some (.int .i64 d) := (blk_cell (blk_new w _) 0).trans rfl
  have pSuper1 : (World.alloc w (.cells #[.int .i64 d, .int .i64 r, .int .i64 s] 40)).cell? ⟨w.heap.size, 1, none⟩ = some (.int .i64 r) := (blk_cell (blk_new w _) 1).trans rfl
  have pSuper2 : (World.alloc w (.cells #[.int .i64 d, .int .i64 r, .int .i64 s] 40)).cell? ⟨w.heap.size, 2, none⟩ = some (.int .i64 s) := (blk_cell (blk_new w _) 2).trans rfl
  have B_ := Lib.hid (below_alloc B.out (.cells #[.int .i64 d, .int .i64 r, .int .i64 s] 40))
  clear B
  have B := B_
  clear B_
  have pSuper0_ := keepO pSuper0 (.cells #[.int .i64 n] 23)
  replace pSuper0 := pSuper0_
  clear pSuper0_
  have pSuper1_ := keepO pSuper1 (.cells #[.int .i64 n] 23)
  replace pSuper1 := pSuper1_
  clear pSuper1_
  have pSuper2_ := keepO pSuper2 (.cells #[.int .i64 n] 23)
  replace pSuper2 := pSuper2_
  clear pSuper2_
  have pMark0 : (World.alloc (World.alloc w (.cells #[.int .i64 d, .int .i64 r, .int .i64 s] 40)) (.cells #[.int .i64 n] 23)).cell? ⟨w.heap.size + 1, 0, none⟩ = some (.int .i64 n) := by have h_ := (blk_cell (blk_new (World.alloc w (.cells #[.int .i64 d, .int .i64 r, .int .i64 s] 40)) (.cells #[.int .i64 n] 23)) 0).trans rfl; simp only [World.size_alloc] at h_; exact h_
  have B_ := Lib.hid (below_alloc B.out (.cells #[.int .i64 n] 23))
  clear B
  have B := B_
  clear B_
  have pSuper0_ := keepO pSuper0 (.cells #[.int .i64 e, .int .i64 t, .int .i64 u] 25)
  replace pSuper0 := pSuper0_
  clear pSuper0_
  have pSuper1_ := keepO pSuper1 (.cells #[.int .i64 e, .int .i64 t, .int .i64 u] 25)
  replace pSuper1 := pSuper1_
  clear pSuper1_
  have pSuper2_ := keepO pSuper2 (.cells #[.int .i64 e, .int .i64 t, .int .i64 u] 25)
  replace pSuper2 := pSuper2_
  clear pSuper2_
  have pMark0_ := keepO pMark0 (.cells #[.int .i64 e, .int .i64 t, .int .i64 u] 25)
  replace pMark0 := pMark0_
  clear pMark0_
  have pMember0 : (World.alloc (World.alloc (World.alloc w (.cells #[.int .i64 d, .int .i64 r, .int .i64 s] 40)) (.cells #[.int .i64 n] 23)) (.cells #[.int .i64 e, .int .i64 t, .int .i64 u] 25)).cell? ⟨w.heap.size + 1 + 1, 0, none⟩ = some (.int .i64 e) := by have h_ := (blk_cell (blk_new (World.alloc (World.alloc w (.cells #[.int .i64 d, .int .i64 r, .int .i64 s] 40)) (.cells #[.int .i64 n] 23)) (.cells #[.int .i64 e, .int .i64 t, .int .i64 u] 25)) 0).trans rfl; simp only [World.size_alloc] at h_; exact h_
  have pMember1 : (World.alloc (World.alloc (World.alloc w (.cells #[.int .i64 d, .int .i64 r, .int .i64 s] 40)) (.cells #[.int .i64 n] 23)) (.cells #[.int .i64 e, .int .i64 t, .int .i64 u] 25)).cell? ⟨w.heap.size + 1 + 1, 1, none⟩ = some (.int .i64 t) := by have h_ := (blk_cell (blk_new (World.alloc (World.alloc w (.cells #[.int .i64 d, .int .i64 r, .int .i64 s] 40)) (.cells #[.int .i64 n] 23)) (.cells #[.int .i64 e, .int .i64 t, .int .i64 u] 25)) 1).trans rfl; simp only [World.size_alloc] at h_; exact h_
  have pMember2 : (World.alloc (World.alloc (World.alloc w (.cells #[.int .i64 d, .int .i64 r, .int .i64 s] 40)) (.cells #[.int .i64 n] 23)) (.cells #[.int .i64 e, .int .i64 t, .int .i64 u] 25)).cell? ⟨w.heap.size + 1 + 1, 2, none⟩ = some (.int .i64 u) := by have h_ := (blk_cell (blk_new (World.alloc (World.alloc w (.cells #[.int .i64 d, .int .i64 r, .int .i64 s] 40)) (.cells #[.int .i64 n] 23)) (.cells #[.int .i64 e, .int .i64 t, .int .i64 u] 25)) 2).trans rfl; simp only [World.size_alloc] at h_; exact h_
  have B_ := Lib.hid (below_alloc B.out (.cells #[.int .i64 e, .int .i64 t, .int .i64 u] 25))
  clear B
  have B := B_
  clear B_
  go_wp2_with fail
  refine (morainelaw05_alive.calls K true _ halive'.out).mono ?_
  rintro e w1 ⟨rfl, hb⟩
  replace pSuper0 := keepC pSuper0 hb
  replace pSuper1 := keepC pSuper1 hb
  replace pSuper2 := keepC pSuper2 hb
  replace pMark0 := keepC pMark0 hb
  replace pMember0 := keepC pMember0 hb
  replace pMember1 := keepC pMember1 hb
  replace pMember2 := keepC pMember2 hb
  have B_ := Lib.hid (belC B.out hb)
  clear B
  have B := B_
  clear B_
  clear hb
  go_wp2_with fail
  refine (super_PutSuper.calls K d r s [] false _ hSuper'.out).mono ?_
  rintro e w2 ⟨v0, rfl, hR, hb⟩
  obtain ⟨ASuper, cSuper, rfl⟩ := Kd.R_slice hR
  replace pSuper0 := keepC pSuper0 hb
  replace pSuper1 := keepC pSuper1 hb
  replace pSuper2 := keepC pSuper2 hb
  replace pMark0 := keepC pMark0 hb
  replace pMember0 := keepC pMember0 hb
  replace pMember1 := keepC pMember1 hb
  replace pMember2 := keepC pMember2 hb
  have B_ := Lib.hid (belC B.out hb)
  clear B
  have B := B_
  clear B_
  clear hb
  clear hR
  go_wp2_with fail
  refine (super_PutMark.calls K n LMark true _ hMark'.out).mono ?_
  rintro e w3 ⟨v0, rfl, hR, hb⟩
  obtain ⟨AMark, cMark, rfl⟩ := Kd.R_slice hR
  replace pSuper0 := keepC pSuper0 hb
  replace pSuper1 := keepC pSuper1 hb
  replace pSuper2 := keepC pSuper2 hb
  replace pMark0 := keepC pMark0 hb
  replace pMember0 := keepC pMember0 hb
  replace pMember1 := keepC pMember1 hb
  replace pMember2 := keepC pMember2 hb
  have B_ := Lib.hid (belC B.out hb)
  clear B
  have B := B_
  clear B_
  clear hb
  have CMark := Lib.hid (Kd.R_reads' hR).2.2
  have MMark := Lib.hid (Kd.R_reads' hR).2.1
  have E := Lib.hid (Below.refl w3.heap.size w3)
  rw [nMark'.out]
  clear hR
  go_wp2_with fail
  refine (super_GetMark_at 64 K AMark cMark LMark n true _ nMark'.out (Kd.C_below CMark.out E.out) MMark.out gMarkMark'.out).mono ?_
  rintro e w4 ⟨rfl, hb⟩
  replace pSuper0 := keepC pSuper0 hb
  replace pSuper1 := keepC pSuper1 hb
  replace pSuper2 := keepC pSuper2 hb
  replace pMark0 := keepC pMark0 hb
  replace pMember0 := keepC pMember0 hb
  replace pMember1 := keepC pMember1 hb
  replace pMember2 := keepC pMember2 hb
  have B_ := Lib.hid (belC B.out hb)
  clear B
  have B := B_
  clear B_
  have E_ := Lib.hid (belC E.out hb)
  clear E
  have E := E_
  clear E_
  clear hb
  have pSuper0_ := keepO pSuper0 (.cells #[.int .i64 n] 23)
  replace pSuper0 := pSuper0_
  clear pSuper0_
  have pSuper1_ := keepO pSuper1 (.cells #[.int .i64 n] 23)
  replace pSuper1 := pSuper1_
  clear pSuper1_
  have pSuper2_ := keepO pSuper2 (.cells #[.int .i64 n] 23)
  replace pSuper2 := pSuper2_
  clear pSuper2_
  have pMark0_ := keepO pMark0 (.cells #[.int .i64 n] 23)
  replace pMark0 := pMark0_
  clear pMark0_
  have pMember0_ := keepO pMember0 (.cells #[.int .i64 n] 23)
  replace pMember0 := pMember0_
  clear pMember0_
  have pMember1_ := keepO pMember1 (.cells #[.int .i64 n] 23)
  replace pMember1 := pMember1_
  clear pMember1_
  have pMember2_ := keepO pMember2 (.cells #[.int .i64 n] 23)
  replace pMember2 := pMember2_
  clear pMember2_
  have qMarkMark0 : (World.alloc w4 (.cells #[.int .i64 n] 23)).cell? ⟨w4.heap.size, 0, none⟩ = some (.int .i64 n) := (blk_cell (blk_new w4 _) 0).trans rfl
  have B_ := Lib.hid (below_alloc B.out (.cells #[.int .i64 n] 23))
  clear B
  have B := B_
  clear B_
  have E_ := Lib.hid (below_alloc E.out (.cells #[.int .i64 n] 23))
  clear E
  have E := E_
  clear E_
  go_wp2_with fail
  refine (super_GetSuper_at 64 K AMark cMark LMark 0 0 0 false _ nMark'.out (Kd.C_below CMark.out E.out) MMark.out gMarkSuper'.out).mono ?_
  rintro e w5 ⟨rfl, hb⟩
  replace pSuper0 := keepC pSuper0 hb
  replace pSuper1 := keepC pSuper1 hb
  replace pSuper2 := keepC pSuper2 hb
  replace pMark0 := keepC pMark0 hb
  replace pMember0 := keepC pMember0 hb
  replace pMember1 := keepC pMember1 hb
  replace pMember2 := keepC pMember2 hb
  replace qMarkMark0 := keepC qMarkMark0 hb
  have B_ := Lib.hid (belC B.out hb)
  clear B
  have B := B_
  clear B_
  have E_ := Lib.hid (belC E.out hb)
  clear E
  have E := E_
  clear E_
  clear hb
  have pSuper0_ := keepO pSuper0 (.cells #[.int .i64 0, .int .i64 0, .int .i64 0] 40)
  replace pSuper0 := pSuper0_
  clear pSuper0_
  have pSuper1_ := keepO pSuper1 (.cells #[.int .i64 0, .int .i64 0, .int .i64 0] 40)
  replace pSuper1 := pSuper1_
  clear pSuper1_
  have pSuper2_ := keepO pSuper2 (.cells #[.int .i64 0, .int .i64 0, .int .i64 0] 40)
  replace pSuper2 := pSuper2_
  clear pSuper2_
  have pMark0_ := keepO pMark0 (.cells #[.int .i64 0, .int .i64 0, .int .i64 0] 40)
  replace pMark0 := pMark0_
  clear pMark0_
  have pMember0_ := keepO pMember0 (.cells #[.int .i64 0, .int .i64 0, .int .i64 0] 40)
  replace pMember0 := pMember0_
  clear pMember0_
  have pMember1_ := keepO pMember1 (.cells #[.int .i64 0, .int .i64 0, .int .i64 0] 40)
  replace pMember1 := pMember1_
  clear pMember1_
  have pMember2_ := keepO pMember2 (.cells #[.int .i64 0, .int .i64 0, .int .i64 0] 40)
  replace pMember2 := pMember2_
  clear pMember2_
  have qMarkMark0_ := keepO qMarkMark0 (.cells #[.int .i64 0, .int .i64 0, .int .i64 0] 40)
  replace qMarkMark0 := qMarkMark0_
  clear qMarkMark0_
  have qMarkSuper0 : (World.alloc w5 (.cells #[.int .i64 0, .int .i64 0, .int .i64 0] 40)).cell? ⟨w5.heap.size, 0, none⟩ = some (.int .i64 0) := (blk_cell (blk_new w5 _) 0).trans rfl
  have qMarkSuper1 : (World.alloc w5 (.cells #[.int .i64 0, .int .i64 0, .int .i64 0] 40)).cell? ⟨w5.heap.size, 1, none⟩ = some (.int .i64 0) := (blk_cell (blk_new w5 _) 1).trans rfl
  have qMarkSuper2 : (World.alloc w5 (.cells #[.int .i64 0, .int .i64 0, .int .i64 0] 40)).cell? ⟨w5.heap.size, 2, none⟩ = some (.int .i64 0) := (blk_cell (blk_new w5 _) 2).trans rfl
  have B_ := Lib.hid (below_alloc B.out (.cells #[.int .i64 0, .int .i64 0, .int .i64 0] 40))
  clear B
  have B := B_
  clear B_
  have E_ := Lib.hid (below_alloc E.out (.cells #[.int .i64 0, .int .i64 0, .int .i64 0] 40))
  clear E
  have E := E_
  clear E_
  go_wp2_with fail
  refine (super_GetMember_at 64 K AMark cMark LMark 0 0 0 false _ nMark'.out (Kd.C_below CMark.out E.out) MMark.out gMarkMember'.out).mono ?_
  rintro e w6 ⟨rfl, hb⟩
  replace pSuper0 := keepC pSuper0 hb
  replace pSuper1 := keepC pSuper1 hb
  replace pSuper2 := keepC pSuper2 hb
  replace pMark0 := keepC pMark0 hb
  replace pMember0 := keepC pMember0 hb
  replace pMember1 := keepC pMember1 hb
  replace pMember2 := keepC pMember2 hb
  replace qMarkMark0 := keepC qMarkMark0 hb
  replace qMarkSuper0 := keepC qMarkSuper0 hb
  replace qMarkSuper1 := keepC qMarkSuper1 hb
  replace qMarkSuper2 := keepC qMarkSuper2 hb
  have B_ := Lib.hid (belC B.out hb)
  clear B
  have B := B_
  clear B_
  have E_ := Lib.hid (belC E.out hb)
  clear E
  have E := E_
  clear E_
  clear hb
  have pSuper0_ := keepO pSuper0 (.cells #[.int .i64 0, .int .i64 0, .int .i64 0] 25)
  replace pSuper0 := pSuper0_
  clear pSuper0_
  have pSuper1_ := keepO pSuper1 (.cells #[.int .i64 0, .int .i64 0, .int .i64 0] 25)
  replace pSuper1 := pSuper1_
  clear pSuper1_
  have pSuper2_ := keepO pSuper2 (.cells #[.int .i64 0, .int .i64 0, .int .i64 0] 25)
  replace pSuper2 := pSuper2_
  clear pSuper2_
  have pMark0_ := keepO pMark0 (.cells #[.int .i64 0, .int .i64 0, .int .i64 0] 25)
  replace pMark0 := pMark0_
  clear pMark0_
  have pMember0_ := keepO pMember0 (.cells #[.int .i64 0, .int .i64 0, .int .i64 0] 25)
  replace pMember0 := pMember0_
  clear pMember0_
  have pMember1_ := keepO pMember1 (.cells #[.int .i64 0, .int .i64 0, .int .i64 0] 25)
  replace pMember1 := pMember1_
  clear pMember1_
  have pMember2_ := keepO pMember2 (.cells #[.int .i64 0, .int .i64 0, .int .i64 0] 25)
  replace pMember2 := pMember2_
  clear pMember2_
  have qMarkMark0_ := keepO qMarkMark0 (.cells #[.int .i64 0, .int .i64 0, .int .i64 0] 25)
  replace qMarkMark0 := qMarkMark0_
  clear qMarkMark0_
  have qMarkSuper0_ := keepO qMarkSuper0 (.cells #[.int .i64 0, .int .i64 0, .int .i64 0] 25)
  replace qMarkSuper0 := qMarkSuper0_
  clear qMarkSuper0_
  have qMarkSuper1_ := keepO qMarkSuper1 (.cells #[.int .i64 0, .int .i64 0, .int .i64 0] 25)
  replace qMarkSuper1 := qMarkSuper1_
  clear qMarkSuper1_
  have qMarkSuper2_ := keepO qMarkSuper2 (.cells #[.int .i64 0, .int .i64 0, .int .i64 0] 25)
  replace qMarkSuper2 := qMarkSuper2_
  clear qMarkSuper2_
  have qMarkMember0 : (World.alloc w6 (.cells #[.int .i64 0, .int .i64 0, .int .i64 0] 25)).cell? ⟨w6.heap.size, 0, none⟩ = some (.int .i64 0) := (blk_cell (blk_new w6 _) 0).trans rfl
  have qMarkMember1 : (World.alloc w6 (.cells #[.int .i64 0, .int .i64 0, .int .i64 0] 25)).cell? ⟨w6.heap.size, 1, none⟩ = some (.int .i64 0) := (blk_cell (blk_new w6 _) 1).trans rfl
  have qMarkMember2 : (World.alloc w6 (.cells #[.int .i64 0, .int .i64 0, .int .i64 0] 25)).cell? ⟨w6.heap.size, 2, none⟩ = some (.int .i64 0) := (blk_cell (blk_new w6 _) 2).trans rfl
  have B_ := Lib.hid (below_alloc B.out (.cells #[.int .i64 0, .int .i64 0, .int .i64 0] 25))
  clear B
  have B := B_
  clear B_
  have E_ := Lib.hid (below_alloc E.out (.cells #[.int .i64 0, .int .i64 0, .int .i64 0] 25))
  clear E
  have E := E_
  clear E_
  clear E CMark MMark
  go_wp2_with fail
  refine (super_PutMember.calls K e t u [] false _ hMember'.out).mono ?_
  rintro e w7 ⟨v0, rfl, hR, hb⟩
  obtain ⟨AMember, cMember, rfl⟩ := Kd.R_slice hR
  replace pSuper0 := keepC pSuper0 hb
  replace pSuper1 := keepC pSuper1 hb
  replace pSuper2 := keepC pSuper2 hb
  replace pMark0 := keepC pMark0 hb
  replace pMember0 := keepC pMember0 hb
  replace pMember1 := keepC pMember1 hb
  replace pMember2 := keepC pMember2 hb
  replace qMarkMark0 := keepC qMarkMark0 hb
  replace qMarkSuper0 := keepC qMarkSuper0 hb
  replace qMarkSuper1 := keepC qMarkSuper1 hb
  replace qMarkSuper2 := keepC qMarkSuper2 hb
  replace qMarkMember0 := keepC qMarkMember0 hb
  replace qMarkMember1 := keepC qMarkMember1 hb
  replace qMarkMember2 := keepC qMarkMember2 hb
  have B_ := Lib.hid (belC B.out hb)
  clear B
  have B := B_
  clear B_
  clear hb
  clear hR
  go_wp2
  go_ret
  exact ⟨rfl, B.out⟩
set_option maxHeartbeats 1000000 in
theorem walk_fft (K : Nat) (d r s n e t u : Int) (hSuper : super_PutSuper.f K d r s = some ([], false)) (hMark : super_PutMark.f K n = some ([], false)) (LMember : List Int) (hMember : super_PutMember.f K e t u = some (LMember, true)) (nMember : LMember.length = 64) (gMemberMember : super_GetMember.f K LMember = some (e, t, u, true)) (gMemberSuper : super_GetSuper.f K LMember = some (0, 0, 0, false)) (gMemberMark : super_GetMark.f K LMember = some (0, false)) (w : World) (halive : morainelaw05_alive.f K = some true) :
    Calls Tryd.prog 6 #[.agg #[.int .i64 d, .int .i64 r, .int .i64 s], .agg #[.int .i64 n], .agg #[.int .i64 e, .int .i64 t, .int .i64 u]] w fun e w' => e = .returned (.bool true) ∧ Below w.heap.size w w' := by
  have halive' := Lib.hid halive
  have hSuper' := Lib.hid hSuper
  have hMark' := Lib.hid hMark
  have hMember' := Lib.hid hMember
  have nMember' := Lib.hid nMember
  have gMemberMember' := Lib.hid gMemberMember
  have gMemberSuper' := Lib.hid gMemberSuper
  have gMemberMark' := Lib.hid gMemberMark
  clear halive hSuper hMark hMember nMember gMemberMember gMemberSuper gMemberMark
  have B := Lib.hid (Below.refl w.heap.size w)
  go_enter Tryd.func6, Tryd.ntmps6
  have pSuper0 : (World.alloc w (.cells #[.int .i64 d, .int .i64 r, .int .i64 s] 40)).cell? ⟨w.heap.size, 0, none⟩ = some (.int .i64 d) := (blk_cell (blk_new w _) 0).trans rfl
  have pSuper1 : (World.alloc w (.cells #[.int .i64 d, .int .i64 r, .int .i64 s] 40)).cell? ⟨w.heap.size, 1, none⟩ = some (.int .i64 r) := (blk_cell (blk_new w _) 1).trans rfl
  have pSuper2 : (World.alloc w (.cells #[.int .i64 d, .int .i64 r, .int .i64 s] 40)).cell? ⟨w.heap.size, 2, none⟩ = some (.int .i64 s) := (blk_cell (blk_new w _) 2).trans rfl
  have B_ := Lib.hid (below_alloc B.out (.cells #[.int .i64 d, .int .i64 r, .int .i64 s] 40))
  clear B
  have B := B_
  clear B_
  have pSuper0_ := keepO pSuper0 (.cells #[.int .i64 n] 23)
  replace pSuper0 := pSuper0_
  clear pSuper0_
  have pSuper1_ := keepO pSuper1 (.cells #[.int .i64 n] 23)
  replace pSuper1 := pSuper1_
  clear pSuper1_
  have pSuper2_ := keepO pSuper2 (.cells #[.int .i64 n] 23)
  replace pSuper2 := pSuper2_
  clear pSuper2_
  have pMark0 : (World.alloc (World.alloc w (.cells #[.int .i64 d, .int .i64 r, .int .i64 s] 40)) (.cells #[.int .i64 n] 23)).cell? ⟨w.heap.size + 1, 0, none⟩ = some (.int .i64 n) := by have h_ := (blk_cell (blk_new (World.alloc w (.cells #[.int .i64 d, .int .i64 r, .int .i64 s] 40)) (.cells #[.int .i64 n] 23)) 0).trans rfl; simp only [World.size_alloc] at h_; exact h_
  have B_ := Lib.hid (below_alloc B.out (.cells #[.int .i64 n] 23))
  clear B
  have B := B_
  clear B_
  have pSuper0_ := keepO pSuper0 (.cells #[.int .i64 e, .int .i64 t, .int .i64 u] 25)
  replace pSuper0 := pSuper0_
  clear pSuper0_
  have pSuper1_ := keepO pSuper1 (.cells #[.int .i64 e, .int .i64 t, .int .i64 u] 25)
  replace pSuper1 := pSuper1_
  clear pSuper1_
  have pSuper2_ := keepO pSuper2 (.cells #[.int .i64 e, .int .i64 t, .int .i64 u] 25)
  replace pSuper2 := pSuper2_
  clear pSuper2_
  have pMark0_ := keepO pMark0 (.cells #[.int .i64 e, .int .i64 t, .int .i64 u] 25)
  replace pMark0 := pMark0_
  clear pMark0_
  have pMember0 : (World.alloc (World.alloc (World.alloc w (.cells #[.int .i64 d, .int .i64 r, .int .i64 s] 40)) (.cells #[.int .i64 n] 23)) (.cells #[.int .i64 e, .int .i64 t, .int .i64 u] 25)).cell? ⟨w.heap.size + 1 + 1, 0, none⟩ = some (.int .i64 e) := by have h_ := (blk_cell (blk_new (World.alloc (World.alloc w (.cells #[.int .i64 d, .int .i64 r, .int .i64 s] 40)) (.cells #[.int .i64 n] 23)) (.cells #[.int .i64 e, .int .i64 t, .int .i64 u] 25)) 0).trans rfl; simp only [World.size_alloc] at h_; exact h_
  have pMember1 : (World.alloc (World.alloc (World.alloc w (.cells #[.int .i64 d, .int .i64 r, .int .i64 s] 40)) (.cells #[.int .i64 n] 23)) (.cells #[.int .i64 e, .int .i64 t, .int .i64 u] 25)).cell? ⟨w.heap.size + 1 + 1, 1, none⟩ = some (.int .i64 t) := by have h_ := (blk_cell (blk_new (World.alloc (World.alloc w (.cells #[.int .i64 d, .int .i64 r, .int .i64 s] 40)) (.cells #[.int .i64 n] 23)) (.cells #[.int .i64 e, .int .i64 t, .int .i64 u] 25)) 1).trans rfl; simp only [World.size_alloc] at h_; exact h_
  have pMember2 : (World.alloc (World.alloc (World.alloc w (.cells #[.int .i64 d, .int .i64 r, .int .i64 s] 40)) (.cells #[.int .i64 n] 23)) (.cells #[.int .i64 e, .int .i64 t, .int .i64 u] 25)).cell? ⟨w.heap.size + 1 + 1, 2, none⟩ = some (.int .i64 u) := by have h_ := (blk_cell (blk_new (World.alloc (World.alloc w (.cells #[.int .i64 d, .int .i64 r, .int .i64 s] 40)) (.cells #[.int .i64 n] 23)) (.cells #[.int .i64 e, .int .i64 t, .int .i64 u] 25)) 2).trans rfl; simp only [World.size_alloc] at h_; exact h_
  have B_ := Lib.hid (below_alloc B.out (.cells #[.int .i64 e, .int .i64 t, .int .i64 u] 25))
  clear B
  have B := B_
  clear B_
  go_wp2_with fail
  refine (morainelaw05_alive.calls K true _ halive'.out).mono ?_
  rintro e w1 ⟨rfl, hb⟩
  replace pSuper0 := keepC pSuper0 hb
  replace pSuper1 := keepC pSuper1 hb
  replace pSuper2 := keepC pSuper2 hb
  replace pMark0 := keepC pMark0 hb
  replace pMember0 := keepC pMember0 hb
  replace pMember1 := keepC pMember1 hb
  replace pMember2 := keepC pMember2 hb
  have B_ := Lib.hid (belC B.out hb)
  clear B
  have B := B_
  clear B_
  clear hb
  go_wp2_with fail
  refine (super_PutSuper.calls K d r s [] false _ hSuper'.out).mono ?_
  rintro e w2 ⟨v0, rfl, hR, hb⟩
  obtain ⟨ASuper, cSuper, rfl⟩ := Kd.R_slice hR
  replace pSuper0 := keepC pSuper0 hb
  replace pSuper1 := keepC pSuper1 hb
  replace pSuper2 := keepC pSuper2 hb
  replace pMark0 := keepC pMark0 hb
  replace pMember0 := keepC pMember0 hb
  replace pMember1 := keepC pMember1 hb
  replace pMember2 := keepC pMember2 hb
  have B_ := Lib.hid (belC B.out hb)
  clear B
  have B := B_
  clear B_
  clear hb
  clear hR
  go_wp2_with fail
  refine (super_PutMark.calls K n [] false _ hMark'.out).mono ?_
  rintro e w3 ⟨v0, rfl, hR, hb⟩
  obtain ⟨AMark, cMark, rfl⟩ := Kd.R_slice hR
  replace pSuper0 := keepC pSuper0 hb
  replace pSuper1 := keepC pSuper1 hb
  replace pSuper2 := keepC pSuper2 hb
  replace pMark0 := keepC pMark0 hb
  replace pMember0 := keepC pMember0 hb
  replace pMember1 := keepC pMember1 hb
  replace pMember2 := keepC pMember2 hb
  have B_ := Lib.hid (belC B.out hb)
  clear B
  have B := B_
  clear B_
  clear hb
  clear hR
  go_wp2_with fail
  refine (super_PutMember.calls K e t u LMember true _ hMember'.out).mono ?_
  rintro e w4 ⟨v0, rfl, hR, hb⟩
  obtain ⟨AMember, cMember, rfl⟩ := Kd.R_slice hR
  replace pSuper0 := keepC pSuper0 hb
  replace pSuper1 := keepC pSuper1 hb
  replace pSuper2 := keepC pSuper2 hb
  replace pMark0 := keepC pMark0 hb
  replace pMember0 := keepC pMember0 hb
  replace pMember1 := keepC pMember1 hb
  replace pMember2 := keepC pMember2 hb
  have B_ := Lib.hid (belC B.out hb)
  clear B
  have B := B_
  clear B_
  clear hb
  have CMember := Lib.hid (Kd.R_reads' hR).2.2
  have MMember := Lib.hid (Kd.R_reads' hR).2.1
  have E := Lib.hid (Below.refl w4.heap.size w4)
  rw [nMember'.out]
  clear hR
  go_wp2_with fail
  refine (super_GetMember_at 64 K AMember cMember LMember e t u true _ nMember'.out (Kd.C_below CMember.out E.out) MMember.out gMemberMember'.out).mono ?_
  rintro e w5 ⟨rfl, hb⟩
  replace pSuper0 := keepC pSuper0 hb
  replace pSuper1 := keepC pSuper1 hb
  replace pSuper2 := keepC pSuper2 hb
  replace pMark0 := keepC pMark0 hb
  replace pMember0 := keepC pMember0 hb
  replace pMember1 := keepC pMember1 hb
  replace pMember2 := keepC pMember2 hb
  have B_ := Lib.hid (belC B.out hb)
  clear B
  have B := B_
  clear B_
  have E_ := Lib.hid (belC E.out hb)
  clear E
  have E := E_
  clear E_
  clear hb
  have pSuper0_ := keepO pSuper0 (.cells #[.int .i64 e, .int .i64 t, .int .i64 u] 25)
  replace pSuper0 := pSuper0_
  clear pSuper0_
  have pSuper1_ := keepO pSuper1 (.cells #[.int .i64 e, .int .i64 t, .int .i64 u] 25)
  replace pSuper1 := pSuper1_
  clear pSuper1_
  have pSuper2_ := keepO pSuper2 (.cells #[.int .i64 e, .int .i64 t, .int .i64 u] 25)
  replace pSuper2 := pSuper2_
  clear pSuper2_
  have pMark0_ := keepO pMark0 (.cells #[.int .i64 e, .int .i64 t, .int .i64 u] 25)
  replace pMark0 := pMark0_
  clear pMark0_
  have pMember0_ := keepO pMember0 (.cells #[.int .i64 e, .int .i64 t, .int .i64 u] 25)
  replace pMember0 := pMember0_
  clear pMember0_
  have pMember1_ := keepO pMember1 (.cells #[.int .i64 e, .int .i64 t, .int .i64 u] 25)
  replace pMember1 := pMember1_
  clear pMember1_
  have pMember2_ := keepO pMember2 (.cells #[.int .i64 e, .int .i64 t, .int .i64 u] 25)
  replace pMember2 := pMember2_
  clear pMember2_
  have qMemberMember0 : (World.alloc w5 (.cells #[.int .i64 e, .int .i64 t, .int .i64 u] 25)).cell? ⟨w5.heap.size, 0, none⟩ = some (.int .i64 e) := (blk_cell (blk_new w5 _) 0).trans rfl
  have qMemberMember1 : (World.alloc w5 (.cells #[.int .i64 e, .int .i64 t, .int .i64 u] 25)).cell? ⟨w5.heap.size, 1, none⟩ = some (.int .i64 t) := (blk_cell (blk_new w5 _) 1).trans rfl
  have qMemberMember2 : (World.alloc w5 (.cells #[.int .i64 e, .int .i64 t, .int .i64 u] 25)).cell? ⟨w5.heap.size, 2, none⟩ = some (.int .i64 u) := (blk_cell (blk_new w5 _) 2).trans rfl
  have B_ := Lib.hid (below_alloc B.out (.cells #[.int .i64 e, .int .i64 t, .int .i64 u] 25))
  clear B
  have B := B_
  clear B_
  have E_ := Lib.hid (below_alloc E.out (.cells #[.int .i64 e, .int .i64 t, .int .i64 u] 25))
  clear E
  have E := E_
  clear E_
  go_wp2_with fail
  refine (super_GetSuper_at 64 K AMember cMember LMember 0 0 0 false _ nMember'.out (Kd.C_below CMember.out E.out) MMember.out gMemberSuper'.out).mono ?_
  rintro e w6 ⟨rfl, hb⟩
  replace pSuper0 := keepC pSuper0 hb
  replace pSuper1 := keepC pSuper1 hb
  replace pSuper2 := keepC pSuper2 hb
  replace pMark0 := keepC pMark0 hb
  replace pMember0 := keepC pMember0 hb
  replace pMember1 := keepC pMember1 hb
  replace pMember2 := keepC pMember2 hb
  replace qMemberMember0 := keepC qMemberMember0 hb
  replace qMemberMember1 := keepC qMemberMember1 hb
  replace qMemberMember2 := keepC qMemberMember2 hb
  have B_ := Lib.hid (belC B.out hb)
  clear B
  have B := B_
  clear B_
  have E_ := Lib.hid (belC E.out hb)
  clear E
  have E := E_
  clear E_
  clear hb
  have pSuper0_ := keepO pSuper0 (.cells #[.int .i64 0, .int .i64 0, .int .i64 0] 40)
  replace pSuper0 := pSuper0_
  clear pSuper0_
  have pSuper1_ := keepO pSuper1 (.cells #[.int .i64 0, .int .i64 0, .int .i64 0] 40)
  replace pSuper1 := pSuper1_
  clear pSuper1_
  have pSuper2_ := keepO pSuper2 (.cells #[.int .i64 0, .int .i64 0, .int .i64 0] 40)
  replace pSuper2 := pSuper2_
  clear pSuper2_
  have pMark0_ := keepO pMark0 (.cells #[.int .i64 0, .int .i64 0, .int .i64 0] 40)
  replace pMark0 := pMark0_
  clear pMark0_
  have pMember0_ := keepO pMember0 (.cells #[.int .i64 0, .int .i64 0, .int .i64 0] 40)
  replace pMember0 := pMember0_
  clear pMember0_
  have pMember1_ := keepO pMember1 (.cells #[.int .i64 0, .int .i64 0, .int .i64 0] 40)
  replace pMember1 := pMember1_
  clear pMember1_
  have pMember2_ := keepO pMember2 (.cells #[.int .i64 0, .int .i64 0, .int .i64 0] 40)
  replace pMember2 := pMember2_
  clear pMember2_
  have qMemberMember0_ := keepO qMemberMember0 (.cells #[.int .i64 0, .int .i64 0, .int .i64 0] 40)
  replace qMemberMember0 := qMemberMember0_
  clear qMemberMember0_
  have qMemberMember1_ := keepO qMemberMember1 (.cells #[.int .i64 0, .int .i64 0, .int .i64 0] 40)
  replace qMemberMember1 := qMemberMember1_
  clear qMemberMember1_
  have qMemberMember2_ := keepO qMemberMember2 (.cells #[.int .i64 0, .int .i64 0, .int .i64 0] 40)
  replace qMemberMember2 := qMemberMember2_
  clear qMemberMember2_
  have qMemberSuper0 : (World.alloc w6 (.cells #[.int .i64 0, .int .i64 0, .int .i64 0] 40)).cell? ⟨w6.heap.size, 0, none⟩ = some (.int .i64 0) := (blk_cell (blk_new w6 _) 0).trans rfl
  have qMemberSuper1 : (World.alloc w6 (.cells #[.int .i64 0, .int .i64 0, .int .i64 0] 40)).cell? ⟨w6.heap.size, 1, none⟩ = some (.int .i64 0) := (blk_cell (blk_new w6 _) 1).trans rfl
  have qMemberSuper2 : (World.alloc w6 (.cells #[.int .i64 0, .int .i64 0, .int .i64 0] 40)).cell? ⟨w6.heap.size, 2, none⟩ = some (.int .i64 0) := (blk_cell (blk_new w6 _) 2).trans rfl
  have B_ := Lib.hid (below_alloc B.out (.cells #[.int .i64 0, .int .i64 0, .int .i64 0] 40))
  clear B
  have B := B_
  clear B_
  have E_ := Lib.hid (below_alloc E.out (.cells #[.int .i64 0, .int .i64 0, .int .i64 0] 40))
  clear E
  have E := E_
  clear E_
  go_wp2_with fail
  refine (super_GetMark_at 64 K AMember cMember LMember 0 false _ nMember'.out (Kd.C_below CMember.out E.out) MMember.out gMemberMark'.out).mono ?_
  rintro e w7 ⟨rfl, hb⟩
  replace pSuper0 := keepC pSuper0 hb
  replace pSuper1 := keepC pSuper1 hb
  replace pSuper2 := keepC pSuper2 hb
  replace pMark0 := keepC pMark0 hb
  replace pMember0 := keepC pMember0 hb
  replace pMember1 := keepC pMember1 hb
  replace pMember2 := keepC pMember2 hb
  replace qMemberMember0 := keepC qMemberMember0 hb
  replace qMemberMember1 := keepC qMemberMember1 hb
  replace qMemberMember2 := keepC qMemberMember2 hb
  replace qMemberSuper0 := keepC qMemberSuper0 hb
  replace qMemberSuper1 := keepC qMemberSuper1 hb
  replace qMemberSuper2 := keepC qMemberSuper2 hb
  have B_ := Lib.hid (belC B.out hb)
  clear B
  have B := B_
  clear B_
  have E_ := Lib.hid (belC E.out hb)
  clear E
  have E := E_
  clear E_
  clear hb
  have pSuper0_ := keepO pSuper0 (.cells #[.int .i64 0] 23)
  replace pSuper0 := pSuper0_
  clear pSuper0_
  have pSuper1_ := keepO pSuper1 (.cells #[.int .i64 0] 23)
  replace pSuper1 := pSuper1_
  clear pSuper1_
  have pSuper2_ := keepO pSuper2 (.cells #[.int .i64 0] 23)
  replace pSuper2 := pSuper2_
  clear pSuper2_
  have pMark0_ := keepO pMark0 (.cells #[.int .i64 0] 23)
  replace pMark0 := pMark0_
  clear pMark0_
  have pMember0_ := keepO pMember0 (.cells #[.int .i64 0] 23)
  replace pMember0 := pMember0_
  clear pMember0_
  have pMember1_ := keepO pMember1 (.cells #[.int .i64 0] 23)
  replace pMember1 := pMember1_
  clear pMember1_
  have pMember2_ := keepO pMember2 (.cells #[.int .i64 0] 23)
  replace pMember2 := pMember2_
  clear pMember2_
  have qMemberMember0_ := keepO qMemberMember0 (.cells #[.int .i64 0] 23)
  replace qMemberMember0 := qMemberMember0_
  clear qMemberMember0_
  have qMemberMember1_ := keepO qMemberMember1 (.cells #[.int .i64 0] 23)
  replace qMemberMember1 := qMemberMember1_
  clear qMemberMember1_
  have qMemberMember2_ := keepO qMemberMember2 (.cells #[.int .i64 0] 23)
  replace qMemberMember2 := qMemberMember2_
  clear qMemberMember2_
  have qMemberSuper0_ := keepO qMemberSuper0 (.cells #[.int .i64 0] 23)
  replace qMemberSuper0 := qMemberSuper0_
  clear qMemberSuper0_
  have qMemberSuper1_ := keepO qMemberSuper1 (.cells #[.int .i64 0] 23)
  replace qMemberSuper1 := qMemberSuper1_
  clear qMemberSuper1_
  have qMemberSuper2_ := keepO qMemberSuper2 (.cells #[.int .i64 0] 23)
  replace qMemberSuper2 := qMemberSuper2_
  clear qMemberSuper2_
  have qMemberMark0 : (World.alloc w7 (.cells #[.int .i64 0] 23)).cell? ⟨w7.heap.size, 0, none⟩ = some (.int .i64 0) := (blk_cell (blk_new w7 _) 0).trans rfl
  have B_ := Lib.hid (below_alloc B.out (.cells #[.int .i64 0] 23))
  clear B
  have B := B_
  clear B_
  have E_ := Lib.hid (below_alloc E.out (.cells #[.int .i64 0] 23))
  clear E
  have E := E_
  clear E_
  clear E CMember MMember
  go_wp2
  go_ret
  exact ⟨rfl, B.out⟩
set_option maxHeartbeats 1000000 in
theorem walk_fff (K : Nat) (d r s n e t u : Int) (hSuper : super_PutSuper.f K d r s = some ([], false)) (hMark : super_PutMark.f K n = some ([], false)) (hMember : super_PutMember.f K e t u = some ([], false)) (w : World) (halive : morainelaw05_alive.f K = some true) :
    Calls Tryd.prog 6 #[.agg #[.int .i64 d, .int .i64 r, .int .i64 s], .agg #[.int .i64 n], .agg #[.int .i64 e, .int .i64 t, .int .i64 u]] w fun e w' => e = .returned (.bool true) ∧ Below w.heap.size w w' := by
  have halive' := Lib.hid halive
  have hSuper' := Lib.hid hSuper
  have hMark' := Lib.hid hMark
  have hMember' := Lib.hid hMember
  clear halive hSuper hMark hMember
  have B := Lib.hid (Below.refl w.heap.size w)
  go_enter Tryd.func6, Tryd.ntmps6
  have pSuper0 : (World.alloc w (.cells #[.int .i64 d, .int .i64 r, .int .i64 s] 40)).cell? ⟨w.heap.size, 0, none⟩ = some (.int .i64 d) := (blk_cell (blk_new w _) 0).trans rfl
  have pSuper1 : (World.alloc w (.cells #[.int .i64 d, .int .i64 r, .int .i64 s] 40)).cell? ⟨w.heap.size, 1, none⟩ = some (.int .i64 r) := (blk_cell (blk_new w _) 1).trans rfl
  have pSuper2 : (World.alloc w (.cells #[.int .i64 d, .int .i64 r, .int .i64 s] 40)).cell? ⟨w.heap.size, 2, none⟩ = some (.int .i64 s) := (blk_cell (blk_new w _) 2).trans rfl
  have B_ := Lib.hid (below_alloc B.out (.cells #[.int .i64 d, .int .i64 r, .int .i64 s] 40))
  clear B
  have B := B_
  clear B_
  have pSuper0_ := keepO pSuper0 (.cells #[.int .i64 n] 23)
  replace pSuper0 := pSuper0_
  clear pSuper0_
  have pSuper1_ := keepO pSuper1 (.cells #[.int .i64 n] 23)
  replace pSuper1 := pSuper1_
  clear pSuper1_
  have pSuper2_ := keepO pSuper2 (.cells #[.int .i64 n] 23)
  replace pSuper2 := pSuper2_
  clear pSuper2_
  have pMark0 : (World.alloc (World.alloc w (.cells #[.int .i64 d, .int .i64 r, .int .i64 s] 40)) (.cells #[.int .i64 n] 23)).cell? ⟨w.heap.size + 1, 0, none⟩ = some (.int .i64 n) := by have h_ := (blk_cell (blk_new (World.alloc w (.cells #[.int .i64 d, .int .i64 r, .int .i64 s] 40)) (.cells #[.int .i64 n] 23)) 0).trans rfl; simp only [World.size_alloc] at h_; exact h_
  have B_ := Lib.hid (below_alloc B.out (.cells #[.int .i64 n] 23))
  clear B
  have B := B_
  clear B_
  have pSuper0_ := keepO pSuper0 (.cells #[.int .i64 e, .int .i64 t, .int .i64 u] 25)
  replace pSuper0 := pSuper0_
  clear pSuper0_
  have pSuper1_ := keepO pSuper1 (.cells #[.int .i64 e, .int .i64 t, .int .i64 u] 25)
  replace pSuper1 := pSuper1_
  clear pSuper1_
  have pSuper2_ := keepO pSuper2 (.cells #[.int .i64 e, .int .i64 t, .int .i64 u] 25)
  replace pSuper2 := pSuper2_
  clear pSuper2_
  have pMark0_ := keepO pMark0 (.cells #[.int .i64 e, .int .i64 t, .int .i64 u] 25)
  replace pMark0 := pMark0_
  clear pMark0_
  have pMember0 : (World.alloc (World.alloc (World.alloc w (.cells #[.int .i64 d, .int .i64 r, .int .i64 s] 40)) (.cells #[.int .i64 n] 23)) (.cells #[.int .i64 e, .int .i64 t, .int .i64 u] 25)).cell? ⟨w.heap.size + 1 + 1, 0, none⟩ = some (.int .i64 e) := by have h_ := (blk_cell (blk_new (World.alloc (World.alloc w (.cells #[.int .i64 d, .int .i64 r, .int .i64 s] 40)) (.cells #[.int .i64 n] 23)) (.cells #[.int .i64 e, .int .i64 t, .int .i64 u] 25)) 0).trans rfl; simp only [World.size_alloc] at h_; exact h_
  have pMember1 : (World.alloc (World.alloc (World.alloc w (.cells #[.int .i64 d, .int .i64 r, .int .i64 s] 40)) (.cells #[.int .i64 n] 23)) (.cells #[.int .i64 e, .int .i64 t, .int .i64 u] 25)).cell? ⟨w.heap.size + 1 + 1, 1, none⟩ = some (.int .i64 t) := by have h_ := (blk_cell (blk_new (World.alloc (World.alloc w (.cells #[.int .i64 d, .int .i64 r, .int .i64 s] 40)) (.cells #[.int .i64 n] 23)) (.cells #[.int .i64 e, .int .i64 t, .int .i64 u] 25)) 1).trans rfl; simp only [World.size_alloc] at h_; exact h_
  have pMember2 : (World.alloc (World.alloc (World.alloc w (.cells #[.int .i64 d, .int .i64 r, .int .i64 s] 40)) (.cells #[.int .i64 n] 23)) (.cells #[.int .i64 e, .int .i64 t, .int .i64 u] 25)).cell? ⟨w.heap.size + 1 + 1, 2, none⟩ = some (.int .i64 u) := by have h_ := (blk_cell (blk_new (World.alloc (World.alloc w (.cells #[.int .i64 d, .int .i64 r, .int .i64 s] 40)) (.cells #[.int .i64 n] 23)) (.cells #[.int .i64 e, .int .i64 t, .int .i64 u] 25)) 2).trans rfl; simp only [World.size_alloc] at h_; exact h_
  have B_ := Lib.hid (below_alloc B.out (.cells #[.int .i64 e, .int .i64 t, .int .i64 u] 25))
  clear B
  have B := B_
  clear B_
  go_wp2_with fail
  refine (morainelaw05_alive.calls K true _ halive'.out).mono ?_
  rintro e w1 ⟨rfl, hb⟩
  replace pSuper0 := keepC pSuper0 hb
  replace pSuper1 := keepC pSuper1 hb
  replace pSuper2 := keepC pSuper2 hb
  replace pMark0 := keepC pMark0 hb
  replace pMember0 := keepC pMember0 hb
  replace pMember1 := keepC pMember1 hb
  replace pMember2 := keepC pMember2 hb
  have B_ := Lib.hid (belC B.out hb)
  clear B
  have B := B_
  clear B_
  clear hb
  go_wp2_with fail
  refine (super_PutSuper.calls K d r s [] false _ hSuper'.out).mono ?_
  rintro e w2 ⟨v0, rfl, hR, hb⟩
  obtain ⟨ASuper, cSuper, rfl⟩ := Kd.R_slice hR
  replace pSuper0 := keepC pSuper0 hb
  replace pSuper1 := keepC pSuper1 hb
  replace pSuper2 := keepC pSuper2 hb
  replace pMark0 := keepC pMark0 hb
  replace pMember0 := keepC pMember0 hb
  replace pMember1 := keepC pMember1 hb
  replace pMember2 := keepC pMember2 hb
  have B_ := Lib.hid (belC B.out hb)
  clear B
  have B := B_
  clear B_
  clear hb
  clear hR
  go_wp2_with fail
  refine (super_PutMark.calls K n [] false _ hMark'.out).mono ?_
  rintro e w3 ⟨v0, rfl, hR, hb⟩
  obtain ⟨AMark, cMark, rfl⟩ := Kd.R_slice hR
  replace pSuper0 := keepC pSuper0 hb
  replace pSuper1 := keepC pSuper1 hb
  replace pSuper2 := keepC pSuper2 hb
  replace pMark0 := keepC pMark0 hb
  replace pMember0 := keepC pMember0 hb
  replace pMember1 := keepC pMember1 hb
  replace pMember2 := keepC pMember2 hb
  have B_ := Lib.hid (belC B.out hb)
  clear B
  have B := B_
  clear B_
  clear hb
  clear hR
  go_wp2_with fail
  refine (super_PutMember.calls K e t u [] false _ hMember'.out).mono ?_
  rintro e w4 ⟨v0, rfl, hR, hb⟩
  obtain ⟨AMember, cMember, rfl⟩ := Kd.R_slice hR
  replace pSuper0 := keepC pSuper0 hb
  replace pSuper1 := keepC pSuper1 hb
  replace pSuper2 := keepC pSuper2 hb
  replace pMark0 := keepC pMark0 hb
  replace pMember0 := keepC pMember0 hb
  replace pMember1 := keepC pMember1 hb
  replace pMember2 := keepC pMember2 hb
  have B_ := Lib.hid (belC B.out hb)
  clear B
  have B := B_
  clear B_
  clear hb
  clear hR
  go_wp2
  go_ret
  exact ⟨rfl, B.out⟩
end Go.Proofs.YtkpipmhcjjncdaaDoor.BackWalk
namespace Go.Proofs.YtkpipmhcjjncdaaDoor.PSuperBack
open Go.RowKit
set_option linter.unusedVariables false
theorem morainelaw05_SuperBack.calls (d r s n e t u : Int) (b : Bool) (w : World) (h : n ≤ 9223372036854775807 ∧ e ≤ 9223372036854775807) :
    Calls Tryd.prog 6 #[.agg #[.int .i64 d, .int .i64 r, .int .i64 s], .agg #[.int .i64 n], .agg #[.int .i64 e, .int .i64 t, .int .i64 u]] w fun e w' => e = .returned (.bool true) ∧ Below w.heap.size w w' := by
  obtain ⟨K, h0, h1, h2, h3⟩ := Pure.back_facts d r s n e t u h.1 h.2
  rcases h1 with h1 | ⟨A, h1, a1, a2, a3, a4⟩ <;> rcases h2 with h2 | ⟨B, h2, b1, b2, b3, b4⟩ <;> rcases h3 with h3 | ⟨C, h3, c1, c2, c3, c4⟩
  · exact BackWalk.walk_fff K d r s n e t u h1 h2 h3 w h0
  · exact BackWalk.walk_fft K d r s n e t u h1 h2 C h3 c1 c2 c3 c4 w h0
  · exact BackWalk.walk_ftf K d r s n e t u h1 B h2 b1 b2 b3 b4 h3 w h0
  · exact BackWalk.walk_ftt K d r s n e t u h1 B h2 b1 b2 b3 b4 C h3 c1 c2 c3 c4 w h0
  · exact BackWalk.walk_tff K d r s n e t u A h1 a1 a2 a3 a4 h2 h3 w h0
  · exact BackWalk.walk_tft K d r s n e t u A h1 a1 a2 a3 a4 h2 C h3 c1 c2 c3 c4 w h0
  · exact BackWalk.walk_ttf K d r s n e t u A h1 a1 a2 a3 a4 B h2 b1 b2 b3 b4 h3 w h0
  · exact BackWalk.walk_ttt K d r s n e t u A h1 a1 a2 a3 a4 B h2 b1 b2 b3 b4 C h3 c1 c2 c3 c4 w h0
end Go.Proofs.YtkpipmhcjjncdaaDoor.PSuperBack
namespace Go.Proofs.YtkpipmhcjjncdaaDoor.Pure
theorem SuperBack (d r s n e t u : Int) (_ : (Lit.int .i64 d).wf = true) (_ : (Lit.int .i64 r).wf = true) (_ : (Lit.int .i64 s).wf = true) (w3 : (Lit.int .i64 n).wf = true) (w4 : (Lit.int .i64 e).wf = true) (_ : (Lit.int .i64 t).wf = true) (_ : (Lit.int .i64 u).wf = true) : n ≤ 9223372036854775807 ∧ e ≤ 9223372036854775807 := ⟨(i64_bd w3).2, (i64_bd w4).2⟩
end Go.Proofs.YtkpipmhcjjncdaaDoor.Pure
