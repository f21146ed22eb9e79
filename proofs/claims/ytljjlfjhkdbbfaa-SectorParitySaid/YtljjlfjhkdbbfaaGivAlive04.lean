/- The contract of morainelaw04.alive: a closed call that answers true. -/
import Derived.Test.YtljjlfjhkdbbfaaBase
namespace Go.Proofs.Ytljjlfjhkdbbfaa.Given
open Go.RowKit Go.Proofs.YtljjlfjhkdbbfaaW.PrintWords Go.Proofs.YtljjlfjhkdbbfaaW.PrintLast Go.Proofs.YtljjlfjhkdbbfaaW.PrintMore Go.Proofs.Ytljjlfjhkdbbfaa.Base
set_option linter.unusedVariables false
set_option linter.unusedSimpArgs false

def LA : List Int := [7,0,0,0,2,0,3,0,9] ++ List.replicate 55 0
def LB : List Int := [7,0,0,0,0,0,0,0,1,1] ++ List.replicate 54 0
def LP : List Int := [7,0,0,0,2,0,3,0,8,1] ++ List.replicate 54 0
set_option maxRecDepth 100000 in
theorem fact0 : sector_Encode.f 7 2 3 [9] = some (LA, true) := by kernel_rfl
set_option maxRecDepth 100000 in
theorem fact1 : sector_Encode.f 7 0 0 [1, 1] = some (LB, true) := by kernel_rfl
set_option maxRecDepth 100000 in
theorem fact2 : sector_Parity.f 200 [LA, LB] = some (LP, true) := by kernel_rfl
set_option maxRecDepth 100000 in
theorem fact3 : sector_Restore.f 200 [LB, LP] = some (LA, true) := by kernel_rfl
set_option maxRecDepth 100000 in
theorem fact4 : moraineref00_SameBytes.f 200 LA LA = some true := by kernel_rfl
set_option maxRecDepth 100000 in
theorem fact5 : LA.length = 64 := by kernel_rfl
set_option maxRecDepth 100000 in
theorem fact6 : LA.getD 0 0 = 7 := by kernel_rfl
set_option maxRecDepth 100000 in
theorem fact7 : LA.getD 8 0 = 9 := by kernel_rfl
theorem alive_facts : ∃ a b p : List Int, Hid (sector_Encode.f 7 2 3 [9] = some (a, true)) ∧ Hid (sector_Encode.f 7 0 0 [1, 1] = some (b, true)) ∧ Hid (sector_Parity.f 200 [a, b] = some (p, true)) ∧ Hid (sector_Restore.f 200 [b, p] = some (a, true)) ∧ Hid (moraineref00_SameBytes.f 200 a a = some true) ∧ Hid (a.length = 64) ∧ Hid (a.getD 0 0 = 7) ∧ Hid (a.getD 8 0 = 9) :=
  ⟨LA, LB, LP, fact0, fact1, fact2, fact3, fact4, fact5, fact6, fact7⟩
theorem lit_C (xs : List Int) (w : World) (cs : Array Value) (n : Nat) (hcs : (encs (Value.int .u8) xs).toArray = cs) (hl : xs.length = n) (hn : n ≤ 9223372036854775807) : Kd.C (Kd.int .u8) (w.alloc (.cells cs 5)) (some ⟨w.heap.size, 0, none⟩) n xs := by
  subst hcs; subst hl
  refine Kd.C_of_reads (d := (0 : Int)) (h1 := fun _ => rfl) ⟨rfl, hn, fun _ => ⟨_, rfl, fun j hj => ?_⟩⟩
  rw [Addr.add_zero_off]
  refine (blk_cell (blk_new w _) j).trans ?_
  rw [List.getElem?_toArray]
  exact encs_get (d := (0 : Int)) xs j hj
theorem two_C {w : World} {g t : Nat} {A B : Option Addr} {c d : Nat} {xs ys : List Int} (hb : w.heap[g]? = some (.cells #[.slice A xs.length c, .slice B ys.length d] t (0, 0)))
    (h1 : Kd.C (Kd.int .u8) w A xs.length xs) (hc : xs.length ≤ c) (h2 : Kd.C (Kd.int .u8) w B ys.length ys) (hd : ys.length ≤ d) : Kd.C (Kd.slice 5 (Kd.int .u8)) w (some ⟨g, 0, none⟩) 2 [xs, ys] := by
  refine ⟨rfl, by decide, fun _ => ⟨_, rfl, fun j p hj => ?_⟩⟩
  match j, hj with
  | 0, hj =>
    simp at hj; subst hj
    refine ⟨[.slice A xs.length c], rfl, ⟨A, c, rfl, hc, h1⟩, fun i u hu => ?_⟩
    match i, hu with
    | 0, hu => simp at hu; subst hu; exact (blk_cell hb 0).trans rfl
  | 1, hj =>
    simp at hj; subst hj
    refine ⟨[.slice B ys.length d], rfl, ⟨B, d, rfl, hd, h2⟩, fun i u hu => ?_⟩
    match i, hu with
    | 0, hu => simp at hu; subst hu; exact (blk_cell hb 1).trans rfl

/-- What is kept while blocks come behind. -/
theorem RU.go {w w1 : World} {base : Nat} {v : Value} {xs : List Int} {o : Obj} (h : RU w base v xs) (hB : Below (w.alloc o).heap.size (w.alloc o) w1) : RU w1 base v xs := RU.step (RU.step h ((Below.refl _ _).alloc (Nat.le_refl _) o)) hB
theorem Bel.go {w0 w w1 : World} {o : Obj} (h : Below w0.heap.size w0 w) (hB : Below (w.alloc o).heap.size (w.alloc o) w1) : Below w0.heap.size w0 w1 :=
  (h.trans (((Below.refl _ _).alloc (Nat.le_refl _) o).mono h.size)).trans (hB.mono (Nat.le_trans h.size ((Below.refl w.heap.size w).alloc (Nat.le_refl _) o).size))

theorem encode_lit (x y z : Int) (l r1 : List Int) (cs : Array Value) (n : Nat) (w : World) (hcs : (encs (Value.int .u8) l).toArray = cs) (hl : l.length = n) (hn : n ≤ 100) (h : sector_Encode.f x y z l = some (r1, true)) :
    Calls Try.prog 16 #[.agg #[.int .i64 x, .int .i64 y, .int .i64 z], .slice (some ⟨w.heap.size, 0, none⟩) n n] (w.alloc (.cells cs 5)) fun e w' => ∃ A c, e = .returned (.tuple #[.slice A r1.length c, .bool true]) ∧ RU w' (w.alloc (.cells cs 5)).heap.size (.slice A r1.length c) r1 ∧ Below (w.alloc (.cells cs 5)).heap.size (w.alloc (.cells cs 5)) w' := by
  subst hl
  refine (sector_Encode.calls x y z _ _ l r1 true _ (lit_C l w cs _ hcs rfl (by omega)) (Nat.le_refl _) h).mono ?_
  rintro e w' ⟨v0, rfl, hR, hB⟩
  obtain ⟨A, c, rfl⟩ := Kd.R_slice hR
  exact ⟨A, c, rfl, hR, hB⟩
theorem parity_lit (k f : Nat) (F : List (List Int) → Option (List Int × Bool)) (hF : ∀ (A0 : Option Addr) (c0 : Nat) (l0 : List (List Int)) (r1 : List Int) (r2 : Bool) (w : World), Kd.C (Kd.slice 5 (Kd.int .u8)) w A0 l0.length l0 → l0.length ≤ c0 → F l0 = some (r1, r2) → Calls Try.prog f #[.slice A0 l0.length c0] w fun e w' => ∃ v0_ : Value, e = .returned (.tuple #[v0_, .bool r2]) ∧ Kd.R (Kd.int .u8) 5 w' w.heap.size (fun _ => True) v0_ r1 ∧ Below w.heap.size w w')
    (b1 b2 : Nat) (A B : Option Addr) (c d : Nat) (x y r1 : List Int) (w : World) (h1 : RU w b1 (.slice A x.length c) x) (h2 : RU w b2 (.slice B y.length d) y) (h : F [x, y] = some (r1, true)) :
    Calls Try.prog f #[.slice (some ⟨w.heap.size, 0, none⟩) 2 2] (w.alloc (.cells #[.slice A x.length c, .slice B y.length d] 26)) fun e w' => ∃ A' c', e = .returned (.tuple #[.slice A' r1.length c', .bool true]) ∧ RU w' (w.alloc (.cells #[.slice A x.length c, .slice B y.length d] 26)).heap.size (.slice A' r1.length c') r1 ∧ Below (w.alloc (.cells #[.slice A x.length c, .slice B y.length d] 26)).heap.size (w.alloc (.cells #[.slice A x.length c, .slice B y.length d] 26)) w' := by
  have hb := (Below.refl w.heap.size w).alloc (Nat.le_refl _) (.cells #[.slice A x.length c, .slice B y.length d] 26)
  refine (hF (some ⟨w.heap.size, 0, none⟩) 2 [x, y] r1 true _ (two_C (blk_new w _) (RU.C (RU.step h1 hb)) (C_of_R h1).2.1 (RU.C (RU.step h2 hb)) (C_of_R h2).2.1) (Nat.le_refl 2) h).mono ?_
  rintro e w' ⟨v0, rfl, hR, hB⟩
  obtain ⟨A, c, rfl⟩ := Kd.R_slice hR
  exact ⟨A, c, rfl, hR, hB⟩
theorem same_lit (k b1 b2 : Nat) (A B : Option Addr) (c d : Nat) (x y : List Int) (w : World) (h1 : RU w b1 (.slice A x.length c) x) (h2 : RU w b2 (.slice B y.length d) y) (h : moraineref00_SameBytes.f k x y = some true) :
    Calls Try.prog 14 #[.slice A x.length c, .slice B y.length d] w fun e w' => e = .returned (.bool true) ∧ Drawn0 w w' :=
  moraineref00_SameBytes.calls k _ _ x _ _ y true w h1.C (C_of_R h1).2.1 h2.C (C_of_R h2).2.1 h

theorem Addr.add_nought (ad : Addr) : ad.add 0 = ad := by unfold Addr.add; split <;> simp_all
def morainelaw04_alive.f : Option Bool := some true
set_option maxHeartbeats 400000 in
theorem morainelaw04_alive.calls (r : Bool) (w : World) (h : morainelaw04_alive.f = some r) :
    Calls Try.prog 8 #[] w fun e w' => e = .returned (.bool r) ∧ Below w.heap.size w w' := by
  cases h
  obtain ⟨a, b, p, E0, E1, E2, E3, E4, E5, E6, E7⟩ := alive_facts
  have HB : Hid (Below w.heap.size w w) := Below.refl _ _
  go_enter Try.func8, Try.ntmps8
  go_wp2_with (first | (have g_ := KA.out; clear g_; go_at_call 16; (with_reducible refine (encode_lit 7 0 0 [1, 1] b #[.int .u8 1, .int .u8 1] 2 _ ?h1 ?h2 (by decide) E1.out).mono ?_); (case h1 => simp [encs]); (case h2 => rfl); rintro e w2 ⟨AKB, cKB, rfl, hR, hB⟩; have t_ : Hid (RU w2 _ _ _) := RU.go KA.out hB; clear KA; have KA := t_; clear t_; have t_ : Hid (Below w.heap.size w w2) := Bel.go HB.out hB; clear HB; have HB := t_; clear t_; have KB : Hid (RU w2 _ _ _) := hR; clear hR hB) | (go_at_call 16; (with_reducible refine (encode_lit 7 2 3 [9] a #[.int .u8 9] 1 _ ?h1 ?h2 (by decide) E0.out).mono ?_); (case h1 => simp [encs]); (case h2 => rfl); rintro e w1 ⟨AKA, cKA, rfl, hR, hB⟩; have t_ : Hid (Below w.heap.size w w1) := Bel.go HB.out hB; clear HB; have HB := t_; clear t_; have KA : Hid (RU w1 _ _ _) := hR; clear hR hB) | (go_at_call 11; (with_reducible refine (parity_lit 200 _ _ (sector_Parity.calls 200) _ _ _ _ _ _ a b p _ KA.out KB.out E2.out).mono ?_); rintro e w3 ⟨AKP, cKP, rfl, hR, hB⟩; have t_ : Hid (RU w3 _ _ _) := RU.go KA.out hB; clear KA; have KA := t_; clear t_; have t_ : Hid (RU w3 _ _ _) := RU.go KB.out hB; clear KB; have KB := t_; clear t_; have t_ : Hid (Below w.heap.size w w3) := Bel.go HB.out hB; clear HB; have HB := t_; clear t_; have KP : Hid (RU w3 _ _ _) := hR; clear hR hB) | (go_at_call 12; (with_reducible refine (parity_lit 200 _ _ (sector_Restore.calls 200) _ _ _ _ _ _ b p a _ KB.out KP.out E3.out).mono ?_); rintro e w4 ⟨AKC, cKC, rfl, hR, hB⟩; have t_ : Hid (RU w4 _ _ _) := RU.go KA.out hB; clear KA; have KA := t_; clear t_; have t_ : Hid (RU w4 _ _ _) := RU.go KB.out hB; clear KB; have KB := t_; clear t_; have t_ : Hid (RU w4 _ _ _) := RU.go KP.out hB; clear KP; have KP := t_; clear t_; have t_ : Hid (Below w.heap.size w w4) := Bel.go HB.out hB; clear HB; have HB := t_; clear t_; have KC : Hid (RU w4 _ _ _) := hR; clear hR hB; obtain ⟨ad, ead, hcl⟩ := (Kd.reads_of_C (d := (0 : Int)) (RU.C KA.out)).2.2 (by rw [E5.out]; decide); subst ead; obtain ⟨gA, oA, sA⟩ := ad; obtain rfl : sA = none := (by simpa [Addr.add] using World.cell?_spot (hcl 0 (by rw [E5.out]; decide))); have hg0 : w4.cell? ⟨gA, oA, none⟩ = some (.int .u8 7) := (by have t_ := hcl 0 (by rw [E5.out]; decide); rw [add_two] at t_; exact t_.trans (by rw [E6.out])); have hg8 : w4.cell? ⟨gA, oA + 8, none⟩ = some (.int .u8 9) := (by have t_ := hcl 8 (by rw [E5.out]; decide); rw [add_two] at t_; exact t_.trans (by rw [E7.out])); have hL : ((a.length : Int) == 64) = true := (by rw [E5.out]; rfl); have hq0 : ((0 : Int) < (a.length : Int)) = True := eq_true (by rw [E5.out]; decide); have hq8 : ((8 : Int) < (a.length : Int)) = True := eq_true (by rw [E5.out]; decide); have hn0 : 0 < a.length := (by rw [E5.out]; decide); have hn8 : 8 < a.length := (by rw [E5.out]; decide); clear hcl) | (go_at_call 14; (with_reducible refine (same_lit 200 _ _ _ _ _ _ a a _ KA.out KC.out E4.out).mono ?_); rintro e w5 ⟨rfl, nd, rfl⟩))
  go_ret
  exact ⟨rfl, pw_below_drewN HB.out nd⟩
  all_goals trace_state
end Go.Proofs.Ytljjlfjhkdbbfaa.Given
