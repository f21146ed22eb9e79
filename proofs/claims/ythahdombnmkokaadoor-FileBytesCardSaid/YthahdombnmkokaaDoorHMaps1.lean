/- HMaps1: HivAlive15, HivPuts, HivPlaces, HivCut, HivTurn. -/
import Derived.Test.YthahdombnmkokaaDoorHBlks1
import Derived.Test.YthahdombnmkokaaDoorHBlks2
import Derived.Maps.RangeWalk
import Derived.Laws.IdiomRangeMap
import Derived.Deep.LoopGhost
/- morainelaw15.alive: a closed call that answers true; by hand. -/
namespace Go.Proofs.YthahdombnmkokaaDoor.Given
open Go.RowKit Go.Maps Go.Sort Go.Shelf Go.Proofs.YthahdombnmkokaaDoorW.PrintWords Go.Proofs.YthahdombnmkokaaDoorW.PrintLast Go.Proofs.YthahdombnmkokaaDoorW.PrintMore Go.Proofs.YthahdombnmkokaaDoor.Base
set_option linter.unusedVariables false
set_option linter.unusedSimpArgs false
variable {G : Nat → Prop}
theorem rises_uniq : ∀ {L M : List Int}, L.Pairwise (· < ·) → M.Pairwise (· < ·) → (∀ x, x ∈ L ↔ x ∈ M) → L = M
  | [], [], _, _, _ => rfl
  | [], y :: M, _, _, h => absurd ((h y).2 (by simp)) (by simp)
  | x :: L, [], _, _, h => absurd ((h x).1 (by simp)) (by simp)
  | x :: L, y :: M, h1, h2, h => by
    rw [List.pairwise_cons] at h1 h2
    have hxy : x = y := by
      have a := (h x).1 (by simp)
      have b := (h y).2 (by simp)
      rw [List.mem_cons] at a b
      rcases a with a | a
      · exact a
      rcases b with b | b
      · exact b.symm
      have := h2.1 x a
      have := h1.1 y b
      omega
    subst hxy
    congr 1
    refine rises_uniq h1.2 h2.2 fun z => ?_
    have hz := h z
    rw [List.mem_cons, List.mem_cons] at hz
    constructor
    · intro k
      have := h1.1 z k
      exact (hz.1 (.inr k)).resolve_left (by omega)
    · intro k
      have := h2.1 z k
      exact (hz.2 (.inr k)).resolve_left (by omega)
theorem Rises.eq {L M : List Int} {P Q : Int → Prop} (h : Rises L P) (k : Rises M Q) (e : ∀ x, P x ↔ Q x) : L = M :=
  rises_uniq h.up k.up fun x => by rw [h.mem, k.mem, e]
theorem Rises.nil {P : Int → Prop} (h : ∀ x, ¬ P x) : Rises [] P := ⟨List.Pairwise.nil, fun x => by simp [h x]⟩
theorem BM.below {w w1 : World} {base p N : Nat} {a : Int → Option Int} {f : Int → Option (List Int)} (h : BM G w base p N a f) (hb : Below w.heap.size w w1) : BM G w1 base p N a f := by
  obtain ⟨bA, bF, DA, DF, mF, hB⟩ := h
  exact ⟨bA, bF, DA, DF, mF, hB.below hb⟩
theorem int_slice {w : World} {base : Nat} {v : Value} {L : List Int} (h : w.ownsRow base 3 1 v L.length (L.map (Value.int .i64))) : ∃ A c, v = .slice A L.length c ∧ L.length ≤ c ∧ Kd.C (Kd.int .i64) w A L.length L :=
  Kd.R_reads (Kd.R_of_own (h1 := fun _ => rfl) (ok := fun _ => True) h (fun _ _ => trivial))
theorem there_at {w : World} {base p N : Nat} {a : Int → Option Int} {f : Int → Option (List Int)} (h : BM G w base p N a f) (hN : N ≤ 1000000) (hd : ∀ k, f k ≠ none → a k = none) {M : List Int} (hM : Rises M (fun k => a k ≠ none ∨ f k ≠ none)) :
    Calls Tryd.prog 16 #[.pointer (some ⟨p, 0, none⟩)] w fun e w' => ∃ A c, e = .returned (.slice A M.length c) ∧ M.length ≤ c ∧ Kd.C (Kd.int .i64) w' A M.length M ∧ Below w.heap.size w w' := by
  refine (there_calls h hN hd).mono ?_
  rintro e w' ⟨v, L, rfl, hL, hrow, hb⟩
  obtain rfl := hL.eq hM (fun _ => Iff.rfl)
  obtain ⟨A, c, rfl, hc, hC⟩ := int_slice hrow
  exact ⟨A, c, rfl, hc, hC, hb⟩
theorem fresh_at {w : World} {base p N : Nat} {a : Int → Option Int} {f : Int → Option (List Int)} (h : BM G w base p N a f) (hN : N ≤ 1000000) {M : List Int} (hM : Rises M (fun k => f k ≠ none)) :
    Calls Tryd.prog 19 #[.pointer (some ⟨p, 0, none⟩)] w fun e w' => ∃ A c, e = .returned (.slice A M.length c) ∧ M.length ≤ c ∧ Kd.C (Kd.int .i64) w' A M.length M ∧ Below w.heap.size w w' := by
  refine (fresh_calls h hN).mono ?_
  rintro e w' ⟨v, L, rfl, hL, hrow, hb⟩
  obtain rfl := hL.eq hM (fun _ => Iff.rfl)
  obtain ⟨A, c, rfl, hc, hC⟩ := int_slice hrow
  exact ⟨A, c, rfl, hc, hC, hb⟩
theorem new_p (A : Option Addr) (c : Nat) (l : List Int) (w : World) (hC : Kd.C (Kd.int .i64) w A l.length l) (hl : l.length ≤ 828) (hok : ∀ x ∈ l, okA x) :
    Calls Tryd.prog 25 #[.slice A l.length c] w fun e w' => ∃ p, e = .returned (.tuple #[.pointer (some ⟨p, 0, none⟩), .int .i64 0]) ∧ BM G w' w.heap.size p 828 (adr l) (fun _ => none) ∧ Below w.heap.size w w' := by
  refine (new_ok (G := G) A c l w hC hl hok).mono ?_
  rintro e w' ⟨rfl, h1, h2⟩
  exact ⟨_, rfl, h1, h2⟩
theorem lit_CI (xs : List Int) (w : World) (cs : Array Value) (n : Nat) (hcs : (encs (Value.int .i64) xs).toArray = cs) (hl : xs.length = n) (hn : n ≤ 9223372036854775807) (N : Nat) (hN : w.heap.size = N) : Kd.C (Kd.int .i64) (w.alloc (.cells cs 3)) (some ⟨N, 0, none⟩) n xs := by
  subst hcs; subst hl; subst hN
  refine Kd.C_of_reads (d := (0 : Int)) (h1 := fun _ => rfl) ⟨rfl, hn, fun _ => ⟨_, rfl, fun j hj => ?_⟩⟩
  rw [addr_add, Nat.zero_add]
  refine (blk_cell (blk_new w _) j).trans ?_
  rw [List.getElem?_toArray]
  exact encs_get (d := (0 : Int)) xs j hj
theorem lit_CB (xs : List Int) (w : World) (cs : Array Value) (n : Nat) (hcs : (encs (Value.int .u8) xs).toArray = cs) (hl : xs.length = n) (hn : n ≤ 9223372036854775807) (N : Nat) (hN : w.heap.size = N) : Kd.C (Kd.int .u8) (w.alloc (.cells cs 5)) (some ⟨N, 0, none⟩) n xs := by
  subst hcs; subst hl; subst hN
  refine Kd.C_of_reads (d := (0 : Int)) (h1 := fun _ => rfl) ⟨rfl, hn, fun _ => ⟨_, rfl, fun j hj => ?_⟩⟩
  rw [addr_add, Nat.zero_add]
  refine (blk_cell (blk_new w _) j).trans ?_
  rw [List.getElem?_toArray]
  exact encs_get (d := (0 : Int)) xs j hj
end Go.Proofs.YthahdombnmkokaaDoor.Given

/- What BlockPuts' walk wants: Put whatever the bytes; by hand. -/
namespace Go.Proofs.YthahdombnmkokaaDoor.Given
open Go.RowKit Go.Maps Go.Sort Go.Shelf Go.Proofs.YthahdombnmkokaaDoorW.PrintWords Go.Proofs.YthahdombnmkokaaDoorW.PrintLast Go.Proofs.YthahdombnmkokaaDoorW.PrintMore Go.Proofs.YthahdombnmkokaaDoor.Base
set_option linter.unusedVariables false
set_option linter.unusedSimpArgs false
variable {G : Nat → Prop}
theorem BM.mono {w : World} {base p N M : Nat} {a : Int → Option Int} {f : Int → Option (List Int)} (h : BM G w base p N a f) (hn : N ≤ M) : BM G w base p M a f := by
  obtain ⟨bA, bF, DA, DF, mF, hB⟩ := h
  exact ⟨bA, bF, DA, DF, mF, hB.hp, hB.bp, hB.ba, hB.bf, hB.ne, own_more hB.oA hn, hB.hA, own_more hB.oF hn, hB.hF, hB.el⟩
/-- Is one of the first n bytes none nought? -/
def someB (b : List Int) (n : Nat) : Bool := !decide (tl b n = 0)
theorem someB_zero (b : List Int) : someB b 0 = false := rfl
theorem someB_succ (b : List Int) (n : Nat) : someB b (n + 1) = (someB b n || (b.getD n 0 != 0)) := by
  have h : tl b (n + 1) = if b.getD n 0 = 0 then tl b n else n + 1 := rfl
  unfold someB
  rw [h]
  by_cases e : b.getD n 0 = 0
  · rw [if_pos e, e]; simp
  · rw [if_neg e]
    have : (b.getD n 0 != 0) = true := by simpa using e
    rw [this]; simp
end Go.Proofs.YthahdombnmkokaaDoor.Given
namespace Go.Proofs.YthahdombnmkokaaDoor.Given
open Go.RowKit Go.Proofs.YthahdombnmkokaaDoorW.PrintWords Go.Proofs.YthahdombnmkokaaDoorW.PrintLast Go.Proofs.YthahdombnmkokaaDoorW.PrintMore Go.Proofs.YthahdombnmkokaaDoor.Base
theorem w64 {n : Int} (h0 : -9223372036854775808 ≤ n) (h1 : n ≤ 9223372036854775807) : wrap64 n = n := by unfold wrap64; omega
theorem rd_get {xs : List Int} {i : Nat} (h : i < xs.length) : rd xs (i : Int) = xs[i] := by simp [rd, h]
theorem same_loop (x y : List Int) (hl : x.length = y.length) (hn : x.length ≤ 140737488355328) (d : Nat) : ∀ (k i : Nat), i + d = x.length → d < k →
    moraineref00_SameBytes.l0 k x y (i : Int) = some (decide (x.drop i = y.drop i)) := by
  induction d with
  | zero =>
    intro k i hi hk
    obtain ⟨k, rfl⟩ : ∃ m, k = m + 1 := ⟨k - 1, by omega⟩
    simp only [moraineref00_SameBytes.l0]
    rw [if_neg (by omega), List.drop_of_length_le (by omega), List.drop_of_length_le (by omega)]; simp
  | succ d ih =>
    intro k i hi hk
    obtain ⟨k, rfl⟩ : ∃ m, k = m + 1 := ⟨k - 1, by omega⟩
    simp only [moraineref00_SameBytes.l0]
    rw [if_pos (by omega), if_pos (by omega), if_pos (by omega), rd_get (show i < x.length by omega), rd_get (show i < y.length by omega)]
    have ex : x.drop i = x[i] :: x.drop (i + 1) := List.drop_eq_getElem_cons (by omega)
    have ey : y.drop i = y[i] :: y.drop (i + 1) := List.drop_eq_getElem_cons (by omega)
    by_cases h : x[i] = y[i]
    · rw [if_pos h, w64 (by omega) (by omega)]
      have := ih k (i + 1) (by omega) (by omega)
      rw [show ((i : Int) + 1) = ((i + 1 : Nat) : Int) by omega, this]
      exact congrArg some (decide_eq_decide.2 ⟨fun e => by rw [ex, ey, h, e], fun e => by rw [ex, ey] at e; exact (List.cons.inj e).2⟩)
    · rw [if_neg h, decide_eq_false (fun e => by rw [ex, ey] at e; exact h (List.cons.inj e).1)]
theorem same_eq (x y : List Int) (hn : x.length ≤ 140737488355328) (k : Nat) (hk : x.length < k) : moraineref00_SameBytes.f k x y = some (decide (x = y)) := by
  unfold moraineref00_SameBytes.f
  by_cases hl : x.length = y.length
  · rw [if_pos (by omega)]
    have := same_loop x y hl hn x.length k 0 (by omega) hk
    simpa using this
  · rw [if_neg (by omega)]
    have : x ≠ y := fun e => hl (by rw [e])
    simp [this]
end Go.Proofs.YthahdombnmkokaaDoor.Given

/- What BlockPlaces' walk wants: a rising list within bounds is short; by hand. -/
namespace Go.Proofs.YthahdombnmkokaaDoor.Given
open Go.RowKit Go.Maps Go.Sort Go.Shelf Go.Proofs.YthahdombnmkokaaDoorW.PrintWords Go.Proofs.YthahdombnmkokaaDoorW.PrintLast Go.Proofs.YthahdombnmkokaaDoorW.PrintMore Go.Proofs.YthahdombnmkokaaDoor.Base
set_option linter.unusedVariables false
set_option linter.unusedSimpArgs false
variable {G : Nat → Prop}
theorem rising_short : ∀ (L : List Int) (lo hi : Int), L.Pairwise (· < ·) → (∀ x ∈ L, lo ≤ x ∧ x < hi) → lo ≤ hi → (L.length : Int) ≤ hi - lo
  | [], lo, hi, _, _, h => by simp; omega
  | x :: L, lo, hi, h1, h2, h => by
    rw [List.pairwise_cons] at h1
    have hx := h2 x (by simp)
    have := rising_short L (x + 1) hi h1.2 (fun y hy => ⟨by have := h1.1 y hy; omega, (h2 y (by simp [hy])).2⟩) (by omega)
    rw [List.length_cons]
    omega
set_option maxRecDepth 100000 in
set_option maxHeartbeats 2000000 in
/-- Put: no block's number, or no block's bytes. -/
theorem put_bad2 {w : World} (p : Nat) (k : Int) (A : Option Addr) (n c : Nat) (hn : n ≤ 9223372036854775807) (h : k < 0 ∨ 828 ≤ k ∨ n ≠ 56) :
    Calls Tryd.prog 27 #[.pointer (some ⟨p, 0, none⟩), .int .i64 k, .slice A n c] w fun e w' => e = .returned (.int .i64 28) ∧ w = w' := by
  by_cases h0 : k < 0
  · go_enter Tryd.func27, Tryd.ntmps27
    go_wp2
    go_ret
    exact ⟨rfl, rfl⟩
  · have d0 : decide (k < 0) = false := decide_eq_false h0
    by_cases h1 : 828 ≤ k
    · have d1 : decide (828 ≤ k) = true := decide_eq_true h1
      clear h0
      go_enter Tryd.func27, Tryd.ntmps27
      go_wp2
      go_ret
      exact ⟨rfl, rfl⟩
    · have d1 : decide (828 ≤ k) = false := decide_eq_false h1
      have hn : ((n : Int) != 56) = true := bne_iff_ne.2 (by omega)
      clear h h0 h1
      go_enter Tryd.func27, Tryd.ntmps27
      go_wp2
      go_ret
      exact ⟨rfl, rfl⟩
/-- The blocks of cells are as they were. -/
def Cells (w w1 : World) : Prop := ∀ (b : Nat) (cs : Array Value) (t : Nat) (z : Nat × Nat), w.heap[b]? = some (.cells cs t z) → w1.heap[b]? = w.heap[b]?
theorem Cells.refl (w : World) : Cells w w := fun _ _ _ _ _ => rfl
theorem Cells.trans {w w1 w2 : World} (h : Cells w w1) (k : Cells w1 w2) : Cells w w2 := fun b cs t z e => (k b cs t z ((h b cs t z e).trans e)).trans (h b cs t z e)
theorem Cells.of_below {w w1 : World} (h : Below w.heap.size w w1) : Cells w w1 := fun b cs t z e => (blk_below (o := .cells cs t z) e h).trans e.symm
theorem Cells.C {k : IntKind} {w w1 : World} {A : Option Addr} {n : Nat} {xs : List Int} (hk : Cells w w1) (h : Kd.C (Kd.int k) w A n xs) : Kd.C (Kd.int k) w1 A n xs := by
  refine ⟨h.1, h.2.1, fun hn => ?_⟩
  obtain ⟨ad, e, hc⟩ := h.2.2 hn
  refine ⟨ad, e, fun j p hj => ?_⟩
  obtain ⟨c, hs, hr, hcell⟩ := hc j p hj
  refine ⟨c, hs, hr, fun i u hu => ?_⟩
  have h0 := hcell i u hu
  rw [← h0]
  refine cell_block ?_
  rw [addr_block]
  unfold World.cell? at h0
  rw [addr_block] at h0
  cases hb : w.heap[ad.block]? with
  | none => rw [hb] at h0; simp at h0
  | some o =>
    cases o with
    | cells cs t z => rw [hk _ cs t z hb]; exact hb
    | _ => rw [hb] at h0; simp at h0
set_option maxRecDepth 100000 in
set_option maxHeartbeats 2000000 in
/-- No block is both at an address and new; each new one has a number of its kind. -/
structure Apart (a : Int → Option Int) (f : Int → Option (List Int)) : Prop where
  no : ∀ k, f k ≠ none → a k = none
  bd : ∀ k, f k ≠ none → 0 ≤ k ∧ k < 828
theorem Apart.start (a : Int → Option Int) : Apart a (fun _ => none) := ⟨fun k h => absurd rfl h, fun k h => absurd rfl h⟩
theorem Apart.put {a : Int → Option Int} {f : Int → Option (List Int)} (h : Apart a f) (k : Int) (h0 : 0 ≤ k) (h1 : k < 828) (v : Option (List Int)) : Apart (setF a k none) (setF f k v) := by
  refine ⟨fun j hj => ?_, fun j hj => ?_⟩
  · unfold setF at hj ⊢
    by_cases e : j = k
    · rw [if_pos e]
    · rw [if_neg e] at hj ⊢; exact h.no j hj
  · unfold setF at hj
    by_cases e : j = k
    · subst e; exact ⟨h0, h1⟩
    · rw [if_neg e] at hj; exact h.bd j hj
/-- Behind i placings of the new blocks L. -/
structure Placed (L : List Int) (P : Int → Prop) (i : Nat) (a : Int → Option Int) (f : Int → Option (List Int)) : Prop where
  fr : ∀ k, f k ≠ none ↔ k ∈ L.drop i
  at_ : ∀ j, j < i → j < L.length → a (L.getD j 0) = some (100 + (j : Int))
  th : ∀ k, (a k ≠ none ∨ f k ≠ none) ↔ P k
  no : ∀ k, f k ≠ none → a k = none
theorem Placed.step {L : List Int} {P : Int → Prop} {i : Nat} {a : Int → Option Int} {f : Int → Option (List Int)} (h : Placed L P i a f) (hi : i < L.length) (hu : L.Pairwise (· < ·)) : Placed L P (i + 1) (setF a (L.getD i 0) (some (100 + (i : Int)))) (setF f (L.getD i 0) none) := by
  obtain ⟨x, hx⟩ : ∃ x, L.getD i 0 = x := ⟨_, rfl⟩
  have hx' : L[i] = x := by rw [← hx]; simp [hi]
  have hd : L.drop i = x :: L.drop (i + 1) := by rw [← hx']; exact List.drop_eq_getElem_cons hi
  have hu2 : (x :: L.drop (i + 1)).Pairwise (· < ·) := hd ▸ hu.sublist (List.drop_sublist i L)
  have hxn : x ∉ L.drop (i + 1) := fun k => by have := (List.pairwise_cons.1 hu2).1 x k; omega
  have hxf : f x ≠ none := (h.fr x).2 (by rw [hd]; simp)
  rw [hx]
  refine ⟨fun k => ?_, fun j hj hl => ?_, fun k => ?_, fun k hk => ?_⟩
  · unfold setF
    by_cases e : k = x
    · subst e; rw [if_pos rfl]; exact ⟨fun q => absurd rfl q, fun q => absurd q hxn⟩
    · rw [if_neg e, h.fr k, hd, List.mem_cons]; exact ⟨fun q => q.resolve_left e, .inr⟩
  · unfold setF
    by_cases e : j = i
    · subst e; rw [hx, if_pos rfl]
    · have hne : L.getD j 0 ≠ x := by
        have e1 : L.getD j 0 = L[j] := by simp [hl]
        have := (List.pairwise_iff_getElem.1 hu) j i hl hi (by omega)
        rw [e1]; omega
      rw [if_neg hne]; exact h.at_ j (by omega) hl
  · rw [← h.th k]
    unfold setF
    by_cases e : k = x
    · subst e; rw [if_pos rfl, if_pos rfl]; exact ⟨fun _ => .inr hxf, fun _ => .inl (by simp)⟩
    · rw [if_neg e, if_neg e]
  · unfold setF at hk ⊢
    by_cases e : k = x
    · rw [if_pos e] at hk; exact absurd rfl hk
    · rw [if_neg e] at hk ⊢; exact h.no k hk
end Go.Proofs.YthahdombnmkokaaDoor.Given

/- block.Map.Cut (printed by gencut.py). -/
namespace Go.Proofs.YthahdombnmkokaaDoor.Given
open Go.RowKit Go.Maps Go.Sort Go.Shelf Go.Proofs.YthahdombnmkokaaDoorW.PrintWords Go.Proofs.YthahdombnmkokaaDoorW.PrintLast Go.Proofs.YthahdombnmkokaaDoorW.PrintMore Go.Proofs.YthahdombnmkokaaDoor.Base
set_option linter.unusedVariables false
set_option linter.unusedSimpArgs false
variable {G : Nat → Prop}
theorem Cells.cell {w w1 : World} (hk : Cells w w1) {p : Addr} {u : Value} (h0 : w.cell? p = some u) : w1.cell? p = some u := by
  rw [← h0]
  refine cell_block ?_
  unfold World.cell? at h0
  cases hb : w.heap[p.block]? with
  | none => rw [hb] at h0; simp at h0
  | some o =>
    cases o with
    | cells cs t z => rw [hk _ cs t z hb]; exact hb
    | _ => rw [hb] at h0; simp at h0
/-- The map, the keys from n on taken away; while a walk over it is under way. -/
def cutF {β : Type} (n : Int) (m : Int → Option β) : Int → Option β := fun k => if n ≤ k then none else m k
structure Cutting (n : Int) (m0 m : Int → Option Value) (left : Lit → Bool) : Prop where
  yet : ∀ j, left (.int .i64 j) = true → m j = m0 j
  did : ∀ j, left (.int .i64 j) = false → m j = cutF n m0 j
theorem sameI (j x : Int) : (Lit.int .i64 j).sameKey (.int .i64 x) = decide (j = x) := by
  by_cases e : j = x
  · subst e; rw [WideAt.sameKey_self (keyLit j)]; simp
  · rw [sameKey_ne (keyNe e)]; simp [e]
theorem Cutting.start {D : DataW Value} {m : Int → Option Value} (H : Holds D m) (n : Int) : Cutting n m m (has D) := by
  refine ⟨fun _ _ => rfl, fun j h => ?_⟩
  have : m j = none := by rw [H.has] at h; cases hm : m j <;> simp_all
  unfold cutF; rw [this]; split <;> rfl
theorem Cutting.stays {n : Int} {m0 m : Int → Option Value} {left : Lit → Bool} (h : Cutting n m0 m left) (x : Int) (hl : left (.int .i64 x) = true) (hx : ¬ n ≤ x) : Cutting n m0 m (fun z => left z && !z.sameKey (.int .i64 x)) := by
  refine ⟨fun j hj => h.yet j (by simp_all), fun j hj => ?_⟩
  by_cases e : j = x
  · subst e; unfold cutF; rw [if_neg hx]; exact h.yet j hl
  · rw [sameI, decide_eq_false e] at hj; exact h.did j (by simpa using hj)
theorem Cutting.struck {n : Int} {m0 m : Int → Option Value} {left : Lit → Bool} (h : Cutting n m0 m left) (x : Int) (hx : n ≤ x) : Cutting n m0 (fun j => if j = x then none else m j) (fun z => left z && !z.sameKey (.int .i64 x)) := by
  refine ⟨fun j hj => ?_, fun j hj => ?_⟩
  · rw [sameI] at hj
    have e : ¬ j = x := fun e => by subst e; simp at hj
    show (if j = x then none else m j) = _
    rw [if_neg e]; exact h.yet j (by simp_all)
  · show (if j = x then none else m j) = _
    by_cases e : j = x
    · subst e; unfold cutF; rw [if_pos rfl, if_pos hx]
    · rw [if_neg e]; rw [sameI, decide_eq_false e] at hj; exact h.did j (by simpa using hj)
theorem Cutting.done {n : Int} {m0 m : Int → Option Value} {left : Lit → Bool} (h : Cutting n m0 m left) (hl : ∀ kl, left kl = false) : m = cutF n m0 := funext fun j => h.did j (hl _)
theorem cutF_map {β : Type} (n : Int) (m : Int → Option β) (g : β → Value) : (cutF n fun k => (m k).map g) = fun k => (cutF n m k).map g := by
  funext k; unfold cutF; split <;> rfl
theorem cutfn_I (k n : Int) (v : Value) (bx : Nat) (W : World) (hx : W.cell? ⟨bx, 0, none⟩ = some (.int .i64 n)) :
    Calls Tryd.prog 48 #[.int .i64 k, v, .pointer (some ⟨bx, 0, none⟩)] W fun e w' => e = .returned (.bool (decide (n ≤ k))) ∧ W = w' := by
  go_enter Tryd.func48, Tryd.ntmps48
  go_wp2
  go_ret
  exact ⟨rfl, rfl⟩
set_option maxHeartbeats 4000000 in
set_option maxRecDepth 100000 in
theorem del_I {w : World} (b N : Nat) (D : DataW Value) (m : Int → Option Value) (hown : w.ownsMap Tryd.prog 3 tokR b N D) (H : Holds D m) (n : Int) (bx : Nat) (hx : w.cell? ⟨bx, 0, none⟩ = some (.int .i64 n)) :
    Calls Tryd.prog 47 #[.map (some b), .func (.func 48) #[] #[.pointer (some ⟨bx, 0, none⟩)]] w fun e w' => e = .returned (.tuple #[]) ∧ (∃ D', w'.ownsMap Tryd.prog 3 tokR b N D' ∧ Holds D' (cutF n m)) ∧ w.grownBy w' (some b) := by
  have HX := Lib.hid hx
  have HH := Lib.hid H
  have HO := Lib.hid hown
  clear H hx
  go_enter Tryd.func47, Tryd.ntmps47
  go_wp2_with (first
    | (at_range; refine wpList_range_own _ rfl _ 70 rfl 3 3 law3 Tryd.underlying70 tokR b N _ rfl hown ?_; intro w0 hrg0 hg0 hs0)
    | go_in)
  go_frame
  go_loopw [8] (fun _ wr => ∃ (left : Lit → Bool) (cnt : Nat) (D' : DataW Value) (m' : Int → Option Value), wr.ranges Tryd.prog 3 tokR b w.heap.size N D' left cnt ∧ w.grownBy wr (some b) ∧ Hid (Holds D' m') ∧ Hid (Cutting n m m' left))
    (fun _ wr => wr.rangeLeft b w.heap.size)
  case atStart => exact ⟨_, _, D, m, hrg0, hg0.but _, HH, Cutting.start HH.out n⟩
  case round =>
    obtain ⟨left, cnt, D', m', hrg, hgw, HD, HT⟩ := hrel
    go_wp2_with (first
      | (at_next; refine wpList_next_ranges _ rfl _ rfl 3 law3 tokR (Value.int .i64) id (fun key kl hk => by obtain ⟨x, hx, _⟩ := Maps.keyOf_i64 Tryd.underlying3 hk; exact ⟨x, hx⟩) (fun v _ _ => ⟨v, rfl⟩) b w.heap.size N _ _ _ rfl hrg ?_ ?_)
      | go_in)
    · intro _ hl0
      have hD := HT.out.done hl0
      subst hD
      go_wp2
      go_end0
      exact ⟨rfl, ⟨D', hrg.owns, HD.out⟩, hgw⟩
    · intro x c kl yd yp w1 cnt1 hkey hlx hv hat hrg1 hlt hg1 hs1 hen
      obtain ⟨x', ex, rfl, _⟩ := Maps.keyOf_i64 Tryd.underlying3 hkey
      obtain rfl : x = x' := encZ_inj ex
      have hgw1 := hgw.andThen hg1 (fun j hj => by cases hj; exact Or.inl (Nat.le_refl _))
      have hcx : w1.cell? ⟨bx, 0, none⟩ = some (.int .i64 n) := Cells.cell (w := w) (map_cells HO.out hgw1) HX.out
      by_cases hp : n ≤ x
      · have hpd : decide (n ≤ x) = true := decide_eq_true hp
        go_wp2_with (first
          | (at_delete; refine wpList_delete_ranges _ rfl _ _ 70 3 rfl 3 law3 Tryd.underlying70 tokR b w.heap.size N _ _ _ rfl hrg1 _ _ rfl hkey ?_; intro w3 cnt3 hrg3 hle hturn; go_frame)
          | go_in)
        rw [strike_twice] at hrg3
        go_roundw
        case rel => exact ⟨_, cnt3, _, _, hrg3, hgw1.andThen hturn.grown (fun j hj => by cases hj; exact Or.inr rfl), HD.out.del x, HT.out.struck x hp⟩
        case measure => rw [hrg3.left_eq, hrg.left_eq]; omega
      · have hpd : decide (n ≤ x) = false := decide_eq_false hp
        go_wp2
        go_roundw
        case rel => exact ⟨_, cnt1, _, _, hrg1, hgw1, HD, HT.out.stays x hlx hp⟩
        case measure => rw [hrg1.left_eq, hrg.left_eq]; exact hlt
theorem cut_I {w : World} (b N : Nat) (D : DataW Value) (m : Int → Option Value) (hown : w.ownsMap Tryd.prog 3 tokR b N D) (H : Holds D m) (n : Int) :
    Calls Tryd.prog 40 #[.map (some b), .int .i64 n] w fun e w' => e = .returned (.tuple #[]) ∧ (∃ D', w'.ownsMap Tryd.prog 3 tokR b N D' ∧ Holds D' (cutF n m)) ∧ w.grownBy w' (some b) := by
  have hg0 : w.grownBy (w.alloc (.cells #[.int .i64 n] 3)) (some b) := (grown_of_below ((Below.refl _ w).alloc (Nat.le_refl _) _) none).but _
  have hd := del_I (w := w.alloc (.cells #[.int .i64 n] 3)) b N D m (hown.alloc _) H n w.heap.size ((blk_cell (blk_new w _) 0).trans rfl)
  have HG := Lib.hid hg0
  have HD := Lib.hid hd
  clear hown H hg0 hd
  go_enter Tryd.func40, Tryd.ntmps40
  go_wp2_with fail
  refine HD.out.mono ?_
  rintro e w1 ⟨rfl, h1, h2⟩
  go_wp2
  go_end0
  exact ⟨rfl, h1, HG.out.trans h2⟩
theorem cutfn_B (k n : Int) (v : Value) (bx : Nat) (W : World) (hx : W.cell? ⟨bx, 0, none⟩ = some (.int .i64 n)) :
    Calls Tryd.prog 50 #[.int .i64 k, v, .pointer (some ⟨bx, 0, none⟩)] W fun e w' => e = .returned (.bool (decide (n ≤ k))) ∧ W = w' := by
  go_enter Tryd.func50, Tryd.ntmps50
  go_wp2
  go_ret
  exact ⟨rfl, rfl⟩
set_option maxHeartbeats 4000000 in
set_option maxRecDepth 100000 in
theorem del_B {w : World} (b N : Nat) (D : DataW Value) (m : Int → Option Value) (hown : w.ownsMap Tryd.prog 3 tokR b N D) (H : Holds D m) (n : Int) (bx : Nat) (hx : w.cell? ⟨bx, 0, none⟩ = some (.int .i64 n)) :
    Calls Tryd.prog 49 #[.map (some b), .func (.func 50) #[] #[.pointer (some ⟨bx, 0, none⟩)]] w fun e w' => e = .returned (.tuple #[]) ∧ (∃ D', w'.ownsMap Tryd.prog 3 tokR b N D' ∧ Holds D' (cutF n m)) ∧ w.grownBy w' (some b) := by
  have HX := Lib.hid hx
  have HH := Lib.hid H
  have HO := Lib.hid hown
  clear H hx
  go_enter Tryd.func49, Tryd.ntmps49
  go_wp2_with (first
    | (at_range; refine wpList_range_own _ rfl _ 72 rfl 3 34 law3 Tryd.underlying72 tokR b N _ rfl hown ?_; intro w0 hrg0 hg0 hs0)
    | go_in)
  go_frame
  go_loopw [8] (fun _ wr => ∃ (left : Lit → Bool) (cnt : Nat) (D' : DataW Value) (m' : Int → Option Value), wr.ranges Tryd.prog 3 tokR b w.heap.size N D' left cnt ∧ w.grownBy wr (some b) ∧ Hid (Holds D' m') ∧ Hid (Cutting n m m' left))
    (fun _ wr => wr.rangeLeft b w.heap.size)
  case atStart => exact ⟨_, _, D, m, hrg0, hg0.but _, HH, Cutting.start HH.out n⟩
  case round =>
    obtain ⟨left, cnt, D', m', hrg, hgw, HD, HT⟩ := hrel
    go_wp2_with (first
      | (at_next; refine wpList_next_ranges _ rfl _ rfl 3 law3 tokR (Value.int .i64) id (fun key kl hk => by obtain ⟨x, hx, _⟩ := Maps.keyOf_i64 Tryd.underlying3 hk; exact ⟨x, hx⟩) (fun v _ _ => ⟨v, rfl⟩) b w.heap.size N _ _ _ rfl hrg ?_ ?_)
      | go_in)
    · intro _ hl0
      have hD := HT.out.done hl0
      subst hD
      go_wp2
      go_end0
      exact ⟨rfl, ⟨D', hrg.owns, HD.out⟩, hgw⟩
    · intro x c kl yd yp w1 cnt1 hkey hlx hv hat hrg1 hlt hg1 hs1 hen
      obtain ⟨x', ex, rfl, _⟩ := Maps.keyOf_i64 Tryd.underlying3 hkey
      obtain rfl : x = x' := encZ_inj ex
      have hgw1 := hgw.andThen hg1 (fun j hj => by cases hj; exact Or.inl (Nat.le_refl _))
      have hcx : w1.cell? ⟨bx, 0, none⟩ = some (.int .i64 n) := Cells.cell (w := w) (map_cells HO.out hgw1) HX.out
      by_cases hp : n ≤ x
      · have hpd : decide (n ≤ x) = true := decide_eq_true hp
        go_wp2_with (first
          | (at_delete; refine wpList_delete_ranges _ rfl _ _ 72 3 rfl 34 law3 Tryd.underlying72 tokR b w.heap.size N _ _ _ rfl hrg1 _ _ rfl hkey ?_; intro w3 cnt3 hrg3 hle hturn; go_frame)
          | go_in)
        rw [strike_twice] at hrg3
        go_roundw
        case rel => exact ⟨_, cnt3, _, _, hrg3, hgw1.andThen hturn.grown (fun j hj => by cases hj; exact Or.inr rfl), HD.out.del x, HT.out.struck x hp⟩
        case measure => rw [hrg3.left_eq, hrg.left_eq]; omega
      · have hpd : decide (n ≤ x) = false := decide_eq_false hp
        go_wp2
        go_roundw
        case rel => exact ⟨_, cnt1, _, _, hrg1, hgw1, HD, HT.out.stays x hlx hp⟩
        case measure => rw [hrg1.left_eq, hrg.left_eq]; exact hlt
theorem cut_B {w : World} (b N : Nat) (D : DataW Value) (m : Int → Option Value) (hown : w.ownsMap Tryd.prog 3 tokR b N D) (H : Holds D m) (n : Int) :
    Calls Tryd.prog 41 #[.map (some b), .int .i64 n] w fun e w' => e = .returned (.tuple #[]) ∧ (∃ D', w'.ownsMap Tryd.prog 3 tokR b N D' ∧ Holds D' (cutF n m)) ∧ w.grownBy w' (some b) := by
  have hg0 : w.grownBy (w.alloc (.cells #[.int .i64 n] 3)) (some b) := (grown_of_below ((Below.refl _ w).alloc (Nat.le_refl _) _) none).but _
  have hd := del_B (w := w.alloc (.cells #[.int .i64 n] 3)) b N D m (hown.alloc _) H n w.heap.size ((blk_cell (blk_new w _) 0).trans rfl)
  have HG := Lib.hid hg0
  have HD := Lib.hid hd
  clear hown H hg0 hd
  go_enter Tryd.func41, Tryd.ntmps41
  go_wp2_with fail
  refine HD.out.mono ?_
  rintro e w1 ⟨rfl, h1, h2⟩
  go_wp2
  go_end0
  exact ⟨rfl, h1, HG.out.trans h2⟩
set_option maxRecDepth 100000 in
set_option maxHeartbeats 2000000 in
/-- Cut: all blocks from n on are none. -/
theorem cut_calls {w : World} {base p N : Nat} {a : Int → Option Int} {f : Int → Option (List Int)} (h : BM G w base p N a f) (n : Int) :
    Calls Tryd.prog 31 #[.pointer (some ⟨p, 0, none⟩), .int .i64 n] w fun e w' => e = .returned (.tuple #[]) ∧ BM G w' base p N (cutF n a) (cutF n f) ∧ Below base w w' ∧ Cells w w' := by
  obtain ⟨bA, bF, DA, DF, mF, hB⟩ := h
  have c0 : w.cell? ⟨p, 0, none⟩ = some (.map (some bA)) := (blk_cell hB.hp 0).trans rfl
  have hu := Tryd.underlying74
  have hca := cut_I bA N DA _ hB.oA hB.hA n
  have HA := Lib.hid hca
  have HB := Lib.hid hB
  have HBE := Lib.hid (Below.refl base w)
  clear hB hca
  go_enter Tryd.func31, Tryd.ntmps31
  go_wp2_with fail
  refine HA.out.mono ?_
  rintro e w2 ⟨rfl, ⟨D2, ho2, hh2⟩, hg2⟩
  rw [cutF_map] at hh2
  have HB2 := Lib.hid (HB.out.turnA (Nat.le_refl _) hg2 ho2 hh2)
  have HX2 : Hid (Cells w w2) := map_cells HB.out.oA hg2
  have HE2 : Hid (Below base w w2) := HBE.out.grown hg2 (Nat.le_trans HB.out.bp (Nat.le_of_lt (blk_lt HB.out.hp))) (fun q e => by cases e; exact HB.out.ba)
  have c02 : w2.cell? ⟨p, 1, none⟩ = some (.map (some bF)) := (blk_cell HB2.out.hp 1).trans rfl
  have HF := Lib.hid (cut_B bF N DF mF HB2.out.oF HB2.out.hF n)
  clear ho2 hh2 hg2
  go_wp2_with fail
  refine HF.out.mono ?_
  rintro e w3 ⟨rfl, ⟨D3, ho3, hh3⟩, hg3⟩
  have HB3 := Lib.hid (HB2.out.turnF (f1 := cutF n f) (Nat.le_refl _) hg3 ho3 hh3 (fun k => by
    have := HB2.out.el k
    unfold cutF
    split
    · exact ⟨fun _ => rfl, fun r hr => by cases hr⟩
    · exact this))
  have HX3 : Hid (Cells w w3) := HX2.out.trans (map_cells HB2.out.oF hg3)
  have HE3 : Hid (Below base w w3) := HE2.out.grown hg3 (Nat.le_trans HB2.out.bp (Nat.le_of_lt (blk_lt HB2.out.hp))) (fun q e => by cases e; exact HB2.out.bf)
  clear ho3 hh3 hg3
  go_wp2
  go_end0
  exact ⟨rfl, ⟨_, _, _, _, _, HB3.out⟩, HE3.out, HX3.out⟩
end Go.Proofs.YthahdombnmkokaaDoor.Given

/- block.Map: which blocks of the heap a call turns; Put, Place, Cut, Move so told; by hand. -/
namespace Go.Proofs.YthahdombnmkokaaDoor.Given
open Go.RowKit Go.Maps Go.Sort Go.Shelf Go.Proofs.YthahdombnmkokaaDoorW.PrintWords Go.Proofs.YthahdombnmkokaaDoorW.PrintLast Go.Proofs.YthahdombnmkokaaDoorW.PrintMore Go.Proofs.YthahdombnmkokaaDoor.Base
set_option linter.unusedVariables false
set_option linter.unusedSimpArgs false
variable {G : Nat → Prop}
/-- From a world to a later one: only blocks of S have turned, and new ones were made. -/
inductive Turns (S : Nat → Prop) : World → World → Prop
  | refl (w : World) : Turns S w w
  | step {w w1 w2 : World} {o : Option Nat} : Turns S w w1 → w1.grownBy w2 o → (∀ b, o = some b → S b) → Turns S w w2
def Two (a b : Nat) : Nat → Prop := fun i => i = a ∨ i = b
theorem Turns.trans {S : Nat → Prop} {w w1 w2 : World} (h : Turns S w w1) (k : Turns S w1 w2) : Turns S w w2 := by
  induction k with
  | refl => exact h
  | step _ hg hs ih => exact ih.step hg hs
theorem Turns.one {S : Nat → Prop} {w w1 : World} {b : Nat} (hg : w.grownBy w1 (some b)) (hs : S b) : Turns S w w1 := (Turns.refl w).step hg (fun q e => by cases e; exact hs)
theorem Turns.of_below {S : Nat → Prop} {w w1 : World} (hb : Below w.heap.size w w1) : Turns S w w1 := (Turns.refl w).step (grown_of_below hb none) (fun q e => by cases e)
theorem Turns.or {S S' : Nat → Prop} {w w1 : World} (h : Turns S w w1) (hs : ∀ b, S b → S' b) : Turns S' w w1 := by
  induction h with
  | refl => exact .refl _
  | step _ hg h1 ih => exact ih.step hg (fun b e => hs b (h1 b e))
theorem Turns.size {S : Nat → Prop} {w w1 : World} (h : Turns S w w1) : w.heap.size ≤ w1.heap.size := by
  induction h with
  | refl => exact Nat.le_refl _
  | step _ hg _ ih => exact Nat.le_trans ih hg.size
theorem Turns.block {S : Nat → Prop} {w w1 : World} (h : Turns S w w1) {i : Nat} (hi : i < w.heap.size) (hn : ¬ S i) : w1.heap[i]? = w.heap[i]? := by
  induction h with
  | refl => rfl
  | step ht hg hs ih => exact (hg.block i (Nat.lt_of_lt_of_le hi ht.size) (fun e => hn (hs i e.symm))).trans ih
theorem Turns.from_ {S : Nat → Prop} {w w1 : World} (h : Turns S w w1) {base : Nat} (hb : base ≤ w.heap.size) (hs : ∀ b, S b → base ≤ b) : Below base w w1 := by
  induction h with
  | refl => exact Below.refl _ _
  | step ht hg h1 ih => exact ih.grown hg (Nat.le_trans hb ht.size) (fun q e => hs q (h1 q e))
theorem Turns.owns {S : Nat → Prop} {w w1 : World} {b n : Nat} {D : DataW Value} (h : Turns S w w1) (o : w.ownsMap Tryd.prog 3 tokR b n D) (hn : ¬ S b) : w1.ownsMap Tryd.prog 3 tokR b n D := by
  induction h with
  | refl => exact o
  | step ht hg h1 ih => exact ih.kept hg (fun e => hn (h1 b e.symm))
theorem Turns.cells {S : Nat → Prop} {w w1 : World} (h : Turns S w w1) (hs : ∀ b, S b → ∃ es ck, w.heap[b]? = some (.map es ck)) : Cells w w1 := fun b cs t z e => h.block (blk_lt e) (fun hb => by
  obtain ⟨es, ck, h1⟩ := hs b hb
  rw [h1] at e
  cases e)
/-- A block.Map, its blocks named. -/
def BX (G : Nat → Prop) (w : World) (p bA bF N : Nat) (a : Int → Option Int) (f : Int → Option (List Int)) : Prop := ∃ DA DF mF, BW G w 0 p N bA bF DA DF a mF f
theorem BX.of {w : World} {base p N : Nat} {a : Int → Option Int} {f : Int → Option (List Int)} (h : BM G w base p N a f) : ∃ bA bF, BX G w p bA bF N a f ∧ base ≤ p ∧ base ≤ bA ∧ base ≤ bF := by
  obtain ⟨bA, bF, DA, DF, mF, hB⟩ := h
  exact ⟨bA, bF, ⟨DA, DF, mF, ⟨hB.hp, Nat.zero_le _, Nat.zero_le _, Nat.zero_le _, hB.ne, hB.oA, hB.hA, hB.oF, hB.hF, hB.el⟩⟩, hB.bp, hB.ba, hB.bf⟩
theorem BX.bm {w : World} {p bA bF N : Nat} {a : Int → Option Int} {f : Int → Option (List Int)} (h : BX G w p bA bF N a f) : BM G w 0 p N a f := ⟨bA, bF, h⟩
theorem BX.two {w : World} {p bA bF N : Nat} {a : Int → Option Int} {f : Int → Option (List Int)} (h : BX G w p bA bF N a f) : ∀ b, Two bA bF b → ∃ es ck, w.heap[b]? = some (.map es ck) := by
  obtain ⟨DA, DF, mF, hB⟩ := h
  obtain ⟨es, ck, h1, _⟩ := hB.oA
  obtain ⟨es2, ck2, h2, _⟩ := hB.oF
  rintro b (rfl | rfl)
  · exact ⟨_, _, h1⟩
  · exact ⟨_, _, h2⟩
theorem BX.mono {w : World} {p bA bF N N1 : Nat} {a : Int → Option Int} {f : Int → Option (List Int)} (h : BX G w p bA bF N a f) (hN : N ≤ N1) : BX G w p bA bF N1 a f := by
  obtain ⟨DA, DF, mF, hB⟩ := h
  exact ⟨DA, DF, mF, ⟨hB.hp, hB.bp, hB.ba, hB.bf, hB.ne, hB.oA.mono hN, hB.hA, hB.oF.mono hN, hB.hF, hB.el⟩⟩
/-- Another map's state is as it was. -/
theorem BX.turns {S : Nat → Prop} {w w1 : World} {p bA bF N : Nat} {a : Int → Option Int} {f : Int → Option (List Int)} (h : BX G w p bA bF N a f) (ht : Turns S w w1) (hk : Cells w w1) (hA : ¬ S bA) (hF : ¬ S bF) : BX G w1 p bA bF N a f := by
  obtain ⟨DA, DF, mF, hB⟩ := h
  refine ⟨DA, DF, mF, ⟨(hk _ _ _ _ hB.hp).trans hB.hp, hB.bp, hB.ba, hB.bf, hB.ne, ht.owns hB.oA hA, hB.hA, ht.owns hB.oF hF, hB.hF, fun k => ⟨(hB.el k).1, fun r hr => ?_⟩⟩⟩
  obtain ⟨u, hu, h1⟩ := (hB.el k).2 r hr
  exact ⟨u, hu, h1.kept hk⟩
theorem BX.below {w w1 : World} {p bA bF N : Nat} {a : Int → Option Int} {f : Int → Option (List Int)} (h : BX G w p bA bF N a f) (hb : Below w.heap.size w w1) : BX G w1 p bA bF N a f := h.turns (S := fun _ => False) (Turns.of_below hb) (Cells.of_below hb) (fun e => e) (fun e => e)
set_option maxRecDepth 100000 in
set_option maxHeartbeats 4000000 in
theorem put_zeroT {w : World} {p bA bF N : Nat} {a : Int → Option Int} {f : Int → Option (List Int)} (h : BX G w p bA bF N a f) (k : Int) (h0 : 0 ≤ k) (h1 : k < 828) (A : Option Addr) (c : Nat) (b : List Int) (hb : b.length = 56) (hc : 56 ≤ c) (hC : Kd.C (Kd.int .u8) w A b.length b) (hz : bits_Nought.f b = some true) :
    Calls Tryd.prog 27 #[.pointer (some ⟨p, 0, none⟩), .int .i64 k, .slice A 56 c] w fun e w' => e = .returned (.int .i64 0) ∧ BX G w' p bA bF N (setF a k none) (setF f k none) ∧ Turns (Two bA bF) w w' := by
  obtain ⟨DA, DF, mF, hB⟩ := h
  have c0 : w.cell? ⟨p, 0, none⟩ = some (.map (some bA)) := (blk_cell hB.hp 0).trans rfl
  have hu := Tryd.underlying74
  have d0 : decide (k < 0) = false := decide_eq_false (by omega)
  have d1 : decide (828 ≤ k) = false := decide_eq_false (by omega)
  have HB := Lib.hid hB
  have HC := Lib.hid hC
  have HZ := Lib.hid hz
  have H56 := Lib.hid hb
  have HK : Hid ((Lit.int .i64 k).wf = true) := wf_i h0 (by omega)
  have HBE := Lib.hid (Turns.refl (S := Two bA bF) w)
  clear hB hC hz hb
  go_enter Tryd.func27, Tryd.ntmps27
  go_wp2_with (first | (have t1 := c0; at_delete; refine wp_del _ rfl _ _ 70 3 rfl 3 law3 Tryd.underlying70 bA N DA _ rfl HB.out.oA HB.out.hA k rfl (keyOf_int_mk Tryd.underlying3 HK.out) ?_; intro w1 D1 ho1 hh1 hg1; have HB1 := Lib.hid (HB.out.turnA (Nat.le_refl _) hg1 ho1 (hA_set (a := a) (k := k) (v := none) hh1 (fun j => rfl))); have HE1 : Hid (Turns (Two bA bF) w w1) := HBE.out.step hg1 (fun q e => by cases e; exact Or.inl rfl); have HC1 := Lib.hid (C_kept HC.out (map_cells HB.out.oA hg1)); have c1 : w1.cell? ⟨p, 1, none⟩ = some (.map (some bF)) := (blk_cell HB1.out.hp 1).trans rfl; clear c0 ho1 hh1 hg1) | (have t1 := c1; at_delete; refine wp_del _ rfl _ _ 72 3 rfl 34 law3 Tryd.underlying72 bF N DF _ rfl HB1.out.oF HB1.out.hF k rfl (keyOf_int_mk Tryd.underlying3 HK.out) ?_; intro w2 D2 ho2 hh2 hg2; have HB2 := Lib.hid (HB1.out.turnF (Nat.le_refl _) hg2 ho2 hh2 (el_del HB1.out.el k)); have HE2 : Hid (Turns (Two bA bF) w w2) := HE1.out.step hg2 (fun q e => by cases e; exact Or.inr rfl); have HC2 := Lib.hid (C_kept HC1.out (map_cells HB1.out.oF hg2)); clear c1 ho2 hh2 hg2))
  have hcn := bits_Nought.calls A c b true w2 HC2.out (by rw [H56.out]; exact hc) HZ.out
  rw [H56.out] at hcn
  refine hcn.mono ?_
  clear hcn
  rintro e w3 ⟨rfl, ⟨nd, rfl⟩⟩
  go_wp2
  go_ret
  exact ⟨rfl, ⟨_, _, _, HB2.out.below (pw_below_drewN (Below.refl _ _) nd)⟩, HE2.out.step (grown_of_below (pw_below_drewN (Below.refl _ _) nd) none) (fun q e => by cases e)⟩
set_option maxRecDepth 100000 in
set_option maxHeartbeats 4000000 in
theorem put_someT {w : World} {p bA bF N : Nat} {a : Int → Option Int} {f : Int → Option (List Int)} (h : BX G w p bA bF N a f) (hN : N < 1000000) (k : Int) (h0 : 0 ≤ k) (h1 : k < 828) (A : Option Addr) (c : Nat) (b : List Int) (hb : b.length = 56) (hc : 56 ≤ c) (hC : Kd.C (Kd.int .u8) w A b.length b) (hz : bits_Nought.f b = some false) (hG : ∀ b, w.heap.size ≤ b → G b) :
    Calls Tryd.prog 27 #[.pointer (some ⟨p, 0, none⟩), .int .i64 k, .slice A 56 c] w fun e w' => e = .returned (.int .i64 0) ∧ BX G w' p bA bF (N + 1) (setF a k none) (setF f k (some b)) ∧ Turns (Two bA bF) w w' := by
  obtain ⟨DA, DF, mF, hB⟩ := h
  have c0 : w.cell? ⟨p, 0, none⟩ = some (.map (some bA)) := (blk_cell hB.hp 0).trans rfl
  have hu := Tryd.underlying74
  have d0 : decide (k < 0) = false := decide_eq_false (by omega)
  have d1 : decide (828 ≤ k) = false := decide_eq_false (by omega)
  have HB := Lib.hid hB
  have HC := Lib.hid hC
  have HZ := Lib.hid hz
  have HGG := Lib.hid hG
  have H56 := Lib.hid hb
  have HK : Hid ((Lit.int .i64 k).wf = true) := wf_i h0 (by omega)
  have HBE := Lib.hid (Turns.refl (S := Two bA bF) w)
  clear hB hC hz hb hG
  go_enter Tryd.func27, Tryd.ntmps27
  go_wp2_with (first | (have t1 := c0; at_delete; refine wp_del _ rfl _ _ 70 3 rfl 3 law3 Tryd.underlying70 bA N DA _ rfl HB.out.oA HB.out.hA k rfl (keyOf_int_mk Tryd.underlying3 HK.out) ?_; intro w1 D1 ho1 hh1 hg1; have HB1 := Lib.hid (HB.out.turnA (Nat.le_refl _) hg1 ho1 (hA_set (a := a) (k := k) (v := none) hh1 (fun j => rfl))); have HE1 : Hid (Turns (Two bA bF) w w1) := HBE.out.step hg1 (fun q e => by cases e; exact Or.inl rfl); have HC1 := Lib.hid (C_kept HC.out (map_cells HB.out.oA hg1)); have c1 : w1.cell? ⟨p, 1, none⟩ = some (.map (some bF)) := (blk_cell HB1.out.hp 1).trans rfl; clear c0 ho1 hh1 hg1) | (have t1 := c1; at_delete; refine wp_del _ rfl _ _ 72 3 rfl 34 law3 Tryd.underlying72 bF N DF _ rfl HB1.out.oF HB1.out.hF k rfl (keyOf_int_mk Tryd.underlying3 HK.out) ?_; intro w2 D2 ho2 hh2 hg2; have HB2 := Lib.hid (HB1.out.turnF (Nat.le_refl _) hg2 ho2 hh2 (el_del HB1.out.el k)); have HE2 : Hid (Turns (Two bA bF) w w2) := HE1.out.step hg2 (fun q e => by cases e; exact Or.inr rfl); have HC2 := Lib.hid (C_kept HC1.out (map_cells HB1.out.oF hg2)); clear c1 ho2 hh2 hg2))
  have hcn := bits_Nought.calls A c b false w2 HC2.out (by rw [H56.out]; exact hc) HZ.out
  rw [H56.out] at hcn
  refine hcn.mono ?_
  clear hcn
  rintro e w3 ⟨rfl, ⟨nd, rfl⟩⟩
  have HB3 := Lib.hid (HB2.out.below (pw_below_drewN (Below.refl w2.heap.size w2) nd))
  have HE3 := Lib.hid (HE2.out.step (grown_of_below (pw_below_drewN (Below.refl w2.heap.size w2) nd) none) (fun q e => by cases e))
  have HC3 := Lib.hid (Kd.C_drewN HC2.out nd)
  obtain ⟨ad, rfl, _⟩ := HC3.out.2.2 (by rw [H56.out]; decide)
  generalize w2.drewN nd = w3 at *
  have c3 : w3.cell? ⟨p, 1, none⟩ = some (.map (some bF)) := (blk_cell HB3.out.hp 1).trans rfl
  have hz3 := blk_lt HB3.out.hp
  clear HB2 HE2 HC2
  go_wp2_with fail
  have HB4 := Lib.hid (HB3.out.below (below_drew (Below.refl w3.heap.size w3)))
  have HE4 := Lib.hid (HE3.out.step (grown_of_below (below_drew (Below.refl w3.heap.size w3)) none) (fun q e => by cases e))
  have HC4 := Lib.hid (Kd.C_drew HC3.out)
  have c4 : w3.drew.cell? ⟨p, 1, none⟩ = some (.map (some bF)) := (blk_cell HB4.out.hp 1).trans rfl
  go_region_held3 (fun w' => w'.cell? ⟨p, 1, none⟩ = some (.map (some bF))) (first | exact c4 | go_keep)
    (first | (go_at_call 30; have hcl := clone_some ad c b w3.drew HC4.out (by rw [H56.out]; decide); rw [H56.out] at hcl; refine hcl.mono ?_; clear hcl; rintro e w5 ⟨v5, rfl, hR, hb⟩; have HR5 := Lib.hid hR; have HB5 := Lib.hid (HB4.out.below hb); have HE5 : Hid (Turns (Two bA bF) w w5) := Lib.hid (HE4.out.step (grown_of_below hb none) (fun q e => by cases e)); have c5 : w5.cell? ⟨p, 1, none⟩ = some (.map (some bF)) := (blk_cell HB5.out.hp 1).trans rfl; clear hR hb; obtain ⟨w6, hrun6, ho6, hg6⟩ := HB5.out.oF.update law3 Tryd.underlying72 (by unfold maxLen; omega) (keyOf_int_mk Tryd.underlying3 HK.out) (d := tok v5) (ps := []) (val := v5) rfl; have HB6 := Lib.hid (HB5.out.turnF (Nat.le_succ _) hg6 ho6 (HB5.out.hF.put k v5) (el_put6 HB5.out.el k v5 b (byt_of_R HR5.out H56.out (fun b hb => HGG.out b (Nat.le_trans HE4.out.size hb))))); have HE6 : Hid (Turns (Two bA bF) w w6) := HE5.out.step hg6 (fun q e => by cases e; exact Or.inr rfl); have c6 : w6.cell? ⟨p, 1, none⟩ = some (.map (some bF)) := (blk_cell HB6.out.hp 1).trans rfl; clear ho6 hg6))
  all_goals (go_wp2; go_ret; exact ⟨rfl, ⟨_, _, _, HB6.out⟩, HE6.out⟩)
set_option maxRecDepth 100000 in
set_option maxHeartbeats 4000000 in
theorem cut_callsT {w : World} {p bA bF N : Nat} {a : Int → Option Int} {f : Int → Option (List Int)} (h : BX G w p bA bF N a f) (n : Int) :
    Calls Tryd.prog 31 #[.pointer (some ⟨p, 0, none⟩), .int .i64 n] w fun e w' => e = .returned (.tuple #[]) ∧ BX G w' p bA bF N (cutF n a) (cutF n f) ∧ Turns (Two bA bF) w w' := by
  obtain ⟨DA, DF, mF, hB⟩ := h
  have c0 : w.cell? ⟨p, 0, none⟩ = some (.map (some bA)) := (blk_cell hB.hp 0).trans rfl
  have hu := Tryd.underlying74
  have hca := cut_I bA N DA _ hB.oA hB.hA n
  have HA := Lib.hid hca
  have HB := Lib.hid hB
  have HBE := Lib.hid (Turns.refl (S := Two bA bF) w)
  clear hB hca
  go_enter Tryd.func31, Tryd.ntmps31
  go_wp2_with fail
  refine HA.out.mono ?_
  rintro e w2 ⟨rfl, ⟨D2, ho2, hh2⟩, hg2⟩
  rw [cutF_map] at hh2
  have HB2 := Lib.hid (HB.out.turnA (Nat.le_refl _) hg2 ho2 hh2)
  have HE2 : Hid (Turns (Two bA bF) w w2) := HBE.out.step hg2 (fun q e => by cases e; exact Or.inl rfl)
  have c02 : w2.cell? ⟨p, 1, none⟩ = some (.map (some bF)) := (blk_cell HB2.out.hp 1).trans rfl
  have HF := Lib.hid (cut_B bF N DF mF HB2.out.oF HB2.out.hF n)
  clear ho2 hh2 hg2
  go_wp2_with fail
  refine HF.out.mono ?_
  rintro e w3 ⟨rfl, ⟨D3, ho3, hh3⟩, hg3⟩
  have HB3 := Lib.hid (HB2.out.turnF (f1 := cutF n f) (Nat.le_refl _) hg3 ho3 hh3 (fun k => by
    have := HB2.out.el k
    unfold cutF
    split
    · exact ⟨fun _ => rfl, fun r hr => by cases hr⟩
    · exact this))
  have HE3 : Hid (Turns (Two bA bF) w w3) := HE2.out.step hg3 (fun q e => by cases e; exact Or.inr rfl)
  clear ho3 hh3 hg3
  go_wp2
  go_end0
  exact ⟨rfl, ⟨_, _, _, HB3.out⟩, HE3.out⟩
end Go.Proofs.YthahdombnmkokaaDoor.Given
