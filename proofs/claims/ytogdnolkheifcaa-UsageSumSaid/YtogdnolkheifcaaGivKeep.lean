/- Words that hand contracts share: boxes kept, slices of ints sorted and made compact. -/
import Derived.Test.YtogdnolkheifcaaProg
import Derived.Test.YtogdnolkheifcaaWWords
import Derived.Test.YtogdnolkheifcaaWLast
import Derived.Test.YtogdnolkheifcaaWMore
import Derived.Test.YtogdnolkheifcaaShelf
import Derived.WalkKit
import Derived.OwnWalk
import Derived.LoopTactic
import Derived.Outline
import Derived.KernelRfl
import Derived.Lib.Hide
import Derived.Lib.SortBridge
import Derived.Deep.DeepMust
namespace Go.Proofs.Ytogdnolkheifcaa.Given
open Go.RowKit Go.Proofs.YtogdnolkheifcaaW.PrintWords Go.Proofs.YtogdnolkheifcaaW.PrintLast Go.Proofs.YtogdnolkheifcaaW.PrintMore
set_option linter.unusedVariables false
set_option linter.unusedSimpArgs false

/-- What a walk keeps of the world: the box, and what lies below. -/
def Keep (wd : World) (cs : Array Value) (t : Nat) (w : World) : Prop := w.heap[wd.heap.size]? = some (.cells cs t (0, 0)) ∧ Below wd.heap.size wd w
theorem Keep.step {wd : World} {cs : Array Value} {t : Nat} {w w1 : World} (h : Keep wd cs t w) (hB : Below w.heap.size w w1) : Keep wd cs t w1 :=
  ⟨blk_below h.1 hB, h.2.trans (hB.mono h.2.size)⟩
theorem Keep.alloc {wd : World} {cs : Array Value} {t : Nat} {w : World} (h : Keep wd cs t w) (o : Obj) : Keep wd cs t (w.alloc o) := h.step ((Below.refl _ _).alloc (Nat.le_refl _) o)
theorem Keep.at_ {wd w : World} {cs : Array Value} {t : Nat} (h : Keep wd cs t w) (i : Nat) {v : Value} (hv : cs[i]? = some v) : w.cell? ⟨wd.heap.size, i, none⟩ = some v := (blk_cell h.1 i).trans hv
theorem Keep.lt {wd w : World} {cs : Array Value} {t : Nat} (h : Keep wd cs t w) : wd.heap.size < w.heap.size := (Array.getElem?_eq_some_iff.1 h.1).1
/-- .. behind a step that leaves alone what lies below the block behind the box. -/
theorem Keep.past {wd w w1 : World} {cs : Array Value} {t : Nat} (h : Keep wd cs t w) (hb : Below (wd.heap.size + 1) w w1) : Keep wd cs t w1 :=
  ⟨by rw [hb.block _ (by omega)]; exact h.1, h.2.trans (hb.mono (by omega))⟩
theorem Keep.drewN {wd w : World} {cs : Array Value} {t : Nat} (h : Keep wd cs t w) (n : Nat) : Keep wd cs t (w.drewN n) := ⟨h.1, pw_below_drewN h.2 n⟩

theorem addr_add (b off j : Nat) : (⟨b, off, none⟩ : Addr).add j = ⟨b, off + j, none⟩ := by unfold Addr.add; split <;> simp_all
theorem addr_of_C {k : IntKind} {w : World} {A : Option Addr} {n : Nat} {xs : List Int} (h : Kd.C (Kd.int k) w A n xs) (h0 : 0 < n) : ∃ b off, A = some ⟨b, off, none⟩ ∧ ∀ j, j < n → w.cell? ⟨b, off + j, none⟩ = some (.int k (xs.getD j 0)) := by
  obtain ⟨ad, e, hc⟩ := (Kd.reads_of_C (d := (0 : Int)) h).2.2 h0
  have h1 := hc 0 h0
  have hs : ad.spot = none := by
    have a0 : ad.add 0 = ad := by simp [Addr.add]
    rw [a0] at h1
    cases hsp : ad.spot with
    | none => rfl
    | some s =>
      exfalso
      unfold World.cell? at h1
      split at h1
      · rw [hsp] at h1; simp at h1
      · cases h1
  obtain ⟨b, off, sp⟩ := ad
  simp only at hs
  subst hs
  exact ⟨b, off, e, fun j hj => by rw [← addr_add]; exact hc j hj⟩
theorem own_lower {w : World} {b b' : Nat} {e : TypeId} {size n : Nat} {v : Value} {xs : List Value} (h : w.ownsRow b e size v n xs) (hb : b' ≤ b) : w.ownsRow b' e size v n xs := by
  rcases h with ⟨h0, h1 | ⟨g, cap, cur, h1, h2, h3⟩⟩
  · exact ⟨h0, .inl h1⟩
  · exact ⟨h0, .inr ⟨g, cap, cur, h1, Nat.le_trans hb h2, h3⟩⟩
theorem OI.other {w w1 : World} {base n c : Nat} {A : Option Addr} {xs : List Int} {row : Option Nat} (h : w.ownsRow base 3 1 (.slice A n c) n (encs (Value.int .i64) xs)) (hg : w.grownBy w1 row) (hne : ∀ g, A = some ⟨g, 0, none⟩ → some g ≠ row) : w1.ownsRow base 3 1 (.slice A n c) n (encs (Value.int .i64) xs) := by
  refine own_other h hg ?_
  rcases h.2 with ⟨e, _⟩ | ⟨g, cap, cur, e, _⟩
  · injection e with e1
    subst e1
    exact .inl rfl
  · injection e with e1 e2 e3
    subst e1
    exact .inr (by simpa [Value.ownBlock] using hne g rfl)
abbrev OI (w : World) (base : Nat) (A : Option Addr) (n c : Nat) (xs : List Int) : Prop := w.ownsRow base 3 1 (.slice A n c) n (encs (Value.int .i64) xs)
theorem OI.len {w : World} {base n c : Nat} {A : Option Addr} {xs : List Int} (h : OI w base A n c xs) : xs.length = n := by have := h.1; simp [encs] at this; exact this
theorem OI.C {w : World} {base n c : Nat} {A : Option Addr} {xs : List Int} (h : OI w base A n c xs) : Kd.C (Kd.int .i64) w A xs.length xs ∧ n ≤ c := by
  have hl := h.len
  subst hl
  have hr : Kd.R (Kd.int .i64) 3 w base (fun _ => True) (.slice A xs.length c) xs := Kd.R_of_own h (fun _ _ => trivial)
  exact ⟨(Kd.R_reads' hr).2.2, (Kd.R_reads' hr).2.1⟩
theorem OI.below {w w1 : World} {base n c : Nat} {A : Option Addr} {xs : List Int} (h : OI w base A n c xs) (hb : Below w.heap.size w w1) : OI w1 base A n c xs := pw_own_below h hb
theorem own_low {w w1 : World} {B base n : Nat} {e : TypeId} {size : Nat} {v : Value} {xs : List Value} (h : w.ownsRow base e size v n xs) (hlt : ∀ k, v.ownBlock = some k → k < B) (hb : Below B w w1) : w1.ownsRow base e size v n xs := by
  refine ⟨h.1, ?_⟩
  rcases h.2 with h2 | ⟨g, cap, cur, e, h3, h4, h5⟩
  · exact .inl h2
  · refine .inr ⟨g, cap, cur, e, h3, ?_, h5⟩
    rw [hb.block g (hlt g (by rw [e]; rfl))]; exact h4
/-- The row lives on where only what lies at B or behind is touched. -/
theorem OI.low {w w1 : World} {B base n c : Nat} {A : Option Addr} {xs : List Int} (h : OI w base A n c xs) (hlt : ∀ k, (Value.slice A n c).ownBlock = some k → k < B) (hb : Below B w w1) : OI w1 base A n c xs := by
  refine ⟨h.1, ?_⟩
  rcases h.2 with h2 | ⟨g, cap, cur, e, h3, h4, h5⟩
  · exact .inl h2
  · refine .inr ⟨g, cap, cur, e, h3, ?_, h5⟩
    rw [hb.block g (hlt g (by rw [e]; rfl))]; exact h4
theorem OI.form {w : World} {base n c : Nat} {A : Option Addr} {xs : List Int} (h : OI w base A n c xs) (h0 : 0 < n) : ∃ g, A = some ⟨g, 0, none⟩ ∧ base ≤ g ∧ g < w.heap.size := by
  rcases h.2 with ⟨e, e2⟩ | ⟨g, cap, cur, e, hb, hh, _⟩
  · omega
  · injection e with e1 e2 e3
    exact ⟨g, e1, hb, (Array.getElem?_eq_some_iff.1 hh).1⟩
theorem below_set' {B : Nat} {w w1 : World} (h : Below B w w1) (g j : Nat) (hg : B ≤ g) (x : Value) : Below B w (w1.setCell ⟨g, j, none⟩ x) := h.setCell (p := ⟨g, j, none⟩) hg x
theorem grown_trans {a b c : World} {row : Option Nat} (h : a.grownBy b row) (k : b.grownBy c row) : a.grownBy c row :=
  ⟨k.os.trans h.os, k.tape.trans h.tape, k.output.trans h.output, Nat.le_trans h.size k.size, fun i hi hne => (k.block i (Nat.lt_of_lt_of_le hi h.size) hne).trans (h.block i hi hne)⟩
theorem own_setCells {base g n cap : Nat} {e : TypeId} (hg : base ≤ g) : ∀ (ys : List Int) (w : World) (off : Nat) (xs : List Int), w.ownsRow base e 1 (.slice (some ⟨g, 0, none⟩) n cap) n (encs (Value.int .i64) xs) → off + ys.length ≤ n →
    (w.setCells g off (ys.map (Value.int .i64))).ownsRow base e 1 (.slice (some ⟨g, 0, none⟩) n cap) n (encs (Value.int .i64) (xs.take off ++ ys ++ xs.drop (off + ys.length))) ∧ Below base w (w.setCells g off (ys.map (Value.int .i64))) ∧ w.grownBy (w.setCells g off (ys.map (Value.int .i64))) (some g)
  | [], w, off, xs, h, hl => by
    refine ⟨?_, Below.refl _ _, World.grownBy.refl _ _⟩
    simp only [List.map_nil, List.append_nil, List.length_nil, Nat.add_zero, List.take_append_drop]
    exact h
  | y :: ys, w, off, xs, h, hl => by
    rw [List.length_cons] at hl
    have hx : xs.length = n := by have := h.1; simp [encs] at this; exact this
    obtain ⟨h1, hg1⟩ := own_store_of h (off : Int) y
    rw [Int.toNat_natCast] at h1 hg1
    obtain ⟨h2, h3, h4⟩ := own_setCells hg ys _ (off + 1) _ h1 (by omega)
    refine ⟨?_, (below_set' (Below.refl base w) g off hg (.int .i64 y)).trans h3, grown_trans hg1 h4⟩
    have e : (xs.set off y).take (off + 1) ++ ys ++ (xs.set off y).drop (off + 1 + ys.length) = xs.take off ++ (y :: ys) ++ xs.drop (off + (y :: ys).length) := by
      rw [List.drop_set_of_lt (by omega), List.length_cons, show off + 1 + ys.length = off + (ys.length + 1) by omega]
      have e2 : (xs.set off y).take (off + 1) = xs.take off ++ [y] := by
        rw [List.take_succ_eq_append_getElem (by rw [List.length_set]; omega)]
        simp [List.take_set_of_le]
      rw [e2]; simp
    rw [e] at h2
    exact h2
theorem below_grow {w : World} (os : Array Obj) : Below w.heap.size w (Go.Sort.grow w os) :=
  ⟨rfl, rfl, rfl, by simp [Go.Sort.grow], fun k hk => Go.Sort.heap_grow_old w os hk⟩
theorem own_putRow {w : World} {base g n cap : Nat} (q : Nat) {xs ys : List Int} (h : OI w base (some ⟨g, 0, none⟩) n cap xs) (hl : ys.length = n) (hg : base ≤ g) :
    OI (Go.Sort.putRow (Value.int .i64) (Go.Sort.ahead w q) g 0 ys.toArray) base (some ⟨g, 0, none⟩) n cap ys ∧ Below base w (Go.Sort.putRow (Value.int .i64) (Go.Sort.ahead w q) g 0 ys.toArray) ∧ w.grownBy (Go.Sort.putRow (Value.int .i64) (Go.Sort.ahead w q) g 0 ys.toArray) (some g) := by
  have hx := h.len
  have hH : Go.Sort.Holds (Value.int .i64) w g 0 xs.toArray := by
    intro j hj
    have hj' : j < n := by rw [← hx]; simpa using hj
    have := own_at_of (d := (0 : Int)) h (j : Int) (by omega) (by omega)
    rw [Int.toNat_natCast] at this
    rw [Nat.zero_add]
    refine ⟨this.1.trans ?_, this.2⟩
    simp only [rdOf, Int.toNat_natCast]
    have hjx : j < xs.length := by omega
    simp [List.getD_eq_getElem?_getD, hjx]
  rw [Go.Lib.putRow_eq_setCells (Value.int .i64) w g 0 xs.toArray ys q hH (by simp; omega)]
  have h' : OI (w.drewN q) base (some ⟨g, 0, none⟩) n cap xs := pw_own_below h (pw_below_drewN (Below.refl _ _) q)
  obtain ⟨h2, h3, h4⟩ := own_setCells hg ys (w.drewN q) 0 xs h' (by omega)
  have e : xs.take 0 ++ ys ++ xs.drop (0 + ys.length) = ys := by rw [List.take_zero, List.nil_append, Nat.zero_add, List.drop_of_length_le (by omega), List.append_nil]
  rw [e] at h2
  exact ⟨h2, (pw_below_drewN (Below.refl _ _) q).trans h3, grown_trans (grown_of_below (pw_below_drewN (Below.refl _ _) q) _) h4⟩
theorem own_cut {w : World} {base g n m cap : Nat} {xs : List Int} (h : OI w base (some ⟨g, 0, none⟩) n cap xs) (hm : m ≤ n) : OI w base (some ⟨g, 0, none⟩) m cap (xs.take m) := by
  have hx := h.len
  rcases h.2 with ⟨e, _⟩ | ⟨g', cap', cur, e, hb, hh, hn, hc, hs, ht⟩
  · simp at e
  · injection e with e1 e2 e3
    injection e1 with e1
    injection e1 with e1
    subst e1; subst e3
    refine ⟨by simp [encs]; omega, .inr ⟨g, cap, cur, rfl, hb, hh, by omega, hc, hs, ?_⟩⟩
    rw [Nat.mul_one] at ht ⊢
    simp only [encs] at ht ⊢
    rw [List.map_take, ← ht, List.take_take, Nat.min_eq_left hm]

/-- slices.Clone of ints: a row of the call's own. -/
theorem clone_calls (A : Option Addr) (c : Nat) (xs : List Int) (w : World) (h : Kd.C (Kd.int .i64) w A xs.length xs) (hbig : xs.length * 8 ≤ 140737488355328) :
    Calls Try.prog 24 #[.slice A xs.length c] w fun e w' => ∃ A' c', e = .returned (.slice A' xs.length c') ∧ OI w' w.heap.size A' xs.length c' xs ∧ Below w.heap.size w w' := by
  rcases Nat.eq_zero_or_pos xs.length with h0 | h0
  · have hx := List.eq_nil_of_length_eq_zero h0
    subst hx
    cases A with
    | none =>
      refine (Try.slices_Clone_int_nil 0 c w).mono ?_
      rintro e w' ⟨rfl, rfl⟩
      exact ⟨none, 0, rfl, own_nil _ _ _ _, Below.refl _ _⟩
    | some a =>
      refine (Try.slices_Clone_int_zero a c w).mono ?_
      rintro e w' ⟨v', rfl, ho, _, hB⟩
      obtain ⟨A', c', rfl, _⟩ := own_reads_of (enc := Value.int .i64) (d := (0 : Int)) (xs := []) ho
      exact ⟨A', c', rfl, ho, hB⟩
  · obtain ⟨b, off, rfl, hc⟩ := addr_of_C h h0
    refine (Try.slices_Clone_int b off xs.length c xs w (Nat.le_refl _) hbig hc).mono ?_
    rintro e w' ⟨v', rfl, ho, _, hB⟩
    rw [List.take_length] at ho
    obtain ⟨A', c', rfl, _⟩ := own_reads_of (enc := Value.int .i64) (d := (0 : Int)) ho
    exact ⟨A', c', rfl, ho, hB⟩
/-- slices.Sort of a row of the call's own. -/
theorem sort_calls (base : Nat) (A : Option Addr) (n c : Nat) (xs : List Int) (w : World) (h : OI w base A n c xs) (hn : n < 4611686018427387904) (hbase : base ≤ w.heap.size) :
    Calls Try.prog 25 #[.slice A n c] w fun e w' => e = .returned (.tuple #[]) ∧ OI w' base A n c (xs.mergeSort fun x y => decide (x ≤ y)) ∧ Below base w w' ∧ w.grownBy w' (Value.slice A n c).ownBlock := by
  have hx := h.len
  subst hx
  rcases Nat.eq_zero_or_pos xs.length with h0 | h0
  · have hx := List.eq_nil_of_length_eq_zero h0
    subst hx
    refine (Try.slices_Sort_int_none A c w).mono ?_
    rintro e w' ⟨rfl, rfl⟩
    exact ⟨rfl, by rw [List.mergeSort_nil]; exact h, Below.refl _ _, World.grownBy.refl _ _⟩
  · obtain ⟨g, rfl, hg, hlt⟩ := h.form h0
    have hH : Go.Sort.Holds (Value.int .i64) w g 0 xs.toArray := by
      intro j hj
      have hj' : j < xs.length := by simpa using hj
      have := own_at_of (d := (0 : Int)) h (j : Int) (by omega) (by omega)
      rw [Int.toNat_natCast] at this
      rw [Nat.zero_add]
      refine ⟨this.1.trans ?_, this.2⟩
      simp only [rdOf, Int.toNat_natCast]
      simp [List.getD_eq_getElem?_getD, hj']
    refine (Try.slices_Sort_int g 0 c xs w hH hlt hn).mono ?_
    rintro e w' ⟨rfl, q, os, rfl⟩
    obtain ⟨h1, h2, h3⟩ := own_putRow q h (ys := xs.mergeSort fun x y => decide (x ≤ y)) (by simp) hg
    have hb := below_grow (w := Go.Sort.putRow (Value.int .i64) (Go.Sort.ahead w q) g 0 (xs.mergeSort fun x y => decide (x ≤ y)).toArray) os
    exact ⟨rfl, h1.below hb, h2.trans (hb.mono (Nat.le_trans hbase h2.size)), grown_trans h3 (grown_of_below hb _)⟩
/-- slices.Compact of a row of the call's own. -/
theorem compact_calls (base : Nat) (A : Option Addr) (n c : Nat) (xs : List Int) (w : World) (h : OI w base A n c xs) (hn : n ≤ 9223372036854775807) :
    Calls Try.prog 26 #[.slice A n c] w fun e w' => ∃ m, e = .returned (.slice A m c) ∧ OI w' base A m c (Go.Lib.compact xs) ∧ m ≤ n ∧ Below base w w' ∧ w.grownBy w' (Value.slice A n c).ownBlock := by
  have hx := h.len
  subst hx
  rcases Nat.eq_zero_or_pos xs.length with h0 | h0
  · have hx := List.eq_nil_of_length_eq_zero h0
    subst hx
    refine (Try.slices_Compact_int_empty A c w).mono ?_
    rintro e w' ⟨rfl, rfl⟩
    exact ⟨0, rfl, h, Nat.le_refl _, Below.refl _ _, World.grownBy.refl _ _⟩
  · obtain ⟨g, rfl, hg, hlt⟩ := h.form h0
    have hH : Go.Sort.Holds (Value.int .i64) w g 0 xs.toArray := by
      intro j hj
      have hj' : j < xs.length := by simpa using hj
      have := own_at_of (d := (0 : Int)) h (j : Int) (by omega) (by omega)
      rw [Int.toNat_natCast] at this
      rw [Nat.zero_add]
      refine ⟨this.1.trans ?_, this.2⟩
      simp only [rdOf, Int.toNat_natCast]
      simp [List.getD_eq_getElem?_getD, hj']
    refine (Try.slices_Compact_int g 0 c xs w hH (by omega) h.C.2).mono ?_
    rintro e w' ⟨rfl, q, rfl⟩
    have hle := Go.Lib.compact_length_le xs
    obtain ⟨h1, h2, h4⟩ := own_putRow q h (ys := Go.Lib.compact xs ++ List.replicate (xs.length - (Go.Lib.compact xs).length) 0) (by simp; omega) hg
    refine ⟨_, rfl, ?_, hle, h2, h4⟩
    have h3 := own_cut h1 hle
    rwa [List.take_left] at h3
end Go.Proofs.Ytogdnolkheifcaa.Given
