/- morainelaw15.alive: a closed call that answers true; by hand. -/
import Derived.Test.YtlkhlmckgpjopaaDoorBlks1
import Derived.Test.YtlkhlmckgpjopaaDoorBlks2
namespace Go.Proofs.YtlkhlmckgpjopaaDoor.Given
open Go.RowKit Go.Maps Go.Sort Go.Shelf Go.Proofs.YtlkhlmckgpjopaaDoorW.PrintWords Go.Proofs.YtlkhlmckgpjopaaDoorW.PrintLast Go.Proofs.YtlkhlmckgpjopaaDoorW.PrintMore Go.Proofs.YtlkhlmckgpjopaaDoor.Base
set_option linter.unusedVariables false
set_option linter.unusedSimpArgs false
theorem rises_uniq : ∀ {L M : List Int}, L.Pairwise (· < ·) → M.Pairwise (· < ·) → (∀ x, x ∈ L ↔ x ∈ M) → L = M
  | [], [], _, _, _ => rfl
  | [], y :: M, _, _, h => absurd ((h y).2 (by simp)) (by simp)
  | x :: L, [], _, _, h => absurd ((h x).1 (by simp)) (by simp)
  | x :: L, y :: M, h1, h2, h => by
    rw [List.pairwise_cons] at h1 h2
    have hxy : x = y := by
      have a := (h x).1 (by simp)
      have b := (h y).2 (by simp)
      rw [List.mem_cons] at a b
      rcases a with a | a
      · exact a
      rcases b with b | b
      · exact b.symm
      have := h2.1 x a
      have := h1.1 y b
      omega
    subst hxy
    congr 1
    refine rises_uniq h1.2 h2.2 fun z => ?_
    have hz := h z
    rw [List.mem_cons, List.mem_cons] at hz
    constructor
    · intro k
      have := h1.1 z k
      exact (hz.1 (.inr k)).resolve_left (by omega)
    · intro k
      have := h2.1 z k
      exact (hz.2 (.inr k)).resolve_left (by omega)
theorem Rises.eq {L M : List Int} {P Q : Int → Prop} (h : Rises L P) (k : Rises M Q) (e : ∀ x, P x ↔ Q x) : L = M :=
  rises_uniq h.up k.up fun x => by rw [h.mem, k.mem, e]
theorem Rises.nil {P : Int → Prop} (h : ∀ x, ¬ P x) : Rises [] P := ⟨List.Pairwise.nil, fun x => by simp [h x]⟩
theorem BM.below {w w1 : World} {base p N : Nat} {a : Int → Option Int} {f : Int → Option (List Int)} (h : BM w base p N a f) (hb : Below w.heap.size w w1) : BM w1 base p N a f := by
  obtain ⟨bA, bF, DA, DF, mF, hB⟩ := h
  exact ⟨bA, bF, DA, DF, mF, hB.below hb⟩
theorem int_slice {w : World} {base : Nat} {v : Value} {L : List Int} (h : w.ownsRow base 3 1 v L.length (L.map (Value.int .i64))) : ∃ A c, v = .slice A L.length c ∧ L.length ≤ c ∧ Kd.C (Kd.int .i64) w A L.length L :=
  Kd.R_reads (Kd.R_of_own (h1 := fun _ => rfl) (ok := fun _ => True) h (fun _ _ => trivial))
theorem there_at {w : World} {base p N : Nat} {a : Int → Option Int} {f : Int → Option (List Int)} (h : BM w base p N a f) (hN : N ≤ 1000000) (hd : ∀ k, f k ≠ none → a k = none) {M : List Int} (hM : Rises M (fun k => a k ≠ none ∨ f k ≠ none)) :
    Calls Tryd.prog 12 #[.pointer (some ⟨p, 0, none⟩)] w fun e w' => ∃ A c, e = .returned (.slice A M.length c) ∧ M.length ≤ c ∧ Kd.C (Kd.int .i64) w' A M.length M ∧ Below w.heap.size w w' := by
  refine (there_calls h hN hd).mono ?_
  rintro e w' ⟨v, L, rfl, hL, hrow, hb⟩
  obtain rfl := hL.eq hM (fun _ => Iff.rfl)
  obtain ⟨A, c, rfl, hc, hC⟩ := int_slice hrow
  exact ⟨A, c, rfl, hc, hC, hb⟩
theorem fresh_at {w : World} {base p N : Nat} {a : Int → Option Int} {f : Int → Option (List Int)} (h : BM w base p N a f) (hN : N ≤ 1000000) {M : List Int} (hM : Rises M (fun k => f k ≠ none)) :
    Calls Tryd.prog 11 #[.pointer (some ⟨p, 0, none⟩)] w fun e w' => ∃ A c, e = .returned (.slice A M.length c) ∧ M.length ≤ c ∧ Kd.C (Kd.int .i64) w' A M.length M ∧ Below w.heap.size w w' := by
  refine (fresh_calls h hN).mono ?_
  rintro e w' ⟨v, L, rfl, hL, hrow, hb⟩
  obtain rfl := hL.eq hM (fun _ => Iff.rfl)
  obtain ⟨A, c, rfl, hc, hC⟩ := int_slice hrow
  exact ⟨A, c, rfl, hc, hC, hb⟩
theorem new_p (A : Option Addr) (c : Nat) (l : List Int) (w : World) (hC : Kd.C (Kd.int .i64) w A l.length l) (hl : l.length ≤ 828) (hok : ∀ x ∈ l, okA x) :
    Calls Tryd.prog 9 #[.slice A l.length c] w fun e w' => ∃ p, e = .returned (.tuple #[.pointer (some ⟨p, 0, none⟩), .int .i64 0]) ∧ BM w' w.heap.size p 828 (adr l) (fun _ => none) ∧ Below w.heap.size w w' := by
  refine (new_ok A c l w hC hl hok).mono ?_
  rintro e w' ⟨rfl, h1, h2⟩
  exact ⟨_, rfl, h1, h2⟩
theorem lit_CI (xs : List Int) (w : World) (cs : Array Value) (n : Nat) (hcs : (encs (Value.int .i64) xs).toArray = cs) (hl : xs.length = n) (hn : n ≤ 9223372036854775807) (N : Nat) (hN : w.heap.size = N) : Kd.C (Kd.int .i64) (w.alloc (.cells cs 3)) (some ⟨N, 0, none⟩) n xs := by
  subst hcs; subst hl; subst hN
  refine Kd.C_of_reads (d := (0 : Int)) (h1 := fun _ => rfl) ⟨rfl, hn, fun _ => ⟨_, rfl, fun j hj => ?_⟩⟩
  rw [addr_add, Nat.zero_add]
  refine (blk_cell (blk_new w _) j).trans ?_
  rw [List.getElem?_toArray]
  exact encs_get (d := (0 : Int)) xs j hj
theorem lit_CB (xs : List Int) (w : World) (cs : Array Value) (n : Nat) (hcs : (encs (Value.int .u8) xs).toArray = cs) (hl : xs.length = n) (hn : n ≤ 9223372036854775807) (N : Nat) (hN : w.heap.size = N) : Kd.C (Kd.int .u8) (w.alloc (.cells cs 5)) (some ⟨N, 0, none⟩) n xs := by
  subst hcs; subst hl; subst hN
  refine Kd.C_of_reads (d := (0 : Int)) (h1 := fun _ => rfl) ⟨rfl, hn, fun _ => ⟨_, rfl, fun j hj => ?_⟩⟩
  rw [addr_add, Nat.zero_add]
  refine (blk_cell (blk_new w _) j).trans ?_
  rw [List.getElem?_toArray]
  exact encs_get (d := (0 : Int)) xs j hj
theorem rise02 : Rises [0, 2] (fun k => adr [5, 0, 7] k ≠ none ∨ (none : Option (List Int)) ≠ none) := by
  refine ⟨by simp, fun x => ?_⟩
  rcases x with (_ | _ | _ | n) | n
  all_goals first
    | (simp [adr]; done)
    | (have e : ((n : Int) + 1 + 1 + 1).toNat = n + 3 := by omega
       simp [adr, e]; done)
    | (have e : ((n : Int) + 1 + 1 + 1).toNat = n + 3 := by omega
       simp [adr, e]; omega)
theorem rise2 : Rises [2] (fun k => setF (adr [5, 0, 7]) 0 none k ≠ none ∨ setF (fun _ => (none : Option (List Int))) 0 none k ≠ none) := by
  refine ⟨by simp, fun x => ?_⟩
  rcases x with (_ | _ | _ | n) | n
  all_goals first
    | (simp [adr, setF]; done)
    | (have e : ((n : Int) + 1 + 1 + 1).toNat = n + 3 := by omega
       simp [adr, setF, e]; done)
    | (have e : ((n : Int) + 1 + 1 + 1).toNat = n + 3 := by omega
       simp [adr, setF, e]; omega)
theorem same02 : moraineref00_SameInts.f 3 [0, 2] [0, 2] = some true := by kernel_rfl
theorem same2 : moraineref00_SameInts.f 3 [2] [2] = some true := by kernel_rfl
theorem nought56 : bits_Nought.f (List.replicate 56 0) = some true := by kernel_rfl
set_option maxHeartbeats 2000000 in
set_option maxRecDepth 100000 in
theorem alive_calls (w : World) : Calls Tryd.prog 8 #[] w fun e w' => e = .returned (.bool true) ∧ Below w.heap.size w w' := by
  go_enter Tryd.func8, Tryd.ntmps8
  go_wp2_with fail
  refine (new_p _ 3 [5, 0, 7] _ (lit_CI [5, 0, 7] w _ 3 (by simp [encs]) rfl (by decide) _ rfl) (by decide) (by intro x hx; simp at hx; unfold okA; omega)).mono ?_
  rintro e w1 ⟨p, rfl, hM, hB⟩
  have HB1 : Hid (Below w.heap.size w w1) := ((Below.refl _ w).alloc (Nat.le_refl _) _).trans (hB.mono (by simp))
  have HM := Lib.hid hM
  clear hM hB
  go_wp2_with fail
  refine (there_at HM.out (by decide) (fun k h => absurd rfl h) rise02).mono ?_
  rintro e w2 ⟨A2, c2, rfl, hc2, hC2, hB⟩
  have HB2 : Hid (Below w.heap.size w w2) := HB1.out.trans (hB.mono HB1.out.size)
  have HM2 := Lib.hid (HM.out.below hB)
  have HC2 := Lib.hid hC2
  clear hB HB1 HM hC2
  go_wp2_with fail
  refine (moraineref00_SameInts.calls 3 A2 c2 [0, 2] (some ⟨w2.heap.size, 0, none⟩) 2 [0, 2] true _ (Kd.C_below HC2.out ((Below.refl _ w2).alloc (Nat.le_refl _) _)) hc2 (lit_CI [0, 2] w2 _ 2 (by simp [encs]) rfl (by decide) _ rfl) (by decide) same02).mono ?_
  rintro e w3 ⟨rfl, ⟨nd, rfl⟩⟩
  have HB3 : Hid (Below w.heap.size w ((w2.alloc (.cells #[.int .i64 0, .int .i64 2] 3)).drewN nd)) := pw_below_drewN (HB2.out.alloc HB2.out.size _) nd
  have HM3 : Hid (BM ((w2.alloc (.cells #[.int .i64 0, .int .i64 2] 3)).drewN nd) _ p 828 (adr [5, 0, 7]) (fun _ => none)) := HM2.out.below (pw_below_drewN ((Below.refl _ w2).alloc (Nat.le_refl _) _) nd)
  obtain ⟨w3, hw3⟩ : ∃ z, z = (w2.alloc (.cells #[.int .i64 0, .int .i64 2] 3)).drewN nd := ⟨_, rfl⟩
  rw [← hw3] at HB3 HM3 ⊢
  clear hw3 HB2 HM2 HC2 hc2
  go_wp2_with fail
  refine (at_calls HM3.out 2 (by decide)).mono ?_
  rintro e w4 ⟨rfl, rfl⟩
  rw [show ((adr [5, 0, 7] 2).getD 0) = 7 from rfl]
  go_wp2_with ((with_reducible refine gate_dst (N := 27) rfl ?_); refine Kd.R_make (Kd.int .u8) (w0 := w3) w3.heap.size 5 rfl (N := 27) rfl 30 (.const (.int .i64 56)) (.const (.int .i64 56)) rfl 56 rfl rfl Tryd.underlying30 (.int .u8 0) 1 infoB rfl (by decide) (by decide) 0 (ok := fun _ => True) (okp := fun _ => True) rfl (fun _ h => h) trivial (by decide) (by decide) (Below.refl _ _) (Nat.le_refl _) ?_; intro v5 w4 hR hB _ _; obtain ⟨A5, c5, rfl⟩ := Kd.R_slice hR; rw [show (List.replicate (Int.toNat 56) (0 : Int)).length = 56 from rfl] at hR ⊢; have HR5 := Lib.hid hR; have H34 := Lib.hid hB; clear hR hB)
  have HM4 := Lib.hid (HM3.out.below H34.out)
  have hb0 : (w.alloc (.cells #[.int .i64 5, .int .i64 0, .int .i64 7] 3)).heap.size = w.heap.size + 1 := by simp
  have hR5 := Kd.R_reads' HR5.out
  refine (put_zero HM4.out 0 (by decide) (by decide) A5 c5 (List.replicate 56 0) rfl hR5.2.1 hR5.2.2 nought56).mono ?_
  rintro e w5 ⟨rfl, hM5, hB5⟩
  have HM5 := Lib.hid hM5
  have HB5 : Hid (Below w.heap.size w w5) := (HB3.out.trans (H34.out.mono HB3.out.size)).trans (hB5.mono (by rw [hb0]; omega))
  clear hM5 hB5 hR5 HR5 HM4 HM3 HB3 H34
  go_wp2_with fail
  refine (there_at HM5.out (by decide) (fun k h => by simp [setF] at h) rise2).mono ?_
  rintro e w6 ⟨A6, c6, rfl, hc6, hC6, hB⟩
  have HB6 : Hid (Below w.heap.size w w6) := HB5.out.trans (hB.mono HB5.out.size)
  have HM6 := Lib.hid (HM5.out.below hB)
  have HC6 := Lib.hid hC6
  clear hB HB5 HM5 hC6
  go_wp2_with fail
  refine (moraineref00_SameInts.calls 3 A6 c6 [2] (some ⟨w6.heap.size, 0, none⟩) 1 [2] true _ (Kd.C_below HC6.out ((Below.refl _ w6).alloc (Nat.le_refl _) _)) hc6 (lit_CI [2] w6 _ 1 (by simp [encs]) rfl (by decide) _ rfl) (by decide) same2).mono ?_
  rintro e w7 ⟨rfl, ⟨nd2, rfl⟩⟩
  have HB7 : Hid (Below w.heap.size w ((w6.alloc (.cells #[.int .i64 2] 3)).drewN nd2)) := pw_below_drewN (HB6.out.alloc HB6.out.size _) nd2
  have HM7 := Lib.hid (HM6.out.below (pw_below_drewN ((Below.refl _ w6).alloc (Nat.le_refl _) (.cells #[.int .i64 2] 3)) nd2))
  obtain ⟨w7, hw7⟩ : ∃ z, z = (w6.alloc (.cells #[.int .i64 2] 3)).drewN nd2 := ⟨_, rfl⟩
  rw [← hw7] at HB7 HM7 ⊢
  clear hw7 HB6 HM6 HC6 hc6
  go_wp2_with fail
  refine (fresh_at HM7.out (by decide) (Rises.nil (fun k h => by simp [setF] at h))).mono ?_
  rintro e w8 ⟨A8, c8, rfl, hc8, hC8, hB⟩
  have HB8 : Hid (Below w.heap.size w w8) := HB7.out.trans (hB.mono HB7.out.size)
  clear hB HB7 HM7 hC8 hc8
  go_wp2_with fail
  go_ret
  exact ⟨rfl, HB8.out⟩
end Go.Proofs.YtlkhlmckgpjopaaDoor.Given
