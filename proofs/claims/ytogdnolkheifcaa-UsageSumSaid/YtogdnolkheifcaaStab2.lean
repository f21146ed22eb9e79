/- Stab2: GivSymC, PureMerge, GivSym. -/
import Derived.Test.YtogdnolkheifcaaStab1
import Derived.KernelRfl
import Derived.Laws.BitsLemmas
import Derived.Laws.BitsAllLaws
/- slices.symMergeCmpFunc where both parts are two or more: the walk, printed by gensym.py. -/
namespace Go.Proofs.Ytogdnolkheifcaa.Given
open Go.RowKit Go.Shelf Go.Lib Go.Sort Go.Proofs.YtogdnolkheifcaaW.PrintWords Go.Proofs.YtogdnolkheifcaaW.PrintLast Go.Proofs.YtogdnolkheifcaaW.PrintMore Go.Proofs.Ytogdnolkheifcaa.Base Go.Proofs.Ytogdnolkheifcaa.Pure
set_option linter.unusedVariables false
set_option linter.unusedSimpArgs false
variable {α : Type} [Inhabited α]
/-- What stands behind the search: the turn, and the two merges. -/
def Tail (enc : α → Value) (cf : α → α → Int) (g : Nat) (cb : Array Value) (blk off cap : Nat) (D : Array α) (a m b N mid s0 r0 p : Nat) (w0 : World) (Post : World → Prop) : Prop :=
  ∀ s, s0 ≤ s → s ≤ r0 → (∀ k, s0 ≤ k → k < s → 0 ≤ cf D[p - k]! D[k]!) → (∀ k, s ≤ k → k < r0 → cf D[p - k]! D[k]! < 0) →
  ∃ (E : Nat) (Q1 Q2 Q3 : World → Prop), E + s = mid + m ∧
    (∀ w, SW enc w0 blk off D w → (s < m ∧ m < E → Calls Try.prog 64 #[.slice (some ⟨blk, off, none⟩) N cap, .int .i64 s, .int .i64 m, .int .i64 E, .func (.func g) #[] cb] w fun e w' => e = .returned (.tuple #[]) ∧ Q1 w') ∧ (¬ (s < m ∧ m < E) → Q1 w)) ∧
    (∀ w, Q1 w → (a < s ∧ s < mid → Calls Try.prog 58 #[.slice (some ⟨blk, off, none⟩) N cap, .int .i64 a, .int .i64 s, .int .i64 mid, .func (.func g) #[] cb] w fun e w' => e = .returned (.tuple #[]) ∧ Q2 w') ∧ (¬ (a < s ∧ s < mid) → Q2 w)) ∧
    (∀ w, Q2 w → (mid < E ∧ E < b → Calls Try.prog 58 #[.slice (some ⟨blk, off, none⟩) N cap, .int .i64 mid, .int .i64 E, .int .i64 b, .func (.func g) #[] cb] w fun e w' => e = .returned (.tuple #[]) ∧ Q3 w') ∧ (¬ (mid < E ∧ E < b) → Q3 w)) ∧
    (∀ w, Q3 w → Post w)

set_option maxHeartbeats 8000000 in
set_option maxRecDepth 4000 in
theorem symC1 (enc : α → Value) (cf : α → α → Int) (g : Nat) (cb : Array Value) (blk off cap : Nat) (D : Array α) (a m b N mid s0 r0 p : Nat) (d0 : Array α) (w0 w : World) (eg : ∀ args w, (callFunc g args).run Try.prog w = .ok (.enter g args) w) (hcmp : CmpLays1 Try.prog g cb enc cf blk off N w0) (R : Row1 enc w0 blk off d0) (hs : d0.size = N) (hD : D.size = N) (hm : a + 1 < m) (hb : m + 1 < b) (hbN : b ≤ N) (hmid : mid = (a + b) / 2) (hside : mid < m) (hs0 : s0 + b = mid + m) (hr0 : r0 = mid) (hp : p + 1 = mid + m)
    (mono : ∀ c c', s0 ≤ c → c ≤ c' → c' < r0 → cf D[p - c]! D[c]! < 0 → cf D[p - c']! D[c']! < 0) (Post : World → Prop) (H : Tail enc cf g cb blk off cap D a m b N mid s0 r0 p w0 Post)
    (S : SW enc w0 blk off D w) (hsz : N < 1152921504606846976) :
    Calls Try.prog 58 #[.slice (some ⟨blk, off, none⟩) N cap, .int .i64 a, .int .i64 m, .int .i64 b, .func (.func g) #[] cb] w fun e w' => e = .returned (.tuple #[]) ∧ Post w' := by
  have S0 : Aside (SW enc w0 blk off D w) := S
  have HC : Aside (CmpLays1 Try.prog g cb enc cf blk off N w0) := hcmp
  clear S hcmp
  have mixed : Try.prog.follows Departure.mixedOrders = true := by kernel_rfl
  have hcl0 := R.hO.cells
  simp only [Value.cells] at hcl0
  have hst := R.hO.store Try.prog
  have h1 : ((m : Int) - (a : Int) == 1) = false := beq_eq_false_iff_ne.2 (by omega)
  have h2 : ((b : Int) - (m : Int) == 1) = false := beq_eq_false_iff_ne.2 (by omega)
  have ha0 : 0 ≤ (m : Int) - (a : Int) := by omega
  have ha1 : (m : Int) - (a : Int) < 1152921504606846976 := by omega
  have ha2 : 0 ≤ (b : Int) - (m : Int) := by omega
  have ha3 : (b : Int) - (m : Int) < 1152921504606846976 := by omega
  have hab : (a : Int) + (b : Int) < 4611686018427387904 := by omega
  have emid : ((a : Int) + (b : Int)) / 2 = (mid : Int) := by omega
  have hmm : (mid : Int) + (m : Int) < 4611686018427387904 := by omega
  have ep : (mid : Int) + (m : Int) - 1 = (p : Int) := by omega
  have hsd : (mid : Int) < (m : Int) := by omega
  have es : (mid : Int) + (m : Int) - (b : Int) = (s0 : Int) := by omega
  have hrN : r0 ≤ N := by omega
  have HMO := Lib.hid mono
  have HQ := Lib.hid (And.intro hm (And.intro hb (And.intro hbN (And.intro hmid (And.intro hs0 (And.intro hr0 hp))))))
  have hsr : s0 ≤ r0 := by omega
  have hpb : ∀ c : Nat, s0 ≤ c → c < r0 → c ≤ p ∧ p - c < N := fun c k1 k2 => by omega
  have HPB := Lib.hid hpb
  have HT : Hid (Tail enc cf g cb blk off cap D a m b N mid s0 r0 p w0 Post) := H
  clear mono hm hb hbN hmid hs0 hr0 hp hpb H
  go_enter Try.func58, Try.ntmps58
  go_wp2
  go_loopg [20, 21] (r0 - s0) (fun g1 vi vj wr => ∃ (i j : Nat), vi = .int .i64 i ∧ vj = .int .i64 j ∧ s0 ≤ i ∧ i ≤ j ∧ j ≤ r0 ∧ j - i ≤ g1 ∧ Hid (∀ k, s0 ≤ k → k < i → 0 ≤ cf D[p - k]! D[k]!) ∧ Hid (∀ k, j ≤ k → k < r0 → cf D[p - k]! D[k]! < 0) ∧ Aside (SW enc w0 blk off D wr))
  case atStart => exact ⟨s0, r0, by first | rfl | (congr 1), by have hQ := HQ.out; congr 1; omega, Nat.le_refl _, hsr, Nat.le_refl _, Nat.le_refl _, fun k h1 h2 => by omega, fun k h1 h2 => by omega, S0⟩
  case round =>
    clear S0
    obtain ⟨i, j, rfl, rfl, hmi, hij, hjb, hg1, HI, HJ, S1⟩ := hrel
    by_cases hlt : i < j
    · have hltz : (i : Int) < (j : Int) := by omega
      obtain ⟨h, hh⟩ : ∃ h, (i + j) / 2 = h := ⟨_, rfl⟩
      have eh : ((i : Int) + (j : Int)) / 2 = (h : Int) := by omega
      have hih : i ≤ h := by omega
      have hhj : h < j := by omega
      have hpc := HPB.out h (by omega) (by omega)
      clear hh
      go_wp2_with fail
      try rw [eh]
      obtain ⟨q, hq⟩ : ∃ q, q = p - h := ⟨_, rfl⟩
      obtain ⟨x, hx⟩ : ∃ x, x = D[q]! := ⟨_, rfl⟩
      obtain ⟨y, hy⟩ : ∃ x, x = D[h]! := ⟨_, rfl⟩
      have la := S1.out.cl R (by omega) q (by omega)
      have lb := S1.out.cl R (by omega) h (by omega)
      rw [← hx] at la
      rw [← hy] at lb
      have hc := S1.out.cmp HC.out (by omega) x y
      have ph : (0 : Int) ≤ (h : Int) := by omega
      have bh : (h : Int) < (N : Int) := by omega
      have ea : ((p : Int) - (h : Int)).toNat = q := by omega
      have pa : (0 : Int) ≤ (p : Int) - (h : Int) := by omega
      have pa2 : (h : Int) ≤ (p : Int) := by omega
      have pa3 : (p : Int) - (h : Int) < 1152921504606846976 := by omega
      have ba : (p : Int) - (h : Int) < (N : Int) := by omega
      have ra : IntKind.i64.wrap ((p : Int) - (h : Int)) = (p : Int) - (h : Int) := by rw [IntKind.wrap_i64]; omega
      have HX : Hid (x = D[p - h]!) := by show _ = _; rw [hx, hq]
      have HY := Lib.hid hy
      clear eh hx hy hpc hq
      by_cases hv : cf x y < 0
      · have hd : decide (cf x y < 0) = true := decide_eq_true hv
        go_quiet_grown (first | (go_at_fn g; refine Calls.grown_of (hc _ _)))
        have S2 : Aside (SW enc w0 blk off D (grow (wr.drewN nq) osq)) := S1.out.grown nq osq
        clear la lb hc S1 ea
        generalize grow (wr.drewN nq) osq = w2 at S2 ⊢
        clear nq osq
        go_wp2
        go_roundg (h - i)
        case measure => omega
        case rel =>
          refine ⟨i, h, rfl, rfl, by omega, by omega, by omega, Nat.le_refl _, HI, fun k k1 k2 => ?_, S2⟩
          exact HMO.out h k (by omega) k1 k2 (by rw [← HX.out, ← HY.out]; exact hv)
      · have hd : decide (cf x y < 0) = false := decide_eq_false hv
        go_quiet_grown (first | (go_at_fn g; refine Calls.grown_of (hc _ _)))
        have S2 : Aside (SW enc w0 blk off D (grow (wr.drewN nq) osq)) := S1.out.grown nq osq
        clear la lb hc S1 ea
        generalize grow (wr.drewN nq) osq = w2 at S2 ⊢
        clear nq osq
        go_wp2
        go_roundg (j - (h + 1))
        case measure => omega
        case rel =>
          refine ⟨h + 1, j, by go_num, rfl, by omega, by omega, by omega, Nat.le_refl _, fun k k1 k2 => ?_, HJ, S2⟩
          refine Int.not_lt.1 fun hk => ?_
          have hq := HMO.out k h k1 (by omega) (by omega) hk
          rw [← HX.out, ← HY.out] at hq
          omega
    · have hltz : ¬ (i : Int) < (j : Int) := by omega
      obtain rfl : i = j := by omega
      obtain ⟨E, Q1, Q2, Q3, hE, t1, t2, t3, t4⟩ := HT.out i hmi hjb HI.out HJ.out
      have eE : (mid : Int) + (m : Int) - (i : Int) = (E : Int) := by omega
      have hE0 : 0 ≤ (mid : Int) + (m : Int) - (i : Int) := by omega
      have hE1 : (mid : Int) + (m : Int) - (i : Int) < 4611686018427387904 := by omega
      have T1 := Lib.hid (t1 wr S1.out)
      have T2 := Lib.hid t2
      have T3 := Lib.hid t3
      have T4 := Lib.hid t4
      clear t1 t2 t3 t4 hE S1 HI HJ hltz hg1 hmi hij hjb
      by_cases c0a : i < m
      · have z0a : (i : Int) < (m : Int) := by omega
        by_cases c0b : m < E
        · have z0b : (m : Int) < (E : Int) := by omega
          have XC := Lib.hid (T1.out.1 ⟨c0a, c0b⟩)
          go_wp2_with fail
          refine XC.out.mono ?_
          rintro e w2 ⟨rfl, hX⟩
          have X1 := Lib.hid hX
          clear hX XC
          clear z0a z0b c0a c0b
          by_cases c1a : a < i
          · have z1a : (a : Int) < (i : Int) := by omega
            by_cases c1b : i < mid
            · have z1b : (i : Int) < (mid : Int) := by omega
              have XC := Lib.hid ((T2.out _ X1.out).1 ⟨c1a, c1b⟩)
              go_wp2_with fail
              refine XC.out.mono ?_
              rintro e w3 ⟨rfl, hX⟩
              have X2 := Lib.hid hX
              clear hX XC
              clear z1a z1b c1a c1b
              by_cases c2a : mid < E
              · have z2a : (mid : Int) < (E : Int) := by omega
                by_cases c2b : E < b
                · have z2b : (E : Int) < (b : Int) := by omega
                  have XC := Lib.hid ((T3.out _ X2.out).1 ⟨c2a, c2b⟩)
                  go_wp2_with fail
                  refine XC.out.mono ?_
                  rintro e w4 ⟨rfl, hX⟩
                  have X3 := Lib.hid hX
                  clear hX XC
                  clear z2a z2b c2a c2b
                  (try go_wp2_with fail)
                  go_end0
                  exact ⟨rfl, T4.out _ X3.out⟩
                · have z2b : ¬ (E : Int) < (b : Int) := by omega
                  have X3 := Lib.hid ((T3.out _ X2.out).2 (fun h => c2b h.2))
                  (try go_wp2_with fail)
                  go_end0
                  exact ⟨rfl, T4.out _ X3.out⟩
              · have z2a : ¬ (mid : Int) < (E : Int) := by omega
                have X3 := Lib.hid ((T3.out _ X2.out).2 (fun h => c2a h.1))
                (try go_wp2_with fail)
                go_end0
                exact ⟨rfl, T4.out _ X3.out⟩
            · have z1b : ¬ (i : Int) < (mid : Int) := by omega
              have X2 := Lib.hid ((T2.out _ X1.out).2 (fun h => c1b h.2))
              by_cases c2a : mid < E
              · have z2a : (mid : Int) < (E : Int) := by omega
                by_cases c2b : E < b
                · have z2b : (E : Int) < (b : Int) := by omega
                  have XC := Lib.hid ((T3.out _ X2.out).1 ⟨c2a, c2b⟩)
                  go_wp2_with fail
                  refine XC.out.mono ?_
                  rintro e w4 ⟨rfl, hX⟩
                  have X3 := Lib.hid hX
                  clear hX XC
                  clear z2a z2b c2a c2b
                  (try go_wp2_with fail)
                  go_end0
                  exact ⟨rfl, T4.out _ X3.out⟩
                · have z2b : ¬ (E : Int) < (b : Int) := by omega
                  have X3 := Lib.hid ((T3.out _ X2.out).2 (fun h => c2b h.2))
                  (try go_wp2_with fail)
                  go_end0
                  exact ⟨rfl, T4.out _ X3.out⟩
              · have z2a : ¬ (mid : Int) < (E : Int) := by omega
                have X3 := Lib.hid ((T3.out _ X2.out).2 (fun h => c2a h.1))
                (try go_wp2_with fail)
                go_end0
                exact ⟨rfl, T4.out _ X3.out⟩
          · have z1a : ¬ (a : Int) < (i : Int) := by omega
            have X2 := Lib.hid ((T2.out _ X1.out).2 (fun h => c1a h.1))
            by_cases c2a : mid < E
            · have z2a : (mid : Int) < (E : Int) := by omega
              by_cases c2b : E < b
              · have z2b : (E : Int) < (b : Int) := by omega
                have XC := Lib.hid ((T3.out _ X2.out).1 ⟨c2a, c2b⟩)
                go_wp2_with fail
                refine XC.out.mono ?_
                rintro e w4 ⟨rfl, hX⟩
                have X3 := Lib.hid hX
                clear hX XC
                clear z2a z2b c2a c2b
                (try go_wp2_with fail)
                go_end0
                exact ⟨rfl, T4.out _ X3.out⟩
              · have z2b : ¬ (E : Int) < (b : Int) := by omega
                have X3 := Lib.hid ((T3.out _ X2.out).2 (fun h => c2b h.2))
                (try go_wp2_with fail)
                go_end0
                exact ⟨rfl, T4.out _ X3.out⟩
            · have z2a : ¬ (mid : Int) < (E : Int) := by omega
              have X3 := Lib.hid ((T3.out _ X2.out).2 (fun h => c2a h.1))
              (try go_wp2_with fail)
              go_end0
              exact ⟨rfl, T4.out _ X3.out⟩
        · have z0b : ¬ (m : Int) < (E : Int) := by omega
          have X1 := Lib.hid (T1.out.2 (fun h => c0b h.2))
          by_cases c1a : a < i
          · have z1a : (a : Int) < (i : Int) := by omega
            by_cases c1b : i < mid
            · have z1b : (i : Int) < (mid : Int) := by omega
              have XC := Lib.hid ((T2.out _ X1.out).1 ⟨c1a, c1b⟩)
              go_wp2_with fail
              refine XC.out.mono ?_
              rintro e w3 ⟨rfl, hX⟩
              have X2 := Lib.hid hX
              clear hX XC
              clear z1a z1b c1a c1b
              by_cases c2a : mid < E
              · have z2a : (mid : Int) < (E : Int) := by omega
                by_cases c2b : E < b
                · have z2b : (E : Int) < (b : Int) := by omega
                  have XC := Lib.hid ((T3.out _ X2.out).1 ⟨c2a, c2b⟩)
                  go_wp2_with fail
                  refine XC.out.mono ?_
                  rintro e w4 ⟨rfl, hX⟩
                  have X3 := Lib.hid hX
                  clear hX XC
                  clear z2a z2b c2a c2b
                  (try go_wp2_with fail)
                  go_end0
                  exact ⟨rfl, T4.out _ X3.out⟩
                · have z2b : ¬ (E : Int) < (b : Int) := by omega
                  have X3 := Lib.hid ((T3.out _ X2.out).2 (fun h => c2b h.2))
                  (try go_wp2_with fail)
                  go_end0
                  exact ⟨rfl, T4.out _ X3.out⟩
              · have z2a : ¬ (mid : Int) < (E : Int) := by omega
                have X3 := Lib.hid ((T3.out _ X2.out).2 (fun h => c2a h.1))
                (try go_wp2_with fail)
                go_end0
                exact ⟨rfl, T4.out _ X3.out⟩
            · have z1b : ¬ (i : Int) < (mid : Int) := by omega
              have X2 := Lib.hid ((T2.out _ X1.out).2 (fun h => c1b h.2))
              by_cases c2a : mid < E
              · have z2a : (mid : Int) < (E : Int) := by omega
                by_cases c2b : E < b
                · have z2b : (E : Int) < (b : Int) := by omega
                  have XC := Lib.hid ((T3.out _ X2.out).1 ⟨c2a, c2b⟩)
                  go_wp2_with fail
                  refine XC.out.mono ?_
                  rintro e w4 ⟨rfl, hX⟩
                  have X3 := Lib.hid hX
                  clear hX XC
                  clear z2a z2b c2a c2b
                  (try go_wp2_with fail)
                  go_end0
                  exact ⟨rfl, T4.out _ X3.out⟩
                · have z2b : ¬ (E : Int) < (b : Int) := by omega
                  have X3 := Lib.hid ((T3.out _ X2.out).2 (fun h => c2b h.2))
                  (try go_wp2_with fail)
                  go_end0
                  exact ⟨rfl, T4.out _ X3.out⟩
              · have z2a : ¬ (mid : Int) < (E : Int) := by omega
                have X3 := Lib.hid ((T3.out _ X2.out).2 (fun h => c2a h.1))
                (try go_wp2_with fail)
                go_end0
                exact ⟨rfl, T4.out _ X3.out⟩
          · have z1a : ¬ (a : Int) < (i : Int) := by omega
            have X2 := Lib.hid ((T2.out _ X1.out).2 (fun h => c1a h.1))
            by_cases c2a : mid < E
            · have z2a : (mid : Int) < (E : Int) := by omega
              by_cases c2b : E < b
              · have z2b : (E : Int) < (b : Int) := by omega
                have XC := Lib.hid ((T3.out _ X2.out).1 ⟨c2a, c2b⟩)
                go_wp2_with fail
                refine XC.out.mono ?_
                rintro e w4 ⟨rfl, hX⟩
                have X3 := Lib.hid hX
                clear hX XC
                clear z2a z2b c2a c2b
                (try go_wp2_with fail)
                go_end0
                exact ⟨rfl, T4.out _ X3.out⟩
              · have z2b : ¬ (E : Int) < (b : Int) := by omega
                have X3 := Lib.hid ((T3.out _ X2.out).2 (fun h => c2b h.2))
                (try go_wp2_with fail)
                go_end0
                exact ⟨rfl, T4.out _ X3.out⟩
            · have z2a : ¬ (mid : Int) < (E : Int) := by omega
              have X3 := Lib.hid ((T3.out _ X2.out).2 (fun h => c2a h.1))
              (try go_wp2_with fail)
              go_end0
              exact ⟨rfl, T4.out _ X3.out⟩
      · have z0a : ¬ (i : Int) < (m : Int) := by omega
        have X1 := Lib.hid (T1.out.2 (fun h => c0a h.1))
        by_cases c1a : a < i
        · have z1a : (a : Int) < (i : Int) := by omega
          by_cases c1b : i < mid
          · have z1b : (i : Int) < (mid : Int) := by omega
            have XC := Lib.hid ((T2.out _ X1.out).1 ⟨c1a, c1b⟩)
            go_wp2_with fail
            refine XC.out.mono ?_
            rintro e w3 ⟨rfl, hX⟩
            have X2 := Lib.hid hX
            clear hX XC
            clear z1a z1b c1a c1b
            by_cases c2a : mid < E
            · have z2a : (mid : Int) < (E : Int) := by omega
              by_cases c2b : E < b
              · have z2b : (E : Int) < (b : Int) := by omega
                have XC := Lib.hid ((T3.out _ X2.out).1 ⟨c2a, c2b⟩)
                go_wp2_with fail
                refine XC.out.mono ?_
                rintro e w4 ⟨rfl, hX⟩
                have X3 := Lib.hid hX
                clear hX XC
                clear z2a z2b c2a c2b
                (try go_wp2_with fail)
                go_end0
                exact ⟨rfl, T4.out _ X3.out⟩
              · have z2b : ¬ (E : Int) < (b : Int) := by omega
                have X3 := Lib.hid ((T3.out _ X2.out).2 (fun h => c2b h.2))
                (try go_wp2_with fail)
                go_end0
                exact ⟨rfl, T4.out _ X3.out⟩
            · have z2a : ¬ (mid : Int) < (E : Int) := by omega
              have X3 := Lib.hid ((T3.out _ X2.out).2 (fun h => c2a h.1))
              (try go_wp2_with fail)
              go_end0
              exact ⟨rfl, T4.out _ X3.out⟩
          · have z1b : ¬ (i : Int) < (mid : Int) := by omega
            have X2 := Lib.hid ((T2.out _ X1.out).2 (fun h => c1b h.2))
            by_cases c2a : mid < E
            · have z2a : (mid : Int) < (E : Int) := by omega
              by_cases c2b : E < b
              · have z2b : (E : Int) < (b : Int) := by omega
                have XC := Lib.hid ((T3.out _ X2.out).1 ⟨c2a, c2b⟩)
                go_wp2_with fail
                refine XC.out.mono ?_
                rintro e w4 ⟨rfl, hX⟩
                have X3 := Lib.hid hX
                clear hX XC
                clear z2a z2b c2a c2b
                (try go_wp2_with fail)
                go_end0
                exact ⟨rfl, T4.out _ X3.out⟩
              · have z2b : ¬ (E : Int) < (b : Int) := by omega
                have X3 := Lib.hid ((T3.out _ X2.out).2 (fun h => c2b h.2))
                (try go_wp2_with fail)
                go_end0
                exact ⟨rfl, T4.out _ X3.out⟩
            · have z2a : ¬ (mid : Int) < (E : Int) := by omega
              have X3 := Lib.hid ((T3.out _ X2.out).2 (fun h => c2a h.1))
              (try go_wp2_with fail)
              go_end0
              exact ⟨rfl, T4.out _ X3.out⟩
        · have z1a : ¬ (a : Int) < (i : Int) := by omega
          have X2 := Lib.hid ((T2.out _ X1.out).2 (fun h => c1a h.1))
          by_cases c2a : mid < E
          · have z2a : (mid : Int) < (E : Int) := by omega
            by_cases c2b : E < b
            · have z2b : (E : Int) < (b : Int) := by omega
              have XC := Lib.hid ((T3.out _ X2.out).1 ⟨c2a, c2b⟩)
              go_wp2_with fail
              refine XC.out.mono ?_
              rintro e w4 ⟨rfl, hX⟩
              have X3 := Lib.hid hX
              clear hX XC
              clear z2a z2b c2a c2b
              (try go_wp2_with fail)
              go_end0
              exact ⟨rfl, T4.out _ X3.out⟩
            · have z2b : ¬ (E : Int) < (b : Int) := by omega
              have X3 := Lib.hid ((T3.out _ X2.out).2 (fun h => c2b h.2))
              (try go_wp2_with fail)
              go_end0
              exact ⟨rfl, T4.out _ X3.out⟩
          · have z2a : ¬ (mid : Int) < (E : Int) := by omega
            have X3 := Lib.hid ((T3.out _ X2.out).2 (fun h => c2a h.1))
            (try go_wp2_with fail)
            go_end0
            exact ⟨rfl, T4.out _ X3.out⟩

set_option maxHeartbeats 8000000 in
set_option maxRecDepth 4000 in
theorem symC2 (enc : α → Value) (cf : α → α → Int) (g : Nat) (cb : Array Value) (blk off cap : Nat) (D : Array α) (a m b N mid s0 r0 p : Nat) (d0 : Array α) (w0 w : World) (eg : ∀ args w, (callFunc g args).run Try.prog w = .ok (.enter g args) w) (hcmp : CmpLays1 Try.prog g cb enc cf blk off N w0) (R : Row1 enc w0 blk off d0) (hs : d0.size = N) (hD : D.size = N) (hm : a + 1 < m) (hb : m + 1 < b) (hbN : b ≤ N) (hmid : mid = (a + b) / 2) (hside : m ≤ mid) (hs0 : s0 = a) (hr0 : r0 = m) (hp : p + 1 = mid + m)
    (mono : ∀ c c', s0 ≤ c → c ≤ c' → c' < r0 → cf D[p - c]! D[c]! < 0 → cf D[p - c']! D[c']! < 0) (Post : World → Prop) (H : Tail enc cf g cb blk off cap D a m b N mid s0 r0 p w0 Post)
    (S : SW enc w0 blk off D w) (hsz : N < 1152921504606846976) :
    Calls Try.prog 58 #[.slice (some ⟨blk, off, none⟩) N cap, .int .i64 a, .int .i64 m, .int .i64 b, .func (.func g) #[] cb] w fun e w' => e = .returned (.tuple #[]) ∧ Post w' := by
  have S0 : Aside (SW enc w0 blk off D w) := S
  have HC : Aside (CmpLays1 Try.prog g cb enc cf blk off N w0) := hcmp
  clear S hcmp
  have mixed : Try.prog.follows Departure.mixedOrders = true := by kernel_rfl
  have hcl0 := R.hO.cells
  simp only [Value.cells] at hcl0
  have hst := R.hO.store Try.prog
  have h1 : ((m : Int) - (a : Int) == 1) = false := beq_eq_false_iff_ne.2 (by omega)
  have h2 : ((b : Int) - (m : Int) == 1) = false := beq_eq_false_iff_ne.2 (by omega)
  have ha0 : 0 ≤ (m : Int) - (a : Int) := by omega
  have ha1 : (m : Int) - (a : Int) < 1152921504606846976 := by omega
  have ha2 : 0 ≤ (b : Int) - (m : Int) := by omega
  have ha3 : (b : Int) - (m : Int) < 1152921504606846976 := by omega
  have hab : (a : Int) + (b : Int) < 4611686018427387904 := by omega
  have emid : ((a : Int) + (b : Int)) / 2 = (mid : Int) := by omega
  have hmm : (mid : Int) + (m : Int) < 4611686018427387904 := by omega
  have ep : (mid : Int) + (m : Int) - 1 = (p : Int) := by omega
  have hsd : ¬ (mid : Int) < (m : Int) := by omega
  have hrN : r0 ≤ N := by omega
  have HMO := Lib.hid mono
  have HQ := Lib.hid (And.intro hm (And.intro hb (And.intro hbN (And.intro hmid (And.intro hs0 (And.intro hr0 hp))))))
  have hsr : s0 ≤ r0 := by omega
  have hpb : ∀ c : Nat, s0 ≤ c → c < r0 → c ≤ p ∧ p - c < N := fun c k1 k2 => by omega
  have HPB := Lib.hid hpb
  have HT : Hid (Tail enc cf g cb blk off cap D a m b N mid s0 r0 p w0 Post) := H
  clear mono hm hb hbN hmid hs0 hr0 hp hpb H
  go_enter Try.func58, Try.ntmps58
  go_wp2
  go_loopg [20, 21] (r0 - s0) (fun g1 vi vj wr => ∃ (i j : Nat), vi = .int .i64 i ∧ vj = .int .i64 j ∧ s0 ≤ i ∧ i ≤ j ∧ j ≤ r0 ∧ j - i ≤ g1 ∧ Hid (∀ k, s0 ≤ k → k < i → 0 ≤ cf D[p - k]! D[k]!) ∧ Hid (∀ k, j ≤ k → k < r0 → cf D[p - k]! D[k]! < 0) ∧ Aside (SW enc w0 blk off D wr))
  case atStart => exact ⟨s0, r0, by have hQ := HQ.out; congr 1; omega, by have hQ := HQ.out; congr 1; omega, Nat.le_refl _, hsr, Nat.le_refl _, Nat.le_refl _, fun k h1 h2 => by omega, fun k h1 h2 => by omega, S0⟩
  case round =>
    clear S0
    obtain ⟨i, j, rfl, rfl, hmi, hij, hjb, hg1, HI, HJ, S1⟩ := hrel
    by_cases hlt : i < j
    · have hltz : (i : Int) < (j : Int) := by omega
      obtain ⟨h, hh⟩ : ∃ h, (i + j) / 2 = h := ⟨_, rfl⟩
      have eh : ((i : Int) + (j : Int)) / 2 = (h : Int) := by omega
      have hih : i ≤ h := by omega
      have hhj : h < j := by omega
      have hpc := HPB.out h (by omega) (by omega)
      clear hh
      go_wp2_with fail
      try rw [eh]
      obtain ⟨q, hq⟩ : ∃ q, q = p - h := ⟨_, rfl⟩
      obtain ⟨x, hx⟩ : ∃ x, x = D[q]! := ⟨_, rfl⟩
      obtain ⟨y, hy⟩ : ∃ x, x = D[h]! := ⟨_, rfl⟩
      have la := S1.out.cl R (by omega) q (by omega)
      have lb := S1.out.cl R (by omega) h (by omega)
      rw [← hx] at la
      rw [← hy] at lb
      have hc := S1.out.cmp HC.out (by omega) x y
      have ph : (0 : Int) ≤ (h : Int) := by omega
      have bh : (h : Int) < (N : Int) := by omega
      have ea : ((p : Int) - (h : Int)).toNat = q := by omega
      have pa : (0 : Int) ≤ (p : Int) - (h : Int) := by omega
      have pa2 : (h : Int) ≤ (p : Int) := by omega
      have pa3 : (p : Int) - (h : Int) < 1152921504606846976 := by omega
      have ba : (p : Int) - (h : Int) < (N : Int) := by omega
      have ra : IntKind.i64.wrap ((p : Int) - (h : Int)) = (p : Int) - (h : Int) := by rw [IntKind.wrap_i64]; omega
      have HX : Hid (x = D[p - h]!) := by show _ = _; rw [hx, hq]
      have HY := Lib.hid hy
      clear eh hx hy hpc hq
      by_cases hv : cf x y < 0
      · have hd : decide (cf x y < 0) = true := decide_eq_true hv
        go_quiet_grown (first | (go_at_fn g; refine Calls.grown_of (hc _ _)))
        have S2 : Aside (SW enc w0 blk off D (grow (wr.drewN nq) osq)) := S1.out.grown nq osq
        clear la lb hc S1 ea
        generalize grow (wr.drewN nq) osq = w2 at S2 ⊢
        clear nq osq
        go_wp2
        go_roundg (h - i)
        case measure => omega
        case rel =>
          refine ⟨i, h, rfl, rfl, by omega, by omega, by omega, Nat.le_refl _, HI, fun k k1 k2 => ?_, S2⟩
          exact HMO.out h k (by omega) k1 k2 (by rw [← HX.out, ← HY.out]; exact hv)
      · have hd : decide (cf x y < 0) = false := decide_eq_false hv
        go_quiet_grown (first | (go_at_fn g; refine Calls.grown_of (hc _ _)))
        have S2 : Aside (SW enc w0 blk off D (grow (wr.drewN nq) osq)) := S1.out.grown nq osq
        clear la lb hc S1 ea
        generalize grow (wr.drewN nq) osq = w2 at S2 ⊢
        clear nq osq
        go_wp2
        go_roundg (j - (h + 1))
        case measure => omega
        case rel =>
          refine ⟨h + 1, j, by go_num, rfl, by omega, by omega, by omega, Nat.le_refl _, fun k k1 k2 => ?_, HJ, S2⟩
          refine Int.not_lt.1 fun hk => ?_
          have hq := HMO.out k h k1 (by omega) (by omega) hk
          rw [← HX.out, ← HY.out] at hq
          omega
    · have hltz : ¬ (i : Int) < (j : Int) := by omega
      obtain rfl : i = j := by omega
      obtain ⟨E, Q1, Q2, Q3, hE, t1, t2, t3, t4⟩ := HT.out i hmi hjb HI.out HJ.out
      have eE : (mid : Int) + (m : Int) - (i : Int) = (E : Int) := by omega
      have hE0 : 0 ≤ (mid : Int) + (m : Int) - (i : Int) := by omega
      have hE1 : (mid : Int) + (m : Int) - (i : Int) < 4611686018427387904 := by omega
      have T1 := Lib.hid (t1 wr S1.out)
      have T2 := Lib.hid t2
      have T3 := Lib.hid t3
      have T4 := Lib.hid t4
      clear t1 t2 t3 t4 hE S1 HI HJ hltz hg1 hmi hij hjb
      by_cases c0a : i < m
      · have z0a : (i : Int) < (m : Int) := by omega
        by_cases c0b : m < E
        · have z0b : (m : Int) < (E : Int) := by omega
          have XC := Lib.hid (T1.out.1 ⟨c0a, c0b⟩)
          go_wp2_with fail
          refine XC.out.mono ?_
          rintro e w2 ⟨rfl, hX⟩
          have X1 := Lib.hid hX
          clear hX XC
          clear z0a z0b c0a c0b
          by_cases c1a : a < i
          · have z1a : (a : Int) < (i : Int) := by omega
            by_cases c1b : i < mid
            · have z1b : (i : Int) < (mid : Int) := by omega
              have XC := Lib.hid ((T2.out _ X1.out).1 ⟨c1a, c1b⟩)
              go_wp2_with fail
              refine XC.out.mono ?_
              rintro e w3 ⟨rfl, hX⟩
              have X2 := Lib.hid hX
              clear hX XC
              clear z1a z1b c1a c1b
              by_cases c2a : mid < E
              · have z2a : (mid : Int) < (E : Int) := by omega
                by_cases c2b : E < b
                · have z2b : (E : Int) < (b : Int) := by omega
                  have XC := Lib.hid ((T3.out _ X2.out).1 ⟨c2a, c2b⟩)
                  go_wp2_with fail
                  refine XC.out.mono ?_
                  rintro e w4 ⟨rfl, hX⟩
                  have X3 := Lib.hid hX
                  clear hX XC
                  clear z2a z2b c2a c2b
                  (try go_wp2_with fail)
                  go_end0
                  exact ⟨rfl, T4.out _ X3.out⟩
                · have z2b : ¬ (E : Int) < (b : Int) := by omega
                  have X3 := Lib.hid ((T3.out _ X2.out).2 (fun h => c2b h.2))
                  (try go_wp2_with fail)
                  go_end0
                  exact ⟨rfl, T4.out _ X3.out⟩
              · have z2a : ¬ (mid : Int) < (E : Int) := by omega
                have X3 := Lib.hid ((T3.out _ X2.out).2 (fun h => c2a h.1))
                (try go_wp2_with fail)
                go_end0
                exact ⟨rfl, T4.out _ X3.out⟩
            · have z1b : ¬ (i : Int) < (mid : Int) := by omega
              have X2 := Lib.hid ((T2.out _ X1.out).2 (fun h => c1b h.2))
              by_cases c2a : mid < E
              · have z2a : (mid : Int) < (E : Int) := by omega
                by_cases c2b : E < b
                · have z2b : (E : Int) < (b : Int) := by omega
                  have XC := Lib.hid ((T3.out _ X2.out).1 ⟨c2a, c2b⟩)
                  go_wp2_with fail
                  refine XC.out.mono ?_
                  rintro e w4 ⟨rfl, hX⟩
                  have X3 := Lib.hid hX
                  clear hX XC
                  clear z2a z2b c2a c2b
                  (try go_wp2_with fail)
                  go_end0
                  exact ⟨rfl, T4.out _ X3.out⟩
                · have z2b : ¬ (E : Int) < (b : Int) := by omega
                  have X3 := Lib.hid ((T3.out _ X2.out).2 (fun h => c2b h.2))
                  (try go_wp2_with fail)
                  go_end0
                  exact ⟨rfl, T4.out _ X3.out⟩
              · have z2a : ¬ (mid : Int) < (E : Int) := by omega
                have X3 := Lib.hid ((T3.out _ X2.out).2 (fun h => c2a h.1))
                (try go_wp2_with fail)
                go_end0
                exact ⟨rfl, T4.out _ X3.out⟩
          · have z1a : ¬ (a : Int) < (i : Int) := by omega
            have X2 := Lib.hid ((T2.out _ X1.out).2 (fun h => c1a h.1))
            by_cases c2a : mid < E
            · have z2a : (mid : Int) < (E : Int) := by omega
              by_cases c2b : E < b
              · have z2b : (E : Int) < (b : Int) := by omega
                have XC := Lib.hid ((T3.out _ X2.out).1 ⟨c2a, c2b⟩)
                go_wp2_with fail
                refine XC.out.mono ?_
                rintro e w4 ⟨rfl, hX⟩
                have X3 := Lib.hid hX
                clear hX XC
                clear z2a z2b c2a c2b
                (try go_wp2_with fail)
                go_end0
                exact ⟨rfl, T4.out _ X3.out⟩
              · have z2b : ¬ (E : Int) < (b : Int) := by omega
                have X3 := Lib.hid ((T3.out _ X2.out).2 (fun h => c2b h.2))
                (try go_wp2_with fail)
                go_end0
                exact ⟨rfl, T4.out _ X3.out⟩
            · have z2a : ¬ (mid : Int) < (E : Int) := by omega
              have X3 := Lib.hid ((T3.out _ X2.out).2 (fun h => c2a h.1))
              (try go_wp2_with fail)
              go_end0
              exact ⟨rfl, T4.out _ X3.out⟩
        · have z0b : ¬ (m : Int) < (E : Int) := by omega
          have X1 := Lib.hid (T1.out.2 (fun h => c0b h.2))
          by_cases c1a : a < i
          · have z1a : (a : Int) < (i : Int) := by omega
            by_cases c1b : i < mid
            · have z1b : (i : Int) < (mid : Int) := by omega
              have XC := Lib.hid ((T2.out _ X1.out).1 ⟨c1a, c1b⟩)
              go_wp2_with fail
              refine XC.out.mono ?_
              rintro e w3 ⟨rfl, hX⟩
              have X2 := Lib.hid hX
              clear hX XC
              clear z1a z1b c1a c1b
              by_cases c2a : mid < E
              · have z2a : (mid : Int) < (E : Int) := by omega
                by_cases c2b : E < b
                · have z2b : (E : Int) < (b : Int) := by omega
                  have XC := Lib.hid ((T3.out _ X2.out).1 ⟨c2a, c2b⟩)
                  go_wp2_with fail
                  refine XC.out.mono ?_
                  rintro e w4 ⟨rfl, hX⟩
                  have X3 := Lib.hid hX
                  clear hX XC
                  clear z2a z2b c2a c2b
                  (try go_wp2_with fail)
                  go_end0
                  exact ⟨rfl, T4.out _ X3.out⟩
                · have z2b : ¬ (E : Int) < (b : Int) := by omega
                  have X3 := Lib.hid ((T3.out _ X2.out).2 (fun h => c2b h.2))
                  (try go_wp2_with fail)
                  go_end0
                  exact ⟨rfl, T4.out _ X3.out⟩
              · have z2a : ¬ (mid : Int) < (E : Int) := by omega
                have X3 := Lib.hid ((T3.out _ X2.out).2 (fun h => c2a h.1))
                (try go_wp2_with fail)
                go_end0
                exact ⟨rfl, T4.out _ X3.out⟩
            · have z1b : ¬ (i : Int) < (mid : Int) := by omega
              have X2 := Lib.hid ((T2.out _ X1.out).2 (fun h => c1b h.2))
              by_cases c2a : mid < E
              · have z2a : (mid : Int) < (E : Int) := by omega
                by_cases c2b : E < b
                · have z2b : (E : Int) < (b : Int) := by omega
                  have XC := Lib.hid ((T3.out _ X2.out).1 ⟨c2a, c2b⟩)
                  go_wp2_with fail
                  refine XC.out.mono ?_
                  rintro e w4 ⟨rfl, hX⟩
                  have X3 := Lib.hid hX
                  clear hX XC
                  clear z2a z2b c2a c2b
                  (try go_wp2_with fail)
                  go_end0
                  exact ⟨rfl, T4.out _ X3.out⟩
                · have z2b : ¬ (E : Int) < (b : Int) := by omega
                  have X3 := Lib.hid ((T3.out _ X2.out).2 (fun h => c2b h.2))
                  (try go_wp2_with fail)
                  go_end0
                  exact ⟨rfl, T4.out _ X3.out⟩
              · have z2a : ¬ (mid : Int) < (E : Int) := by omega
                have X3 := Lib.hid ((T3.out _ X2.out).2 (fun h => c2a h.1))
                (try go_wp2_with fail)
                go_end0
                exact ⟨rfl, T4.out _ X3.out⟩
          · have z1a : ¬ (a : Int) < (i : Int) := by omega
            have X2 := Lib.hid ((T2.out _ X1.out).2 (fun h => c1a h.1))
            by_cases c2a : mid < E
            · have z2a : (mid : Int) < (E : Int) := by omega
              by_cases c2b : E < b
              · have z2b : (E : Int) < (b : Int) := by omega
                have XC := Lib.hid ((T3.out _ X2.out).1 ⟨c2a, c2b⟩)
                go_wp2_with fail
                refine XC.out.mono ?_
                rintro e w4 ⟨rfl, hX⟩
                have X3 := Lib.hid hX
                clear hX XC
                clear z2a z2b c2a c2b
                (try go_wp2_with fail)
                go_end0
                exact ⟨rfl, T4.out _ X3.out⟩
              · have z2b : ¬ (E : Int) < (b : Int) := by omega
                have X3 := Lib.hid ((T3.out _ X2.out).2 (fun h => c2b h.2))
                (try go_wp2_with fail)
                go_end0
                exact ⟨rfl, T4.out _ X3.out⟩
            · have z2a : ¬ (mid : Int) < (E : Int) := by omega
              have X3 := Lib.hid ((T3.out _ X2.out).2 (fun h => c2a h.1))
              (try go_wp2_with fail)
              go_end0
              exact ⟨rfl, T4.out _ X3.out⟩
      · have z0a : ¬ (i : Int) < (m : Int) := by omega
        have X1 := Lib.hid (T1.out.2 (fun h => c0a h.1))
        by_cases c1a : a < i
        · have z1a : (a : Int) < (i : Int) := by omega
          by_cases c1b : i < mid
          · have z1b : (i : Int) < (mid : Int) := by omega
            have XC := Lib.hid ((T2.out _ X1.out).1 ⟨c1a, c1b⟩)
            go_wp2_with fail
            refine XC.out.mono ?_
            rintro e w3 ⟨rfl, hX⟩
            have X2 := Lib.hid hX
            clear hX XC
            clear z1a z1b c1a c1b
            by_cases c2a : mid < E
            · have z2a : (mid : Int) < (E : Int) := by omega
              by_cases c2b : E < b
              · have z2b : (E : Int) < (b : Int) := by omega
                have XC := Lib.hid ((T3.out _ X2.out).1 ⟨c2a, c2b⟩)
                go_wp2_with fail
                refine XC.out.mono ?_
                rintro e w4 ⟨rfl, hX⟩
                have X3 := Lib.hid hX
                clear hX XC
                clear z2a z2b c2a c2b
                (try go_wp2_with fail)
                go_end0
                exact ⟨rfl, T4.out _ X3.out⟩
              · have z2b : ¬ (E : Int) < (b : Int) := by omega
                have X3 := Lib.hid ((T3.out _ X2.out).2 (fun h => c2b h.2))
                (try go_wp2_with fail)
                go_end0
                exact ⟨rfl, T4.out _ X3.out⟩
            · have z2a : ¬ (mid : Int) < (E : Int) := by omega
              have X3 := Lib.hid ((T3.out _ X2.out).2 (fun h => c2a h.1))
              (try go_wp2_with fail)
              go_end0
              exact ⟨rfl, T4.out _ X3.out⟩
          · have z1b : ¬ (i : Int) < (mid : Int) := by omega
            have X2 := Lib.hid ((T2.out _ X1.out).2 (fun h => c1b h.2))
            by_cases c2a : mid < E
            · have z2a : (mid : Int) < (E : Int) := by omega
              by_cases c2b : E < b
              · have z2b : (E : Int) < (b : Int) := by omega
                have XC := Lib.hid ((T3.out _ X2.out).1 ⟨c2a, c2b⟩)
                go_wp2_with fail
                refine XC.out.mono ?_
                rintro e w4 ⟨rfl, hX⟩
                have X3 := Lib.hid hX
                clear hX XC
                clear z2a z2b c2a c2b
                (try go_wp2_with fail)
                go_end0
                exact ⟨rfl, T4.out _ X3.out⟩
              · have z2b : ¬ (E : Int) < (b : Int) := by omega
                have X3 := Lib.hid ((T3.out _ X2.out).2 (fun h => c2b h.2))
                (try go_wp2_with fail)
                go_end0
                exact ⟨rfl, T4.out _ X3.out⟩
            · have z2a : ¬ (mid : Int) < (E : Int) := by omega
              have X3 := Lib.hid ((T3.out _ X2.out).2 (fun h => c2a h.1))
              (try go_wp2_with fail)
              go_end0
              exact ⟨rfl, T4.out _ X3.out⟩
        · have z1a : ¬ (a : Int) < (i : Int) := by omega
          have X2 := Lib.hid ((T2.out _ X1.out).2 (fun h => c1a h.1))
          by_cases c2a : mid < E
          · have z2a : (mid : Int) < (E : Int) := by omega
            by_cases c2b : E < b
            · have z2b : (E : Int) < (b : Int) := by omega
              have XC := Lib.hid ((T3.out _ X2.out).1 ⟨c2a, c2b⟩)
              go_wp2_with fail
              refine XC.out.mono ?_
              rintro e w4 ⟨rfl, hX⟩
              have X3 := Lib.hid hX
              clear hX XC
              clear z2a z2b c2a c2b
              (try go_wp2_with fail)
              go_end0
              exact ⟨rfl, T4.out _ X3.out⟩
            · have z2b : ¬ (E : Int) < (b : Int) := by omega
              have X3 := Lib.hid ((T3.out _ X2.out).2 (fun h => c2b h.2))
              (try go_wp2_with fail)
              go_end0
              exact ⟨rfl, T4.out _ X3.out⟩
          · have z2a : ¬ (mid : Int) < (E : Int) := by omega
            have X3 := Lib.hid ((T3.out _ X2.out).2 (fun h => c2a h.1))
            (try go_wp2_with fail)
            go_end0
            exact ⟨rfl, T4.out _ X3.out⟩
end Go.Proofs.Ytogdnolkheifcaa.Given

/- Plain laws over whole numbers and lists: PureMerge. -/
namespace Go.Proofs.Ytogdnolkheifcaa.Pure
open Go.RowKit Go.Proofs.Ytogdnolkheifcaa.Base Go.Proofs.Ytogdnolkheifcaa.Given Go.Proofs.YtogdnolkheifcaaW.PrintWords Go.Proofs.YtogdnolkheifcaaW.PrintLast Go.Proofs.YtogdnolkheifcaaW.PrintMore
set_option linter.unusedVariables false
set_option linter.unusedSimpArgs false
theorem shR_list {α : Type} [Inhabited α] (Pre Post : List α) (u : α) : ∀ (t : Nat) (V V2 : List α), V.length = t →
    shR (Pre ++ u :: (V ++ (V2 ++ Post))).toArray Pre.length t = (Pre ++ (V ++ u :: (V2 ++ Post))).toArray := by
  intro t
  induction t with
  | zero =>
    intro V V2 h
    have e := List.eq_nil_of_length_eq_zero h
    subst e; rfl
  | succ t ih =>
    intro V V2 h
    rcases List.eq_nil_or_concat V with e | ⟨W, y, e⟩
    · subst e; simp at h
    rw [List.concat_eq_append] at e
    subst e
    simp at h
    have := ih W ([y] ++ V2) h
    simp only [shR]
    have e1 : Pre ++ u :: ((W ++ [y]) ++ (V2 ++ Post)) = Pre ++ u :: (W ++ (([y] ++ V2) ++ Post)) := by simp
    rw [e1, this]
    have e2 : Pre ++ (W ++ u :: (([y] ++ V2) ++ Post)) = (Pre ++ W) ++ u :: ([] ++ y :: (V2 ++ Post)) := by simp
    have e3 := swp_two (Pre ++ W) [] (V2 ++ Post) u y
    rw [e2, show Pre.length + t = (Pre ++ W).length by simp; omega, show (Pre ++ W).length + 1 = (Pre ++ W).length + 1 + ([] : List α).length by simp, e3]
    simp
theorem dnR_list {α : Type} [Inhabited α] (Pre Post : List α) (v : α) : ∀ (t : Nat) (U2 U : List α), U2.length = t →
    dnR (Pre ++ (U ++ (U2 ++ v :: Post))).toArray (Pre.length + U.length + t) t = (Pre ++ (U ++ v :: (U2 ++ Post))).toArray := by
  intro t
  induction t with
  | zero =>
    intro U2 U h
    have e := List.eq_nil_of_length_eq_zero h
    subst e; rfl
  | succ t ih =>
    intro U2 U h
    cases U2 with
    | nil => simp at h
    | cons x W =>
      simp at h
      have := ih W (U ++ [x]) h
      have e0 : Pre.length + U.length + (t + 1) = Pre.length + (U ++ [x]).length + t := by simp; omega
      rw [e0]
      simp only [dnR]
      have e1 : Pre ++ (U ++ (x :: W ++ v :: Post)) = Pre ++ ((U ++ [x]) ++ (W ++ v :: Post)) := by simp
      rw [e1, this]
      have e2 : Pre ++ ((U ++ [x]) ++ v :: (W ++ Post)) = (Pre ++ U) ++ x :: v :: (W ++ Post) := by simp
      have e3 := swp_list (Pre ++ U) x v (W ++ Post)
      rw [e2, show Pre.length + (U ++ [x]).length + t - t = (Pre ++ U).length + 1 by simp; omega, show (Pre ++ U).length + 1 - 1 = (Pre ++ U).length by omega, e3]
      simp
/-- What lies in the first part, and in the second. -/
theorem at_first {α : Type} [Inhabited α] (Pre U V Post : List α) (i : Nat) (h : i < U.length) : (Pre ++ (U ++ (V ++ Post))).toArray[Pre.length + i]! = U[i] := by
  rw [getElem!_list, List.getD_eq_getElem?_getD, List.getElem?_append_right (by omega), List.getElem?_append_left (by omega), List.getElem?_eq_getElem (by omega)]
  simp
theorem at_second {α : Type} [Inhabited α] (Pre U V Post : List α) (i : Nat) (h : i < V.length) : (Pre ++ (U ++ (V ++ Post))).toArray[Pre.length + U.length + i]! = V[i] := by
  rw [getElem!_list, List.getD_eq_getElem?_getD, List.getElem?_append_right (by omega), List.getElem?_append_right (by omega), List.getElem?_append_left (by omega), List.getElem?_eq_getElem (by omega)]
  simp [show Pre.length + U.length + i - Pre.length - U.length = i by omega]
section
variable {α : Type} {key rk : α → Int}
/-- Two parts that can be merged: each in order, and the first part's ranks ahead of the second's. -/
structure Mer (key rk : α → Int) (U V : List α) : Prop where
  u : U.Pairwise (lexlt key rk)
  v : V.Pairwise (lexlt key rk)
  c : ∀ x ∈ U, ∀ y ∈ V, rk x < rk y
theorem sorted_le {U : List α} (h : U.Pairwise (lexlt key rk)) {i j : Nat} (hij : i ≤ j) (hj : j < U.length) : key U[i] ≤ key U[j] := by
  rcases Nat.lt_or_eq_of_le hij with h1 | h1
  · have := List.pairwise_iff_getElem.1 h i j (by omega) hj h1
    unfold lexlt at this; omega
  · subst h1; exact Int.le_refl _
/-- Every element of the one list stands ahead of every element of the other. -/
def Ahead (key rk : α → Int) (X Y : List α) : Prop := ∀ x ∈ X, ∀ y ∈ Y, lexlt key rk x y
theorem Ahead.perm {X X' Y Y' : List α} (h : Ahead key rk X Y) (hx : X'.Perm X) (hy : Y'.Perm Y) : Ahead key rk X' Y' := fun x h1 y h2 => h x (hx.mem_iff.1 h1) y (hy.mem_iff.1 h2)
theorem joined {X Y : List α} (h : Ahead key rk X Y) (hx : X.Pairwise (lexlt key rk)) (hy : Y.Pairwise (lexlt key rk)) : (X ++ Y).Pairwise (lexlt key rk) := List.pairwise_append.2 ⟨hx, hy, h⟩
end
section
variable {α : Type} {key rk : α → Int}
theorem mem_take' {l : List α} {j : Nat} {x : α} (h : x ∈ l.take j) : ∃ i, ∃ hi : i < l.length, i < j ∧ x = l[i] := by
  obtain ⟨i, hi, e⟩ := List.mem_iff_getElem.1 h
  rw [List.length_take] at hi
  refine ⟨i, by omega, by omega, ?_⟩
  rw [← e, List.getElem_take]
theorem mem_drop' {l : List α} {j : Nat} {x : α} (h : x ∈ l.drop j) : ∃ i, ∃ hi : i < l.length, j ≤ i ∧ x = l[i] := by
  obtain ⟨i, hi, e⟩ := List.mem_iff_getElem.1 h
  rw [List.length_drop] at hi
  refine ⟨j + i, by omega, by omega, ?_⟩
  rw [← e, List.getElem_drop]
theorem insA {u : α} {V : List α} (h : Mer key rk [u] V) {j : Nat} (h1 : ∀ i (hi : i < V.length), i < j → key V[i] < key u) (h2 : ∀ i (hi : i < V.length), j ≤ i → key u ≤ key V[i]) :
    (V.take j ++ u :: V.drop j).Perm ([u] ++ V) ∧ (V.take j ++ u :: V.drop j).Pairwise (lexlt key rk) := by
  constructor
  · refine List.perm_middle.trans ?_
    rw [List.take_append_drop]; exact List.Perm.refl _
  · refine List.pairwise_append.2 ⟨h.v.sublist (List.take_sublist _ _), List.pairwise_cons.2 ⟨?_, h.v.sublist (List.drop_sublist _ _)⟩, ?_⟩
    · intro y hy
      obtain ⟨i, hi, hj, rfl⟩ := mem_drop' hy
      have := h2 i hi hj
      have hr := h.c u (by simp) V[i] (List.getElem_mem hi)
      unfold lexlt; omega
    · intro x hx y hy
      rcases List.mem_cons.1 hy with rfl | hy
      · obtain ⟨i, hi, hj, rfl⟩ := mem_take' hx
        exact Or.inl (h1 i hi hj)
      · obtain ⟨i, hi, hj, rfl⟩ := mem_take' hx
        obtain ⟨i', hi', hj', rfl⟩ := mem_drop' hy
        exact List.pairwise_iff_getElem.1 h.v i i' hi hi' (by omega)
theorem insB {v : α} {U : List α} (h : Mer key rk U [v]) {j : Nat} (h1 : ∀ i (hi : i < U.length), i < j → key U[i] ≤ key v) (h2 : ∀ i (hi : i < U.length), j ≤ i → key v < key U[i]) :
    (U.take j ++ v :: U.drop j).Perm (U ++ [v]) ∧ (U.take j ++ v :: U.drop j).Pairwise (lexlt key rk) := by
  constructor
  · refine List.perm_middle.trans ?_
    rw [List.take_append_drop]
    exact (List.perm_append_singleton v U).symm
  · refine List.pairwise_append.2 ⟨h.u.sublist (List.take_sublist _ _), List.pairwise_cons.2 ⟨?_, h.u.sublist (List.drop_sublist _ _)⟩, ?_⟩
    · intro y hy
      obtain ⟨i, hi, hj, rfl⟩ := mem_drop' hy
      exact Or.inl (h2 i hi hj)
    · intro x hx y hy
      rcases List.mem_cons.1 hy with rfl | hy
      · obtain ⟨i, hi, hj, rfl⟩ := mem_take' hx
        have := h1 i hi hj
        have hr := h.c U[i] (List.getElem_mem hi) y (by simp)
        unfold lexlt; omega
      · obtain ⟨i, hi, hj, rfl⟩ := mem_take' hx
        obtain ⟨i', hi', hj', rfl⟩ := mem_drop' hy
        exact List.pairwise_iff_getElem.1 h.u i i' hi hi' (by omega)
theorem cross {U V : List α} (h : Mer key rk U V) {p q : Nat} (hp : p ≤ U.length) (hq : q ≤ V.length)
    (hA : p = 0 ∨ q = V.length ∨ ∃ (h1 : p - 1 < U.length) (h2 : q < V.length), key U[p - 1] ≤ key V[q])
    (hB : q = 0 ∨ p = U.length ∨ ∃ (h1 : q - 1 < V.length) (h2 : p < U.length), key V[q - 1] < key U[p]) :
    Ahead key rk (U.take p ++ V.take q) (U.drop p ++ V.drop q) := by
  intro x hx y hy
  rcases List.mem_append.1 hx with hx | hx
  · obtain ⟨i, hi, hip, rfl⟩ := mem_take' hx
    rcases List.mem_append.1 hy with hy | hy
    · obtain ⟨j, hj, hjp, rfl⟩ := mem_drop' hy
      exact List.pairwise_iff_getElem.1 h.u i j hi hj (by omega)
    · obtain ⟨j, hj, hjp, rfl⟩ := mem_drop' hy
      rcases hA with hA | hA | ⟨h1, h2, hA⟩
      · omega
      · omega
      · have k1 := sorted_le h.u (show i ≤ p - 1 by omega) h1
        have k2 := sorted_le h.v hjp hj
        have hr := h.c U[i] (List.getElem_mem hi) V[j] (List.getElem_mem hj)
        unfold lexlt; omega
  · obtain ⟨i, hi, hip, rfl⟩ := mem_take' hx
    rcases List.mem_append.1 hy with hy | hy
    · obtain ⟨j, hj, hjp, rfl⟩ := mem_drop' hy
      rcases hB with hB | hB | ⟨h1, h2, hB⟩
      · omega
      · omega
      · have k1 := sorted_le h.v (show i ≤ q - 1 by omega) h1
        have k2 := sorted_le h.u hjp hj
        unfold lexlt; omega
    · obtain ⟨j, hj, hjp, rfl⟩ := mem_drop' hy
      exact List.pairwise_iff_getElem.1 h.v i j hi hj (by omega)
theorem Mer.sub {U V U' V' : List α} (h : Mer key rk U V) (hu : U'.Sublist U) (hv : V'.Sublist V) : Mer key rk U' V' :=
  ⟨h.u.sublist hu, h.v.sublist hv, fun x hx y hy => h.c x (hu.subset hx) y (hv.subset hy)⟩
end
end Go.Proofs.Ytogdnolkheifcaa.Pure

/- slices.symMergeCmpFunc: two parts in order are merged. -/
namespace Go.Proofs.Ytogdnolkheifcaa.Given
open Go.RowKit Go.Shelf Go.Lib Go.Sort Go.Proofs.YtogdnolkheifcaaW.PrintWords Go.Proofs.YtogdnolkheifcaaW.PrintLast Go.Proofs.YtogdnolkheifcaaW.PrintMore Go.Proofs.Ytogdnolkheifcaa.Base Go.Proofs.Ytogdnolkheifcaa.Pure
set_option linter.unusedVariables false
set_option linter.unusedSimpArgs false
variable {α : Type} [Inhabited α]

theorem sw_of {enc : α → Value} {w0 w : World} {blk off : Nat} {X Y : List α} (h : SW enc w0 blk off X.toArray w) (e : X = Y) : SW enc w0 blk off Y.toArray w := e ▸ h
/-- The general case, joined: what stands behind the search. -/
theorem tail_of (enc : α → Value) (cf : α → α → Int) (key rk : α → Int) (hk : ∀ x y, cf x y < 0 ↔ key x < key y) (g : Nat) (cb : Array Value) (blk off cap N : Nat) (d0 : Array α) (w0 : World) (R : Row1 enc w0 blk off d0) (hs : d0.size = N) (hsz : N < 1152921504606846976) (k : Nat)
    (ih : ∀ (Pre U V Post : List α) (a m b : Nat) (w : World), U.length + V.length ≤ k → 0 < U.length → 0 < V.length → Mer key rk U V → (Pre ++ (U ++ (V ++ Post))).length = N → a = Pre.length → m = a + U.length → b = m + V.length → SW enc w0 blk off (Pre ++ (U ++ (V ++ Post))).toArray w →
      Calls Try.prog 58 #[.slice (some ⟨blk, off, none⟩) N cap, .int .i64 a, .int .i64 m, .int .i64 b, .func (.func g) #[] cb] w fun e w' => e = .returned (.tuple #[]) ∧ ∃ W, W.Perm (U ++ V) ∧ W.Pairwise (lexlt key rk) ∧ SW enc w0 blk off (Pre ++ (W ++ Post)).toArray w')
    (Pre U V Post : List α) (a m b mid s0 r0 p : Nat) (hle : U.length + V.length ≤ k + 1) (hU : 1 < U.length) (hV : 1 < V.length) (hM : Mer key rk U V) (hN : (Pre ++ (U ++ (V ++ Post))).length = N) (ha : a = Pre.length) (hm : m = a + U.length) (hb : b = m + V.length) (hmid : mid = (a + b) / 2) (hp : p + 1 = mid + m)
    (hside : (mid < m ∧ s0 + b = mid + m ∧ r0 = mid) ∨ (m ≤ mid ∧ s0 = a ∧ r0 = m)) :
    Tail enc cf g cb blk off cap (Pre ++ (U ++ (V ++ Post))).toArray a m b N mid s0 r0 p w0 (fun w' => ∃ W, W.Perm (U ++ V) ∧ W.Pairwise (lexlt key rk) ∧ SW enc w0 blk off (Pre ++ (W ++ Post)).toArray w') := by
  have hl : Pre.length + (U.length + (V.length + Post.length)) = N := by have := hN; simpa only [List.length_append] using this
  have atU : ∀ i (hi : i < U.length), (Pre ++ (U ++ (V ++ Post))).toArray[a + i]! = U[i] := fun i hi => by rw [ha]; exact at_first Pre U V Post i hi
  have atV : ∀ i (hi : i < V.length), (Pre ++ (U ++ (V ++ Post))).toArray[m + i]! = V[i] := fun i hi => by rw [hm, ha]; exact at_second Pre U V Post i hi
  intro s hs0 hr0 hlo hhi
  obtain ⟨pp, rfl⟩ : ∃ pp, s = a + pp := ⟨s - a, by omega⟩
  obtain ⟨q, hq⟩ : ∃ q, mid = a + pp + q := ⟨mid - (a + pp), by omega⟩
  have hpU : pp ≤ U.length := by omega
  have hqV : q ≤ V.length := by omega
  have hX : Ahead key rk (U.take pp ++ V.take q) (U.drop pp ++ V.drop q) := by
    refine cross hM hpU hqV ?_ ?_
    · by_cases h1 : s0 < a + pp
      · by_cases h2 : pp = 0
        · exact .inl h2
        · by_cases h3 : q = V.length
          · exact .inr (.inl h3)
          · refine .inr (.inr ⟨by omega, by omega, ?_⟩)
            have h := hlo (a + pp - 1) (by omega) (by omega)
            rw [show p - (a + pp - 1) = m + q by omega, show a + pp - 1 = a + (pp - 1) by omega, atU (pp - 1) (by omega), atV q (by omega)] at h
            exact Int.not_lt.1 fun h' => by have := (hk _ _).2 h'; omega
      · rcases hside with ⟨_, h2, _⟩ | ⟨_, h2, _⟩
        · exact .inr (.inl (by omega))
        · exact .inl (by omega)
    · by_cases h1 : a + pp < r0
      · by_cases h2 : q = 0
        · exact .inl h2
        · by_cases h3 : pp = U.length
          · exact .inr (.inl h3)
          · refine .inr (.inr ⟨by omega, by omega, ?_⟩)
            have h := hhi (a + pp) (Nat.le_refl _) h1
            rw [show p - (a + pp) = m + (q - 1) by omega, atU pp (by omega), atV (q - 1) (by omega), hk] at h
            exact h
      · rcases hside with ⟨_, _, h2⟩ | ⟨_, _, h2⟩
        · exact .inl (by omega)
        · exact .inr (.inl (by omega))
  have lU1 : (U.take pp).length = pp := by rw [List.length_take]; omega
  have lU2 : (U.drop pp).length = U.length - pp := List.length_drop
  have lV1 : (V.take q).length = q := by rw [List.length_take]; omega
  have lV2 : (V.drop q).length = V.length - q := List.length_drop
  have eU := List.take_append_drop pp U
  have eV := List.take_append_drop q V
  have sU1 := List.take_sublist pp U
  have sU2 := List.drop_sublist pp U
  have sV1 := List.take_sublist q V
  have sV2 := List.drop_sublist q V
  generalize U.take pp = U1 at *
  generalize U.drop pp = U2 at *
  generalize V.take q = V1 at *
  generalize V.drop q = V2 at *
  subst eU
  subst eV
  simp only [List.length_append] at hl hm hb hpU hqV hle lU2 lV2 hU hV
  clear atU atV hlo hhi
  refine ⟨m + q, fun w => SW enc w0 blk off (Pre ++ (U1 ++ (V1 ++ (U2 ++ (V2 ++ Post))))).toArray w, fun w => ∃ W1, W1.Perm (U1 ++ V1) ∧ W1.Pairwise (lexlt key rk) ∧ SW enc w0 blk off (Pre ++ (W1 ++ (U2 ++ (V2 ++ Post)))).toArray w,
    fun w => ∃ W1 W2, W1.Perm (U1 ++ V1) ∧ W1.Pairwise (lexlt key rk) ∧ W2.Perm (U2 ++ V2) ∧ W2.Pairwise (lexlt key rk) ∧ SW enc w0 blk off (Pre ++ (W1 ++ (W2 ++ Post))).toArray w, by omega, ?_, ?_, ?_, ?_⟩
  · intro w S
    have S2 : SW enc w0 blk off ((Pre ++ U1) ++ (U2 ++ (V1 ++ (V2 ++ Post)))).toArray w := sw_of S (by simp)
    refine ⟨fun hc => ?_, fun hc => ?_⟩
    · refine (rotate_calls enc g cb blk off cap (Pre ++ U1) U2 V1 (V2 ++ Post) (a + pp) m (m + q) N d0 w0 w R hs (by simp only [List.length_append]; omega) (by rw [List.length_append]; omega) (by omega) (by omega) (by omega) (by omega) S2 (by omega)).mono ?_
      rintro e w' ⟨he, hS⟩
      exact ⟨he, sw_of hS (by simp)⟩
    · rcases (by omega : U2.length = 0 ∨ V1.length = 0) with h | h
      · have := List.eq_nil_of_length_eq_zero h
        subst this; exact sw_of S (by simp)
      · have := List.eq_nil_of_length_eq_zero h
        subst this; exact sw_of S (by simp)
  · intro w S
    refine ⟨fun hc => ?_, fun hc => ?_⟩
    · refine (ih Pre U1 V1 (U2 ++ (V2 ++ Post)) a (a + pp) mid w (by omega) (by omega) (by omega) (hM.sub sU1 sV1) (by simp only [List.length_append]; omega) ha (by omega) (by omega) S)
    · rcases (by omega : U1.length = 0 ∨ V1.length = 0) with h | h
      · have := List.eq_nil_of_length_eq_zero h
        subst this; exact ⟨V1, by simp, hM.v.sublist sV1, sw_of S (by simp)⟩
      · have := List.eq_nil_of_length_eq_zero h
        subst this; exact ⟨U1, by simp, hM.u.sublist sU1, sw_of S (by simp)⟩
  · rintro w ⟨W1, hp1, hs1, S⟩
    have lW := hp1.length_eq
    rw [List.length_append] at lW
    have S2 : SW enc w0 blk off ((Pre ++ W1) ++ (U2 ++ (V2 ++ Post))).toArray w := sw_of S (by simp)
    refine ⟨fun hc => ?_, fun hc => ?_⟩
    · refine (ih (Pre ++ W1) U2 V2 Post mid (m + q) b w (by omega) (by omega) (by omega) (hM.sub sU2 sV2) (by simp only [List.length_append]; omega) (by rw [List.length_append]; omega) (by omega) (by omega) S2).mono ?_
      rintro e w' ⟨he, W2, hp2, hs2, hS⟩
      exact ⟨he, W1, W2, hp1, hs1, hp2, hs2, sw_of hS (by simp)⟩
    · rcases (by omega : U2.length = 0 ∨ V2.length = 0) with h | h
      · have := List.eq_nil_of_length_eq_zero h
        subst this; exact ⟨W1, V2, hp1, hs1, by simp, hM.v.sublist sV2, sw_of S (by simp)⟩
      · have := List.eq_nil_of_length_eq_zero h
        subst this; exact ⟨W1, U2, hp1, hs1, by simp, hM.u.sublist sU2, sw_of S (by simp)⟩
  · rintro w ⟨W1, W2, hp1, hs1, hp2, hs2, S⟩
    refine ⟨W1 ++ W2, ?_, joined (hX.perm hp1 hp2) hs1 hs2, sw_of S (by simp)⟩
    refine (hp1.append hp2).trans ?_
    rw [List.append_assoc, List.append_assoc]
    refine List.Perm.append_left U1 ?_
    rw [← List.append_assoc, ← List.append_assoc]
    exact List.Perm.append_right V2 List.perm_append_comm
theorem sym_calls (enc : α → Value) (cf : α → α → Int) (key rk : α → Int) (hk : ∀ x y, cf x y < 0 ↔ key x < key y) (g : Nat) (cb : Array Value) (blk off cap N : Nat) (d0 : Array α) (w0 : World) (eg : ∀ args w, (callFunc g args).run Try.prog w = .ok (.enter g args) w) (hcmp : CmpLays1 Try.prog g cb enc cf blk off N w0) (R : Row1 enc w0 blk off d0) (hs : d0.size = N) (hsz : N < 1152921504606846976) :
    ∀ (k : Nat) (Pre U V Post : List α) (a m b : Nat) (w : World), U.length + V.length ≤ k → 0 < U.length → 0 < V.length → Mer key rk U V → (Pre ++ (U ++ (V ++ Post))).length = N → a = Pre.length → m = a + U.length → b = m + V.length → SW enc w0 blk off (Pre ++ (U ++ (V ++ Post))).toArray w →
    Calls Try.prog 58 #[.slice (some ⟨blk, off, none⟩) N cap, .int .i64 a, .int .i64 m, .int .i64 b, .func (.func g) #[] cb] w fun e w' => e = .returned (.tuple #[]) ∧ ∃ W, W.Perm (U ++ V) ∧ W.Pairwise (lexlt key rk) ∧ SW enc w0 blk off (Pre ++ (W ++ Post)).toArray w' := by
  intro k
  induction k with
  | zero => intro Pre U V Post a m b w h1 h2; omega
  | succ k ih =>
    intro Pre U V Post a m b w hle hU hV hM hN ha hm hb S
    have hl : Pre.length + (U.length + (V.length + Post.length)) = N := by have := hN; simpa only [List.length_append] using this
    have atU : ∀ i (hi : i < U.length), (Pre ++ (U ++ (V ++ Post))).toArray[a + i]! = U[i] := fun i hi => by rw [ha]; exact at_first Pre U V Post i hi
    have atV : ∀ i (hi : i < V.length), (Pre ++ (U ++ (V ++ Post))).toArray[m + i]! = V[i] := fun i hi => by rw [hm, ha]; exact at_second Pre U V Post i hi
    have hsD : (Pre ++ (U ++ (V ++ Post))).toArray.size = N := by rw [List.size_toArray]; exact hN
    by_cases c1 : U.length = 1
    · obtain ⟨u, rfl⟩ := List.length_eq_one_iff.1 c1
      have hu : (Pre ++ ([u] ++ (V ++ Post))).toArray[a]! = u := by have := atU 0 (by simp); simpa using this
      refine (symA_calls enc cf g cb blk off cap (Pre ++ ([u] ++ (V ++ Post))).toArray a m b N d0 w0 w eg hcmp R hs hsD (by simpa using hm) (by omega) (by omega) ?_ S (by omega)).mono ?_
      · intro c c' h1 h2 h3 h4
        obtain ⟨i, rfl⟩ : ∃ i, c = m + i := ⟨c - m, by omega⟩
        obtain ⟨j, rfl⟩ : ∃ j, c' = m + j := ⟨c' - m, by omega⟩
        rw [hu, atV i (by omega), hk]
        rw [hu, atV j (by omega), hk] at h4
        have := sorted_le hM.v (show i ≤ j by omega) (by omega)
        omega
      · rintro e w' ⟨rfl, i, h1, h2, h3, h4, hS⟩
        obtain ⟨j, rfl⟩ : ∃ j, i = m + j := ⟨i - m, by omega⟩
        have hj : j ≤ V.length := by omega
        have hI := insA hM (j := j) (fun i hi hij => by
          have := h3 (m + i) (by omega) (by omega)
          rw [hu, atV i hi, hk] at this; exact this) (fun i hi hij => by
          have := h4 (m + i) (by omega) (by omega)
          rw [hu, atV i hi] at this
          exact Int.not_lt.1 fun h => by have := (hk _ _).2 h; omega)
        refine ⟨rfl, _, hI.1, hI.2, ?_⟩
        have hq := shR_list Pre Post u j (V.take j) (V.drop j) (by rw [List.length_take]; omega)
        rw [← List.append_assoc (V.take j), List.take_append_drop] at hq
        rw [show m + j - 1 - a = j by simp at hm; omega, ha] at hS
        have hS2 : SW enc w0 blk off (shR (Pre ++ u :: (V ++ Post)).toArray Pre.length j) w' := hS
        rw [hq] at hS2
        exact sw_of hS2 (by simp)
    · by_cases c2 : V.length = 1
      · obtain ⟨v, rfl⟩ := List.length_eq_one_iff.1 c2
        have hv : (Pre ++ (U ++ ([v] ++ Post))).toArray[m]! = v := by have := atV 0 (by simp); simpa using this
        refine (symB_calls enc cf g cb blk off cap (Pre ++ (U ++ ([v] ++ Post))).toArray v a m b N d0 w0 w eg hcmp R hs hsD (by omega) (by simpa using hb) hv.symm (by omega) ?_ S (by omega)).mono ?_
        · intro c c' h1 h2 h3 h4
          obtain ⟨i, rfl⟩ : ∃ i, c = a + i := ⟨c - a, by omega⟩
          obtain ⟨j, rfl⟩ : ∃ j, c' = a + j := ⟨c' - a, by omega⟩
          rw [atU j (by omega), hk]
          rw [atU i (by omega), hk] at h4
          have := sorted_le hM.u (show i ≤ j by omega) (by omega)
          omega
        · rintro e w' ⟨rfl, i, h1, h2, h3, h4, hS⟩
          obtain ⟨j, rfl⟩ : ∃ j, i = a + j := ⟨i - a, by omega⟩
          have hj : j ≤ U.length := by omega
          have hI := insB hM (j := j) (fun i hi hij => by
            have := h3 (a + i) (by omega) (by omega)
            rw [atU i hi] at this
            exact Int.not_lt.1 fun h => by have := (hk _ _).2 h; omega) (fun i hi hij => by
            have := h4 (a + i) (by omega) (by omega)
            rw [atU i hi, hk] at this; exact this)
          refine ⟨rfl, _, hI.1, hI.2, ?_⟩
          have hq := dnR_list Pre Post v (U.length - j) (U.drop j) (U.take j) (by rw [List.length_drop])
          rw [← List.append_assoc (U.take j), List.take_append_drop, List.length_take, Nat.min_eq_left hj, show Pre.length + j + (U.length - j) = m by omega] at hq
          rw [show m - (a + j) = U.length - j by omega] at hS
          have hS2 : SW enc w0 blk off (dnR (Pre ++ (U ++ v :: Post)).toArray m (U.length - j)) w' := hS
          rw [hq] at hS2
          exact sw_of hS2 (by simp)
      · obtain ⟨mid, hmid⟩ : ∃ mid, mid = (a + b) / 2 := ⟨_, rfl⟩
        obtain ⟨p, hp⟩ : ∃ p, p + 1 = mid + m := ⟨mid + m - 1, by omega⟩
        have mono : ∀ s0 r0, (∀ c : Nat, s0 ≤ c → c < r0 → a ≤ c ∧ c < m ∧ m ≤ p - c ∧ p - c < b ∧ c ≤ p) → ∀ c c', s0 ≤ c → c ≤ c' → c' < r0 → cf (Pre ++ (U ++ (V ++ Post))).toArray[p - c]! (Pre ++ (U ++ (V ++ Post))).toArray[c]! < 0 → cf (Pre ++ (U ++ (V ++ Post))).toArray[p - c']! (Pre ++ (U ++ (V ++ Post))).toArray[c']! < 0 := by
          intro s0 r0 hin c c' h1 h2 h3 h4
          have i1 := hin c h1 (by omega)
          have i2 := hin c' (by omega) h3
          obtain ⟨i, hi⟩ : ∃ i, c = a + i := ⟨c - a, by omega⟩
          obtain ⟨j, hj⟩ : ∃ j, c' = a + j := ⟨c' - a, by omega⟩
          obtain ⟨x, hx⟩ : ∃ x, p - c = m + x := ⟨p - c - m, by omega⟩
          obtain ⟨y, hy⟩ : ∃ y, p - c' = m + y := ⟨p - c' - m, by omega⟩
          rw [hx, hi, atV x (by omega), atU i (by omega), hk] at h4
          rw [hy, hj, atV y (by omega), atU j (by omega), hk]
          have k1 := sorted_le hM.u (show i ≤ j by omega) (by omega)
          have k2 := sorted_le hM.v (show y ≤ x by omega) (by omega)
          omega
        by_cases hside : mid < m
        · obtain ⟨s0, hs0⟩ : ∃ s0, s0 + b = mid + m := ⟨mid + m - b, by omega⟩
          exact symC1 enc cf g cb blk off cap _ a m b N mid s0 mid p d0 w0 w eg hcmp R hs hsD (by omega) (by omega) (by omega) hmid hside hs0 rfl hp (mono s0 mid fun c h1 h2 => by omega) _
            (tail_of enc cf key rk hk g cb blk off cap N d0 w0 R hs hsz k ih Pre U V Post a m b mid s0 mid p hle (by omega) (by omega) hM hN ha hm hb hmid hp (.inl ⟨hside, hs0, rfl⟩)) S hsz
        · exact symC2 enc cf g cb blk off cap _ a m b N mid a m p d0 w0 w eg hcmp R hs hsD (by omega) (by omega) (by omega) hmid (by omega) rfl rfl hp (mono a m fun c h1 h2 => by omega) _
            (tail_of enc cf key rk hk g cb blk off cap N d0 w0 R hs hsz k ih Pre U V Post a m b mid a m p hle (by omega) (by omega) hM hN ha hm hb hmid hp (.inr ⟨by omega, rfl, rfl⟩)) S hsz
end Go.Proofs.Ytogdnolkheifcaa.Given
