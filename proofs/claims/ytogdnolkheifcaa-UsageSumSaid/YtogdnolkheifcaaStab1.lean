/- Stab1: GivSwap, PureRot, GivRotate, GivSymA, GivSymB. -/
import Derived.Test.YtogdnolkheifcaaSort1
import Derived.Sort.WalkA
import Derived.Sort.WalkB2
import Derived.Sort.WalkB12
import Derived.Deep.LoopGhost
import Derived.KernelRfl
import Derived.Laws.BitsLemmas
import Derived.Laws.BitsAllLaws
/- slices.swapRangeCmpFunc: by hand. -/
namespace Go.Proofs.Ytogdnolkheifcaa.Given
open Go.RowKit Go.Shelf Go.Lib Go.Sort Go.Proofs.YtogdnolkheifcaaW.PrintWords Go.Proofs.YtogdnolkheifcaaW.PrintLast Go.Proofs.YtogdnolkheifcaaW.PrintMore Go.Proofs.Ytogdnolkheifcaa.Base Go.Proofs.Ytogdnolkheifcaa.Pure
set_option linter.unusedVariables false
set_option linter.unusedSimpArgs false
variable {α : Type} [Inhabited α]

/-- The first n places behind a and behind b, exchanged one by one. -/
def swR (d : Array α) (a b : Nat) : Nat → Array α
  | 0 => d
  | i + 1 => swp (swR d a b i) (a + i) (b + i)
theorem swR_size (d : Array α) (a b n : Nat) : (swR d a b n).size = d.size := by
  induction n with
  | zero => rfl
  | succ n ih => simp only [swR]; rw [size_swp, ih]
set_option maxHeartbeats 4000000 in
set_option maxRecDepth 1000000 in
theorem swapRange_calls (enc : α → Value) (g : Nat) (cb : Array Value) (blk off cap a b n : Nat) (d0 d : Array α) (w0 w : World) (R : Row1 enc w0 blk off d0) (hs : d0.size = d.size) (S : SW enc w0 blk off d w) (ha : a + n ≤ d.size) (hb : b + n ≤ d.size) (hsz : d.size < 4611686018427387904) :
    Calls Try.prog 66 #[.slice (some ⟨blk, off, none⟩) d.size cap, .int .i64 a, .int .i64 b, .int .i64 n, .func (.func g) #[] cb] w fun e w' => e = .returned (.tuple #[]) ∧ SW enc w0 blk off (swR d a b n) w' := by
  have S0 : Aside (SW enc w0 blk off d w) := S
  clear S
  have mixed : Try.prog.follows Departure.mixedOrders = true := by kernel_rfl
  have hcl0 := R.hO.cells
  simp only [Value.cells] at hcl0
  have hst := R.hO.store Try.prog
  go_enter Try.func66, Try.ntmps66
  go_wp2
  go_loopg [10] n (fun g1 vi wr => ∃ (i : Nat), vi = .int .i64 i ∧ i ≤ n ∧ n - i ≤ g1 ∧ Aside (SW enc w0 blk off (swR d a b i) wr))
  case atStart => exact ⟨0, by go_num, by omega, by omega, S0⟩
  case round =>
    clear S0
    obtain ⟨i, rfl, hin, hg1, S1⟩ := hrel
    by_cases hlt : i < n
    · have hltz : (i : Int) < (n : Int) := by omega
      obtain ⟨dk, hdk⟩ : ∃ dk, swR d a b i = dk := ⟨_, rfl⟩
      have hsk : dk.size = d.size := by rw [← hdk, swR_size]
      rw [hdk] at S1
      obtain ⟨iN, hiN⟩ : ∃ q, q = a + i := ⟨_, rfl⟩
      obtain ⟨jN, hjN⟩ : ∃ q, q = b + i := ⟨_, rfl⟩
      have ea : ((a : Int) + (i : Int)).toNat = iN := by omega
      have pa : (0 : Int) ≤ (a : Int) + (i : Int) := by omega
      have ba : (a : Int) + (i : Int) < (d.size : Int) := by omega
      have ra : IntKind.i64.wrap ((a : Int) + (i : Int)) = (a : Int) + (i : Int) := by rw [IntKind.wrap_i64]; omega
      have ec : ((b : Int) + (i : Int)).toNat = jN := by omega
      have pc : (0 : Int) ≤ (b : Int) + (i : Int) := by omega
      have bc : (b : Int) + (i : Int) < (d.size : Int) := by omega
      have rc : IntKind.i64.wrap ((b : Int) + (i : Int)) = (b : Int) + (i : Int) := by rw [IntKind.wrap_i64]; omega
      obtain ⟨x, hx⟩ : ∃ x, x = dk[iN]! := ⟨_, rfl⟩
      obtain ⟨y, hy⟩ : ∃ x, x = dk[jN]! := ⟨_, rfl⟩
      have S3 : Aside (SW enc w0 blk off (swp dk iN jN) ((wr.setCell ⟨blk, off + iN, none⟩ (enc y)).setCell ⟨blk, off + jN, none⟩ (enc x)).drew) := by rw [hx, hy]; exact S1.out.swapped R iN jN (by omega) (by omega)
      have ca := S1.out.c1 R (by omega) iN (by omega)
      have cb_ := S1.out.c1 R (by omega) jN (by omega)
      have fa := S1.out.f1 R (by omega) iN (by omega)
      have fb := S1.out.f1 R (by omega) jN (by omega)
      obtain ⟨u, cc⟩ := S1.out.c2 R (by omega) iN jN (by omega) (by omega) (enc y)
      have HE : Hid (swR d a b (i + 1) = swp dk iN jN) := by show _ = _; simp only [swR]; rw [hdk, hiN, hjN]
      rw [← hx] at ca
      rw [← hy] at cb_
      clear S1 hx hy hiN hjN
      go_wp2_with fail
      go_big_region_o
      clear ca cb_ cc fa fb
      generalize ((wr.setCell ⟨blk, off + iN, none⟩ (enc y)).setCell ⟨blk, off + jN, none⟩ (enc x)).drew = w3 at S3 ⊢
      clear ea ec
      go_wp2
      go_roundg (n - (i + 1))
      case measure => omega
      case rel => exact ⟨i + 1, by go_num, by omega, by omega, by rw [HE.out]; exact S3⟩
    · have hltz : ¬ (i : Int) < (n : Int) := by omega
      obtain rfl : i = n := by omega
      go_wp2
      go_end0
      exact ⟨rfl, S1.out⟩
end Go.Proofs.Ytogdnolkheifcaa.Given

/- Plain laws over whole numbers and lists: PureRot. -/
namespace Go.Proofs.Ytogdnolkheifcaa.Pure
open Go.RowKit Go.Proofs.Ytogdnolkheifcaa.Base Go.Proofs.Ytogdnolkheifcaa.Given Go.Proofs.YtogdnolkheifcaaW.PrintWords Go.Proofs.YtogdnolkheifcaaW.PrintLast Go.Proofs.YtogdnolkheifcaaW.PrintMore
set_option linter.unusedVariables false
set_option linter.unusedSimpArgs false
theorem getElem!_list {α : Type} [Inhabited α] (l : List α) (i : Nat) : l.toArray[i]! = l.getD i default := by
  by_cases h : i < l.length
  · rw [getElem!_pos l.toArray i (by simpa using h), List.getD_eq_getElem?_getD, List.getElem?_eq_getElem h]; simp
  · rw [getElem!_neg l.toArray i (by simpa using h), List.getD_eq_getElem?_getD, List.getElem?_eq_none (by omega)]; rfl
theorem swp_two {α : Type} [Inhabited α] (A B C : List α) (x y : α) : Go.Sort.swp (A ++ x :: (B ++ y :: C)).toArray A.length (A.length + 1 + B.length) = (A ++ y :: (B ++ x :: C)).toArray := by
  have e1 : (A ++ x :: (B ++ y :: C)).toArray[A.length]! = x := by rw [getElem!_list, List.getD_eq_getElem?_getD]; simp
  have e2 : (A ++ x :: (B ++ y :: C)).toArray[A.length + 1 + B.length]! = y := by
    rw [getElem!_list, List.getD_eq_getElem?_getD, List.getElem?_append_right (by omega), show A.length + 1 + B.length - A.length = B.length + 1 by omega, List.getElem?_cons_succ, List.getElem?_append_right (Nat.le_refl _)]; simp
  unfold Go.Sort.swp
  rw [e1, e2]
  apply Array.ext'
  simp only [Array.set!_eq_setIfInBounds, Array.toList_setIfInBounds]
  rw [List.set_append_right _ _ (Nat.le_refl _), Nat.sub_self, List.set_cons_zero, List.set_append_right _ _ (by omega), show A.length + 1 + B.length - A.length = B.length + 1 by omega, List.set_cons_succ, List.set_append_right _ _ (Nat.le_refl _), Nat.sub_self, List.set_cons_zero]
theorem swR_list {α : Type} [Inhabited α] (Pre M Post : List α) : ∀ (n : Nat) (U1 V1 U2 V2 : List α), U1.length = n → V1.length = n →
    swR (Pre ++ (U1 ++ (U2 ++ (M ++ (V1 ++ (V2 ++ Post)))))).toArray Pre.length (Pre.length + U1.length + U2.length + M.length) n = (Pre ++ (V1 ++ (U2 ++ (M ++ (U1 ++ (V2 ++ Post)))))).toArray := by
  intro n
  induction n with
  | zero =>
    intro U1 V1 U2 V2 h1 h2
    have e1 := List.eq_nil_of_length_eq_zero h1
    have e2 := List.eq_nil_of_length_eq_zero h2
    subst e1; subst e2
    rfl
  | succ n ih =>
    intro U1 V1 U2 V2 h1 h2
    rcases List.eq_nil_or_concat U1 with e | ⟨U, x, e⟩
    · subst e; simp at h1
    rcases List.eq_nil_or_concat V1 with e2 | ⟨V, y, e2⟩
    · subst e2; simp at h2
    rw [List.concat_eq_append] at e e2
    subst e; subst e2
    simp at h1 h2
    have := ih U V ([x] ++ U2) ([y] ++ V2) h1 h2
    simp only [swR]
    have e3 : Pre ++ ((U ++ [x]) ++ (U2 ++ (M ++ ((V ++ [y]) ++ (V2 ++ Post))))) = Pre ++ (U ++ (([x] ++ U2) ++ (M ++ (V ++ (([y] ++ V2) ++ Post))))) := by simp
    have e4 : Pre.length + (U ++ [x]).length + U2.length + M.length = Pre.length + U.length + ([x] ++ U2).length + M.length := by simp; omega
    rw [e3, e4, this]
    have e5 : Pre ++ (V ++ (([x] ++ U2) ++ (M ++ (U ++ (([y] ++ V2) ++ Post))))) = (Pre ++ V) ++ x :: ((U2 ++ (M ++ U)) ++ y :: (V2 ++ Post)) := by simp
    have e6 := swp_two (Pre ++ V) (U2 ++ (M ++ U)) (V2 ++ Post) x y
    rw [e5]
    have l1 : Pre.length + n = (Pre ++ V).length := by simp; omega
    have l2 : Pre.length + U.length + ([x] ++ U2).length + M.length + n = (Pre ++ V).length + 1 + (U2 ++ (M ++ U)).length := by simp; omega
    rw [l1, l2, e6]
    simp
/-- Two neighbours of n each, exchanged. -/
theorem swR_two {α : Type} [Inhabited α] (Pre U M V Post : List α) (n a b : Nat) (h1 : U.length = n) (h2 : V.length = n) (ha : a = Pre.length) (hb : b = Pre.length + n + M.length) :
    swR (Pre ++ (U ++ (M ++ (V ++ Post)))).toArray a b n = (Pre ++ (V ++ (M ++ (U ++ Post)))).toArray := by
  have := swR_list Pre M Post n U V [] [] h1 h2
  simp only [List.nil_append, List.length_nil, Nat.add_zero] at this
  subst ha; subst hb; subst h1
  exact this
end Go.Proofs.Ytogdnolkheifcaa.Pure

/- slices.rotateCmpFunc: by hand. -/
namespace Go.Proofs.Ytogdnolkheifcaa.Given
open Go.RowKit Go.Shelf Go.Lib Go.Sort Go.Proofs.YtogdnolkheifcaaW.PrintWords Go.Proofs.YtogdnolkheifcaaW.PrintLast Go.Proofs.YtogdnolkheifcaaW.PrintMore Go.Proofs.Ytogdnolkheifcaa.Base Go.Proofs.Ytogdnolkheifcaa.Pure
set_option linter.unusedVariables false
set_option linter.unusedSimpArgs false
variable {α : Type} [Inhabited α]

theorem Row1.len {enc : α → Value} {w0 : World} {blk off : Nat} {d0 : Array α} (R : Row1 enc w0 blk off d0) : True := trivial
theorem swap_at (enc : α → Value) (g : Nat) (cb : Array Value) (blk off cap : Nat) (Pre U M V Post : List α) (n N : Nat) (ai bi ni : Int) (d0 : Array α) (w0 w : World) (R : Row1 enc w0 blk off d0) (hs : d0.size = N) (hN : (Pre ++ (U ++ (M ++ (V ++ Post)))).length = N) (hai : ai = (Pre.length : Int)) (hbi : bi = (Pre.length : Int) + n + M.length) (hni : ni = (n : Int)) (h1 : U.length = n) (h2 : V.length = n)
    (S : SW enc w0 blk off (Pre ++ (U ++ (M ++ (V ++ Post)))).toArray w) (hsz : N < 4611686018427387904) :
    Calls Try.prog 66 #[.slice (some ⟨blk, off, none⟩) N cap, .int .i64 ai, .int .i64 bi, .int .i64 ni, .func (.func g) #[] cb] w fun e w' => e = .returned (.tuple #[]) ∧ SW enc w0 blk off (Pre ++ (V ++ (M ++ (U ++ Post)))).toArray w' := by
  have hl := hN
  simp only [List.length_append] at hl
  have h := swapRange_calls enc g cb blk off cap Pre.length (Pre.length + n + M.length) n d0 (Pre ++ (U ++ (M ++ (V ++ Post)))).toArray w0 w R (by rw [hs]; exact hN.symm) S (by rw [List.size_toArray, hN]; omega) (by rw [List.size_toArray, hN]; omega) (by rw [List.size_toArray, hN]; omega)
  rw [List.size_toArray, hN, swR_two Pre U M V Post n _ _ h1 h2 rfl rfl] at h
  subst hai; subst hni
  rw [hbi]
  have e : ((Pre.length + n + M.length : Nat) : Int) = (Pre.length : Int) + n + M.length := by omega
  rw [← e]
  exact h
set_option maxHeartbeats 4000000 in
set_option maxRecDepth 4000 in
theorem rotate_calls (enc : α → Value) (g : Nat) (cb : Array Value) (blk off cap : Nat) (Pre U V Post : List α) (a m b N : Nat) (d0 : Array α) (w0 w : World) (R : Row1 enc w0 blk off d0) (hs : d0.size = N) (hN : (Pre ++ (U ++ (V ++ Post))).length = N) (ha : a = Pre.length) (hm : m = a + U.length) (hb : b = m + V.length) (hU : 0 < U.length) (hV : 0 < V.length)
    (S : SW enc w0 blk off (Pre ++ (U ++ (V ++ Post))).toArray w) (hsz : N < 4611686018427387904) :
    Calls Try.prog 64 #[.slice (some ⟨blk, off, none⟩) N cap, .int .i64 a, .int .i64 m, .int .i64 b, .func (.func g) #[] cb] w fun e w' => e = .returned (.tuple #[]) ∧ SW enc w0 blk off (Pre ++ (V ++ (U ++ Post))).toArray w' := by
  have S0 : Aside (SW enc w0 blk off (Pre ++ (U ++ (V ++ Post))).toArray w) := S
  have hl : Pre.length + (U.length + (V.length + Post.length)) = N := by have := hN; simpa only [List.length_append] using this
  have HN := Lib.hid hN
  clear S hN
  have ha1 : (a : Int) ≤ (m : Int) := by omega
  have ha2 : (m : Int) ≤ (b : Int) := by omega
  have ha3 : (b : Int) < 4611686018427387904 := by omega
  have HQ := Lib.hid (And.intro ha (And.intro hm hb))
  have HL := Lib.hid hl
  obtain ⟨lu, hlu⟩ : ∃ q, U.length = q := ⟨_, rfl⟩
  obtain ⟨lv, hlv⟩ : ∃ q, V.length = q := ⟨_, rfl⟩
  have hmu : (m : Int) - (a : Int) = (lu : Int) := by omega
  have hbv : (b : Int) - (m : Int) = (lv : Int) := by omega
  have HU := Lib.hid hlu
  have HV := Lib.hid hlv
  rw [hlu] at hU
  rw [hlv] at hV
  clear ha hm hb hl hlu hlv
  go_enter Try.func64, Try.ntmps64
  go_wp2
  go_loopg [10, 11] (lu + lv) (fun g1 vi vj wr => ∃ (X U' V' Y : List α) (i j : Nat), vi = .int .i64 i ∧ vj = .int .i64 j ∧ Hid (U'.length = i ∧ V'.length = j ∧ X.length + i = lu ∧ j + Y.length = lv) ∧ 0 < i ∧ i ≤ lu ∧ j ≤ lv ∧ 0 < j ∧ i + j ≤ g1 ∧ Hid (X ++ (V' ++ (U' ++ Y)) = V ++ U) ∧ Aside (SW enc w0 blk off (Pre ++ (X ++ (U' ++ (V' ++ (Y ++ Post))))).toArray wr))
  case atStart => exact ⟨[], U, V, [], lu, lv, by congr 1, by congr 1, Lib.hid ⟨HU.out, HV.out, by simp, by simp⟩, hU, Nat.le_refl _, Nat.le_refl _, hV, Nat.le_refl _, by show _ = _; simp, S0⟩
  case round =>
    clear S0
    obtain ⟨X, U', V', Y, i, j, rfl, rfl, HI, hi0, hil, hjl, hj0, hg1, HE, S1⟩ := hrel
    have hmi : (i : Int) ≤ (m : Int) := by omega
    have hb1 : (m : Int) - (i : Int) < 4611686018427387904 := by omega
    have hb0 : 0 ≤ (m : Int) - (i : Int) := by omega
    have hb3 : (m : Int) + (j : Int) < 4611686018427387904 := by omega
    have HB : Hid ((i : Int) ≤ lu ∧ (j : Int) ≤ lv ∧ (m : Int) - (a : Int) = (lu : Int) ∧ (b : Int) - (m : Int) = (lv : Int)) := Lib.hid ⟨by omega, by omega, hmu, hbv⟩
    clear hil hjl hmu hbv
    have HZ : Hid (Pre.length + (X.length + (U'.length + (V'.length + (Y.length + Post.length)))) = N ∧ (Pre ++ (X ++ (U' ++ (V' ++ (Y ++ Post))))).length = N) := by
      have h1 := HQ.out; have h2 := HL.out; have h3 := HI.out; have h4 := HU.out; have h5 := HV.out
      refine Lib.hid ⟨by omega, ?_⟩
      simp only [List.length_append]; omega
    rcases Nat.lt_trichotomy i j with hlt | heq | hgt
    · have hne : ((i : Int) != (j : Int)) = true := bne_iff_ne.2 (by omega)
      have hng : ¬ (j : Int) < (i : Int) := by omega
      have hb4 : 0 ≤ (m : Int) + (j : Int) - (i : Int) := by omega
      have hji : 0 ≤ (j : Int) - (i : Int) := by omega
      obtain ⟨V1, V2, hv12, hv1, hv2⟩ : ∃ V1 V2, V1 ++ V2 = V' ∧ V1.length = j - i ∧ V2.length = i := ⟨V'.take (j - i), V'.drop (j - i), List.take_append_drop _ _, by rw [List.length_take]; have := HI.out; omega, by rw [List.length_drop]; have := HI.out; omega⟩
      have S2 : Aside (SW enc w0 blk off ((Pre ++ X) ++ (U' ++ (V1 ++ (V2 ++ (Y ++ Post))))).toArray wr) := by
        have := S1.out
        rw [← hv12] at this
        show SW _ _ _ _ _ _
        simpa using this
      have HLT := Lib.hid hlt
      have HC : Hid (Calls Try.prog 66 #[.slice (some ⟨blk, off, none⟩) N cap, .int .i64 ((m : Int) - (i : Int)), .int .i64 ((m : Int) + (j : Int) - (i : Int)), .int .i64 (i : Int), .func (.func g) #[] cb] wr fun e w' => e = .returned (.tuple #[]) ∧ SW enc w0 blk off ((Pre ++ X) ++ (V2 ++ (V1 ++ (U' ++ (Y ++ Post))))).toArray w') := by
        have h1 := HQ.out; have h3 := HI.out; have h4 := HU.out; have h5 := HV.out; have h6 := HZ.out.1
        refine swap_at enc g cb blk off cap (Pre ++ X) U' V1 V2 (Y ++ Post) i N _ _ _ d0 w0 wr R hs ?_ ?_ ?_ rfl h3.1 hv2 S2.out hsz
        · have h7 := HZ.out.2
          rw [← hv12] at h7
          simpa using h7
        · rw [List.length_append]; omega
        · rw [List.length_append, hv1]; omega
      have HN2 : Hid (U'.length = i ∧ V1.length = j - i ∧ V2.length = i ∧ V' = V1 ++ V2) := Lib.hid ⟨HI.out.1, hv1, hv2, hv12.symm⟩
      clear hmi hlt hv12 hv1 hv2 S1 S2
      go_wp2_with (go_at_call 66; refine HC.out.mono ?_; rintro e w1 ⟨rfl, hS⟩; have S3 : Aside (SW enc w0 blk off _ w1) := hS; clear hS)
      go_roundg (i + (j - i))
      case measure => have := HN2.out; omega
      case rel =>
        have h2 := HN2.out; have h3 := HI.out; have h8 := HB.out; have h9 := HLT.out
        refine ⟨X, V2, V1, U' ++ Y, i, j - i, rfl, by congr 1; omega, Lib.hid ⟨h2.2.2.1, h2.2.1, h3.2.2.1, by rw [List.length_append]; omega⟩, hi0, by omega, by omega, by omega, Nat.le_refl _, ?_, ?_⟩
        · show _ = _; rw [← HE.out, h2.2.2.2]; simp
        · have := S3.out
          show SW _ _ _ _ _ _
          simpa using this
    · subst heq
      have hne : ((i : Int) != (i : Int)) = false := by simp
      have HC : Hid (Calls Try.prog 66 #[.slice (some ⟨blk, off, none⟩) N cap, .int .i64 ((m : Int) - (i : Int)), .int .i64 (m : Int), .int .i64 (i : Int), .func (.func g) #[] cb] wr fun e w' => e = .returned (.tuple #[]) ∧ SW enc w0 blk off (Pre ++ (V ++ (U ++ Post))).toArray w') := by
        have h1 := HQ.out; have h3 := HI.out; have h4 := HU.out; have h5 := HV.out; have h6 := HZ.out.1
        refine (swap_at enc g cb blk off cap (Pre ++ X) U' [] V' (Y ++ Post) i N _ _ _ d0 w0 wr R hs ?_ ?_ ?_ rfl h3.1 h3.2.1 ?_ hsz).mono ?_
        · have h7 := HZ.out.2
          simpa using h7
        · rw [List.length_append]; omega
        · rw [List.length_append, List.length_nil]; omega
        · have := S1.out; simpa using this
        · rintro e w' ⟨he, hS⟩
          refine ⟨he, ?_⟩
          have e2 : Pre ++ (V ++ (U ++ Post)) = Pre ++ X ++ (V' ++ ([] ++ (U' ++ (Y ++ Post)))) := by rw [← List.append_assoc V, ← HE.out]; simp
          rw [e2]; exact hS
      clear hmi S1
      go_wp2_with (go_at_call 66; refine HC.out.mono ?_; rintro e w1 ⟨rfl, hS⟩; have S3 : Aside (SW enc w0 blk off _ w1) := hS; clear hS)
      go_end0
      exact ⟨rfl, S3.out⟩
    · have hne : ((i : Int) != (j : Int)) = true := bne_iff_ne.2 (by omega)
      have hng : (j : Int) < (i : Int) := by omega
      have hji : 0 ≤ (i : Int) - (j : Int) := by omega
      obtain ⟨U1, U2, hu12, hu1, hu2⟩ : ∃ U1 U2, U1 ++ U2 = U' ∧ U1.length = j ∧ U2.length = i - j := ⟨U'.take j, U'.drop j, List.take_append_drop _ _, by rw [List.length_take]; have := HI.out; omega, by rw [List.length_drop]; have := HI.out; omega⟩
      have HLT := Lib.hid hgt
      have HC : Hid (Calls Try.prog 66 #[.slice (some ⟨blk, off, none⟩) N cap, .int .i64 ((m : Int) - (i : Int)), .int .i64 (m : Int), .int .i64 (j : Int), .func (.func g) #[] cb] wr fun e w' => e = .returned (.tuple #[]) ∧ SW enc w0 blk off ((Pre ++ X) ++ (V' ++ (U2 ++ (U1 ++ (Y ++ Post))))).toArray w') := by
        have h1 := HQ.out; have h3 := HI.out; have h4 := HU.out; have h5 := HV.out; have h6 := HZ.out.1
        refine swap_at enc g cb blk off cap (Pre ++ X) U1 U2 V' (Y ++ Post) j N _ _ _ d0 w0 wr R hs ?_ ?_ ?_ rfl hu1 h3.2.1 ?_ hsz
        · have h7 := HZ.out.2
          rw [← hu12] at h7
          simpa using h7
        · rw [List.length_append]; omega
        · rw [List.length_append, hu2]; omega
        · have := S1.out
          rw [← hu12] at this
          simpa using this
      have HN2 : Hid (V'.length = j ∧ U1.length = j ∧ U2.length = i - j ∧ U' = U1 ++ U2) := Lib.hid ⟨HI.out.2.1, hu1, hu2, hu12.symm⟩
      clear hmi hgt hu12 hu1 hu2 S1
      go_wp2_with (go_at_call 66; refine HC.out.mono ?_; rintro e w1 ⟨rfl, hS⟩; have S3 : Aside (SW enc w0 blk off _ w1) := hS; clear hS)
      go_roundg ((i - j) + j)
      case measure => have := HN2.out; omega
      case rel =>
        have h2 := HN2.out; have h3 := HI.out; have h8 := HB.out; have h9 := HLT.out
        refine ⟨X ++ V', U2, U1, Y, i - j, j, by congr 1; omega, rfl, Lib.hid ⟨h2.2.2.1, h2.2.1, by rw [List.length_append]; omega, h3.2.2.2⟩, by omega, by omega, by omega, hj0, Nat.le_refl _, ?_, ?_⟩
        · show _ = _; rw [← HE.out, h2.2.2.2]; simp
        · have := S3.out
          show SW _ _ _ _ _ _
          simpa using this
end Go.Proofs.Ytogdnolkheifcaa.Given

/- slices.symMergeCmpFunc where the first part is one element: by hand. -/
namespace Go.Proofs.Ytogdnolkheifcaa.Given
open Go.RowKit Go.Shelf Go.Lib Go.Sort Go.Proofs.YtogdnolkheifcaaW.PrintWords Go.Proofs.YtogdnolkheifcaaW.PrintLast Go.Proofs.YtogdnolkheifcaaW.PrintMore Go.Proofs.Ytogdnolkheifcaa.Base Go.Proofs.Ytogdnolkheifcaa.Pure
set_option linter.unusedVariables false
set_option linter.unusedSimpArgs false
variable {α : Type} [Inhabited α]

/-- The element at a, moved t places up. -/
def shR (d : Array α) (a : Nat) : Nat → Array α
  | 0 => d
  | t + 1 => swp (shR d a t) (a + t) (a + t + 1)
theorem shR_size (d : Array α) (a n : Nat) : (shR d a n).size = d.size := by
  induction n with
  | zero => rfl
  | succ n ih => simp only [shR]; rw [size_swp, ih]
set_option maxHeartbeats 4000000 in
set_option maxRecDepth 4000 in
theorem symA_calls (enc : α → Value) (cf : α → α → Int) (g : Nat) (cb : Array Value) (blk off cap : Nat) (D : Array α) (a m b N : Nat) (d0 : Array α) (w0 w : World) (eg : ∀ args w, (callFunc g args).run Try.prog w = .ok (.enter g args) w) (hcmp : CmpLays1 Try.prog g cb enc cf blk off N w0) (R : Row1 enc w0 blk off d0) (hs : d0.size = N) (hD : D.size = N) (hm : m = a + 1) (hb : m < b) (hbN : b ≤ N) (mono : ∀ k k', m ≤ k → k ≤ k' → k' < b → cf D[k']! D[a]! < 0 → cf D[k]! D[a]! < 0)
    (S : SW enc w0 blk off D w) (hsz : N < 4611686018427387904) :
    Calls Try.prog 58 #[.slice (some ⟨blk, off, none⟩) N cap, .int .i64 a, .int .i64 m, .int .i64 b, .func (.func g) #[] cb] w fun e w' => e = .returned (.tuple #[]) ∧ ∃ i, m ≤ i ∧ i ≤ b ∧ (∀ k, m ≤ k → k < i → cf D[k]! D[a]! < 0) ∧ (∀ k, i ≤ k → k < b → 0 ≤ cf D[k]! D[a]!) ∧ SW enc w0 blk off (shR D a (i - 1 - a)) w' := by
  have S0 : Aside (SW enc w0 blk off D w) := S
  have HC : Aside (CmpLays1 Try.prog g cb enc cf blk off N w0) := hcmp
  clear S hcmp
  have mixed : Try.prog.follows Departure.mixedOrders = true := by kernel_rfl
  have hcl0 := R.hO.cells
  simp only [Value.cells] at hcl0
  have hst := R.hO.store Try.prog
  have h1 : ((m : Int) - (a : Int) == 1) = true := beq_iff_eq.2 (by omega)
  have ha0 : 0 ≤ (m : Int) - (a : Int) := by omega
  have ha1 : (m : Int) - (a : Int) < 4611686018427387904 := by omega
  have HM := Lib.hid hm
  have HMO := Lib.hid mono
  have ham : a < m := by omega
  clear hm mono
  go_enter Try.func58, Try.ntmps58
  go_wp2
  go_loopg [10, 11] (b - m) (fun g1 vi vj wr => ∃ (i j : Nat), vi = .int .i64 i ∧ vj = .int .i64 j ∧ m ≤ i ∧ i ≤ j ∧ j ≤ b ∧ j - i ≤ g1 ∧ Hid (∀ k, m ≤ k → k < i → cf D[k]! D[a]! < 0) ∧ Hid (∀ k, j ≤ k → k < b → 0 ≤ cf D[k]! D[a]!) ∧ Aside (SW enc w0 blk off D wr))
  case atStart => exact ⟨m, b, rfl, rfl, Nat.le_refl _, by omega, Nat.le_refl _, Nat.le_refl _, fun k h1 h2 => by omega, fun k h1 h2 => by omega, S0⟩
  case round =>
    clear S0
    obtain ⟨i, j, rfl, rfl, hmi, hij, hjb, hg1, HI, HJ, S1⟩ := hrel
    by_cases hlt : i < j
    · have hltz : (i : Int) < (j : Int) := by omega
      obtain ⟨h, hh⟩ : ∃ h, (i + j) / 2 = h := ⟨_, rfl⟩
      have eh : ((i : Int) + (j : Int)) / 2 = (h : Int) := by omega
      have hih : i ≤ h := by omega
      have hhj : h < j := by omega
      clear hh
      go_wp2_with fail
      try rw [eh]
      obtain ⟨x, hx⟩ : ∃ x, x = D[h]! := ⟨_, rfl⟩
      obtain ⟨y, hy⟩ : ∃ x, x = D[a]! := ⟨_, rfl⟩
      have la := S1.out.cl R (by omega) h (by omega)
      have lb := S1.out.cl R (by omega) a (by omega)
      rw [← hx] at la
      rw [← hy] at lb
      have hc := S1.out.cmp HC.out (by omega) x y
      have ph : (0 : Int) ≤ (h : Int) := by omega
      have bh : (h : Int) < (N : Int) := by omega
      have pa : (0 : Int) ≤ (a : Int) := by omega
      have ba : (a : Int) < (N : Int) := by omega
      have HX := Lib.hid hx
      have HY := Lib.hid hy
      clear eh hx hy
      by_cases hv : cf x y < 0
      · have hd : decide (cf x y < 0) = true := decide_eq_true hv
        go_quiet_grown (first | (go_at_fn g; refine Calls.grown_of (hc _ _)))
        have S2 : Aside (SW enc w0 blk off D (grow (wr.drewN nq) osq)) := S1.out.grown nq osq
        clear la lb hc S1
        generalize grow (wr.drewN nq) osq = w2 at S2 ⊢
        clear nq osq
        go_wp2
        go_roundg (j - (h + 1))
        case measure => omega
        case rel =>
          refine ⟨h + 1, j, by go_num, rfl, by omega, by omega, by omega, Nat.le_refl _, fun k k1 k2 => ?_, HJ, S2⟩
          exact HMO.out k h k1 (by omega) (by omega) (by rw [← HX.out, ← HY.out]; exact hv)
      · have hd : decide (cf x y < 0) = false := decide_eq_false hv
        go_quiet_grown (first | (go_at_fn g; refine Calls.grown_of (hc _ _)))
        have S2 : Aside (SW enc w0 blk off D (grow (wr.drewN nq) osq)) := S1.out.grown nq osq
        clear la lb hc S1
        generalize grow (wr.drewN nq) osq = w2 at S2 ⊢
        clear nq osq
        go_wp2
        go_roundg (h - i)
        case measure => omega
        case rel =>
          refine ⟨i, h, rfl, rfl, by omega, by omega, by omega, Nat.le_refl _, HI, fun k k1 k2 => ?_, S2⟩
          refine Int.not_lt.1 fun hk => ?_
          have hq := HMO.out h k (by omega) k1 k2 hk
          rw [← HX.out, ← HY.out] at hq
          omega
    · have hltz : ¬ (i : Int) < (j : Int) := by omega
      obtain rfl : i = j := by omega
      have hi1 : 1 ≤ (i : Int) := by omega
      go_wp2
      go_loopg [13] (i - a) (fun g1 vk wr2 => ∃ (t : Nat), vk = .int .i64 ((a : Int) + (t : Int)) ∧ t ≤ i - 1 - a ∧ i - 1 - a - t ≤ g1 ∧ Aside (SW enc w0 blk off (shR D a t) wr2))
      case atStart => exact ⟨0, by go_num, by omega, by omega, S1⟩
      case round =>
        clear S1
        obtain ⟨t, rfl, ht, hg2, S1⟩ := hrel
        by_cases hlt2 : t < i - 1 - a
        · have hltz2 : (a : Int) + (t : Int) < (i : Int) - 1 := by omega
          obtain ⟨dk, hdk⟩ : ∃ dk, shR D a t = dk := ⟨_, rfl⟩
          have hsk : dk.size = N := by rw [← hdk, shR_size, hD]
          rw [hdk] at S1
          obtain ⟨iN, hiN⟩ : ∃ q, q = a + t := ⟨_, rfl⟩
          obtain ⟨jN, hjN⟩ : ∃ q, q = a + t + 1 := ⟨_, rfl⟩
          have ea : ((a : Int) + (t : Int)).toNat = iN := by omega
          have pa : (0 : Int) ≤ (a : Int) + (t : Int) := by omega
          have ba : (a : Int) + (t : Int) < (N : Int) := by omega
          have ra : IntKind.i64.wrap ((a : Int) + (t : Int)) = (a : Int) + (t : Int) := by rw [IntKind.wrap_i64]; omega
          have ec : ((a : Int) + (t : Int) + 1).toNat = jN := by omega
          have pc : (0 : Int) ≤ (a : Int) + (t : Int) + 1 := by omega
          have bc : (a : Int) + (t : Int) + 1 < (N : Int) := by omega
          have rc : IntKind.i64.wrap ((a : Int) + (t : Int) + 1) = (a : Int) + (t : Int) + 1 := by rw [IntKind.wrap_i64]; omega
          obtain ⟨x, hx⟩ : ∃ x, x = dk[iN]! := ⟨_, rfl⟩
          obtain ⟨y, hy⟩ : ∃ x, x = dk[jN]! := ⟨_, rfl⟩
          have S3 : Aside (SW enc w0 blk off (swp dk iN jN) ((wr.setCell ⟨blk, off + iN, none⟩ (enc y)).setCell ⟨blk, off + jN, none⟩ (enc x)).drew) := by rw [hx, hy]; exact S1.out.swapped R iN jN (by omega) (by omega)
          have ca := S1.out.c1 R (by omega) iN (by omega)
          have cb_ := S1.out.c1 R (by omega) jN (by omega)
          have fa := S1.out.f1 R (by omega) iN (by omega)
          have fb := S1.out.f1 R (by omega) jN (by omega)
          obtain ⟨u, cc⟩ := S1.out.c2 R (by omega) iN jN (by omega) (by omega) (enc y)
          have HE : Hid (shR D a (t + 1) = swp dk iN jN) := by show _ = _; simp only [shR]; rw [hdk, hiN, hjN]
          rw [← hx] at ca
          rw [← hy] at cb_
          clear S1 hx hy hiN hjN
          go_wp2_with fail
          go_big_region_o
          clear ca cb_ cc fa fb
          generalize ((wr.setCell ⟨blk, off + iN, none⟩ (enc y)).setCell ⟨blk, off + jN, none⟩ (enc x)).drew = w3 at S3 ⊢
          clear ea ec
          go_wp2
          go_roundg (i - 1 - a - (t + 1))
          case measure => omega
          case rel => exact ⟨t + 1, by go_num, by omega, Nat.le_refl _, by rw [HE.out]; exact S3⟩
        · have hltz2 : ¬ (a : Int) + (t : Int) < (i : Int) - 1 := by omega
          obtain rfl : t = i - 1 - a := by omega
          go_wp2
          refine bodyPost_ret (results_none rfl _ _ _) rfl ?_
          exact ⟨rfl, i, by omega, by omega, HI.out, HJ.out, S1.out⟩
end Go.Proofs.Ytogdnolkheifcaa.Given

/- slices.symMergeCmpFunc where the second part is one element: by hand. -/
namespace Go.Proofs.Ytogdnolkheifcaa.Given
open Go.RowKit Go.Shelf Go.Lib Go.Sort Go.Proofs.YtogdnolkheifcaaW.PrintWords Go.Proofs.YtogdnolkheifcaaW.PrintLast Go.Proofs.YtogdnolkheifcaaW.PrintMore Go.Proofs.Ytogdnolkheifcaa.Base Go.Proofs.Ytogdnolkheifcaa.Pure
set_option linter.unusedVariables false
set_option linter.unusedSimpArgs false
variable {α : Type} [Inhabited α]

/-- The element at m, moved t places down. -/
def dnR (d : Array α) (m : Nat) : Nat → Array α
  | 0 => d
  | t + 1 => swp (dnR d m t) (m - t) (m - t - 1)
theorem dnR_size (d : Array α) (a n : Nat) : (dnR d a n).size = d.size := by
  induction n with
  | zero => rfl
  | succ n ih => simp only [dnR]; rw [size_swp, ih]
set_option maxHeartbeats 4000000 in
set_option maxRecDepth 4000 in
theorem symB_calls (enc : α → Value) (cf : α → α → Int) (g : Nat) (cb : Array Value) (blk off cap : Nat) (D : Array α) (u : α) (a m b N : Nat) (d0 : Array α) (w0 w : World) (eg : ∀ args w, (callFunc g args).run Try.prog w = .ok (.enter g args) w) (hcmp : CmpLays1 Try.prog g cb enc cf blk off N w0) (R : Row1 enc w0 blk off d0) (hs : d0.size = N) (hD : D.size = N) (hm : a + 1 < m) (hb : b = m + 1) (hu : u = D[m]!) (hbN : b ≤ N) (mono : ∀ k k', a ≤ k → k ≤ k' → k' < m → cf u D[k]! < 0 → cf u D[k']! < 0)
    (S : SW enc w0 blk off D w) (hsz : N < 4611686018427387904) :
    Calls Try.prog 58 #[.slice (some ⟨blk, off, none⟩) N cap, .int .i64 a, .int .i64 m, .int .i64 b, .func (.func g) #[] cb] w fun e w' => e = .returned (.tuple #[]) ∧ ∃ i, a ≤ i ∧ i ≤ m ∧ (∀ k, a ≤ k → k < i → 0 ≤ cf u D[k]!) ∧ (∀ k, i ≤ k → k < m → cf u D[k]! < 0) ∧ SW enc w0 blk off (dnR D m (m - i)) w' := by
  have S0 : Aside (SW enc w0 blk off D w) := S
  have HC : Aside (CmpLays1 Try.prog g cb enc cf blk off N w0) := hcmp
  clear S hcmp
  have mixed : Try.prog.follows Departure.mixedOrders = true := by kernel_rfl
  have hcl0 := R.hO.cells
  simp only [Value.cells] at hcl0
  have hst := R.hO.store Try.prog
  have h1 : ((m : Int) - (a : Int) == 1) = false := beq_eq_false_iff_ne.2 (by omega)
  have h2 : ((b : Int) - (m : Int) == 1) = true := beq_iff_eq.2 (by omega)
  have ha0 : 0 ≤ (m : Int) - (a : Int) := by omega
  have ha1 : (m : Int) - (a : Int) < 4611686018427387904 := by omega
  have ha2 : 0 ≤ (b : Int) - (m : Int) := by omega
  have ha3 : (b : Int) - (m : Int) < 4611686018427387904 := by omega
  have HM := Lib.hid hb
  have HU := Lib.hid hu
  have HMO := Lib.hid mono
  have hmN : m < N := by omega
  clear hb hbN mono hu
  go_enter Try.func58, Try.ntmps58
  go_wp2
  go_loopg [14, 15] (m - a) (fun g1 vi vj wr => ∃ (i j : Nat), vi = .int .i64 i ∧ vj = .int .i64 j ∧ a ≤ i ∧ i ≤ j ∧ j ≤ m ∧ j - i ≤ g1 ∧ Hid (∀ k, a ≤ k → k < i → 0 ≤ cf u D[k]!) ∧ Hid (∀ k, j ≤ k → k < m → cf u D[k]! < 0) ∧ Aside (SW enc w0 blk off D wr))
  case atStart => exact ⟨a, m, rfl, rfl, Nat.le_refl _, by omega, Nat.le_refl _, Nat.le_refl _, fun k h1 h2 => by omega, fun k h1 h2 => by omega, S0⟩
  case round =>
    clear S0
    obtain ⟨i, j, rfl, rfl, hmi, hij, hjb, hg1, HI, HJ, S1⟩ := hrel
    by_cases hlt : i < j
    · have hltz : (i : Int) < (j : Int) := by omega
      obtain ⟨h, hh⟩ : ∃ h, (i + j) / 2 = h := ⟨_, rfl⟩
      have eh : ((i : Int) + (j : Int)) / 2 = (h : Int) := by omega
      have hih : i ≤ h := by omega
      have hhj : h < j := by omega
      clear hh
      go_wp2_with fail
      try rw [eh]
      obtain ⟨x, hx⟩ : ∃ x, x = u := ⟨_, rfl⟩
      obtain ⟨y, hy⟩ : ∃ x, x = D[h]! := ⟨_, rfl⟩
      have la := S1.out.cl R (by omega) m (by omega)
      have lb := S1.out.cl R (by omega) h (by omega)
      rw [← HU.out, ← hx] at la
      rw [← hy] at lb
      have hc := S1.out.cmp HC.out (by omega) x y
      have ph : (0 : Int) ≤ (h : Int) := by omega
      have bh : (h : Int) < (N : Int) := by omega
      have pa : (0 : Int) ≤ (m : Int) := by omega
      have ba : (m : Int) < (N : Int) := by omega
      have HX := Lib.hid hx
      have HY := Lib.hid hy
      clear eh hx hy
      by_cases hv : cf x y < 0
      · have hd : decide (cf x y < 0) = true := decide_eq_true hv
        go_quiet_grown (first | (go_at_fn g; refine Calls.grown_of (hc _ _)))
        have S2 : Aside (SW enc w0 blk off D (grow (wr.drewN nq) osq)) := S1.out.grown nq osq
        clear la lb hc S1
        generalize grow (wr.drewN nq) osq = w2 at S2 ⊢
        clear nq osq
        go_wp2
        go_roundg (h - i)
        case measure => omega
        case rel =>
          refine ⟨i, h, rfl, rfl, by omega, by omega, by omega, Nat.le_refl _, HI, fun k k1 k2 => ?_, S2⟩
          exact HMO.out h k (by omega) k1 k2 (by rw [← HX.out, ← HY.out]; exact hv)
      · have hd : decide (cf x y < 0) = false := decide_eq_false hv
        go_quiet_grown (first | (go_at_fn g; refine Calls.grown_of (hc _ _)))
        have S2 : Aside (SW enc w0 blk off D (grow (wr.drewN nq) osq)) := S1.out.grown nq osq
        clear la lb hc S1
        generalize grow (wr.drewN nq) osq = w2 at S2 ⊢
        clear nq osq
        go_wp2
        go_roundg (j - (h + 1))
        case measure => omega
        case rel =>
          refine ⟨h + 1, j, by go_num, rfl, by omega, by omega, by omega, Nat.le_refl _, fun k k1 k2 => ?_, HJ, S2⟩
          refine Int.not_lt.1 fun hk => ?_
          have hq := HMO.out k h k1 (by omega) (by omega) hk
          rw [← HX.out, ← HY.out] at hq
          omega
    · have hltz : ¬ (i : Int) < (j : Int) := by omega
      obtain rfl : i = j := by omega
      go_wp2
      go_loopg [17] (m - i) (fun g1 vk wr2 => ∃ (t : Nat), vk = .int .i64 ((m : Int) - (t : Int)) ∧ t ≤ m - i ∧ m - i - t ≤ g1 ∧ Aside (SW enc w0 blk off (dnR D m t) wr2))
      case atStart => exact ⟨0, by go_num, by omega, by omega, S1⟩
      case round =>
        clear S1
        obtain ⟨t, rfl, ht, hg2, S1⟩ := hrel
        by_cases hlt2 : t < m - i
        · have hltz2 : (i : Int) < (m : Int) - (t : Int) := by omega
          obtain ⟨dk, hdk⟩ : ∃ dk, dnR D m t = dk := ⟨_, rfl⟩
          have hsk : dk.size = N := by rw [← hdk, dnR_size, hD]
          rw [hdk] at S1
          obtain ⟨iN, hiN⟩ : ∃ q, q = m - t := ⟨_, rfl⟩
          obtain ⟨jN, hjN⟩ : ∃ q, q = m - t - 1 := ⟨_, rfl⟩
          have ea : ((m : Int) - (t : Int)).toNat = iN := by omega
          have pa : (0 : Int) ≤ (m : Int) - (t : Int) := by omega
          have ba : (m : Int) - (t : Int) < (N : Int) := by omega
          have ra : IntKind.i64.wrap ((m : Int) - (t : Int)) = (m : Int) - (t : Int) := by rw [IntKind.wrap_i64]; omega
          have ec : ((m : Int) - (t : Int) - 1).toNat = jN := by omega
          have pc : (0 : Int) ≤ (m : Int) - (t : Int) - 1 := by omega
          have bc : (m : Int) - (t : Int) - 1 < (N : Int) := by omega
          have rc : IntKind.i64.wrap ((m : Int) - (t : Int) - 1) = (m : Int) - (t : Int) - 1 := by rw [IntKind.wrap_i64]; omega
          obtain ⟨x, hx⟩ : ∃ x, x = dk[iN]! := ⟨_, rfl⟩
          obtain ⟨y, hy⟩ : ∃ x, x = dk[jN]! := ⟨_, rfl⟩
          have S3 : Aside (SW enc w0 blk off (swp dk iN jN) ((wr.setCell ⟨blk, off + iN, none⟩ (enc y)).setCell ⟨blk, off + jN, none⟩ (enc x)).drew) := by rw [hx, hy]; exact S1.out.swapped R iN jN (by omega) (by omega)
          have ca := S1.out.c1 R (by omega) iN (by omega)
          have cb_ := S1.out.c1 R (by omega) jN (by omega)
          have fa := S1.out.f1 R (by omega) iN (by omega)
          have fb := S1.out.f1 R (by omega) jN (by omega)
          obtain ⟨u_, cc⟩ := S1.out.c2 R (by omega) iN jN (by omega) (by omega) (enc y)
          have HE : Hid (dnR D m (t + 1) = swp dk iN jN) := by show _ = _; simp only [dnR]; rw [hdk, hiN, hjN]
          rw [← hx] at ca
          rw [← hy] at cb_
          clear S1 hx hy hiN hjN
          go_wp2_with fail
          go_big_region_o
          clear ca cb_ cc fa fb
          generalize ((wr.setCell ⟨blk, off + iN, none⟩ (enc y)).setCell ⟨blk, off + jN, none⟩ (enc x)).drew = w3 at S3 ⊢
          clear ea ec
          go_wp2
          go_roundg (m - i - (t + 1))
          case measure => omega
          case rel => exact ⟨t + 1, by congr 1; omega, by omega, Nat.le_refl _, by rw [HE.out]; exact S3⟩
        · have hltz2 : ¬ (i : Int) < (m : Int) - (t : Int) := by omega
          obtain rfl : t = m - i := by omega
          go_wp2
          refine bodyPost_ret (results_none rfl _ _ _) rfl ?_
          exact ⟨rfl, i, by omega, by omega, HI.out, HJ.out, S1.out⟩
end Go.Proofs.Ytogdnolkheifcaa.Given
