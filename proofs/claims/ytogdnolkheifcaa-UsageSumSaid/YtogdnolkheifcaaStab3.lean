/- Stab3: GivStable, PureStable, GivStabled, GivVsorted, GivVictims. -/
import Derived.Test.YtogdnolkheifcaaStab2
import Derived.KernelRfl
import Derived.Laws.BitsLemmas
import Derived.Laws.BitsAllLaws
/- slices.stableCmpFunc: the walk, over what its steps keep. -/
namespace Go.Proofs.Ytogdnolkheifcaa.Given
open Go.RowKit Go.Shelf Go.Lib Go.Sort Go.Proofs.YtogdnolkheifcaaW.PrintWords Go.Proofs.YtogdnolkheifcaaW.PrintLast Go.Proofs.YtogdnolkheifcaaW.PrintMore Go.Proofs.Ytogdnolkheifcaa.Base Go.Proofs.Ytogdnolkheifcaa.Pure
set_option linter.unusedVariables false
set_option linter.unusedSimpArgs false

/-- What the steps of the stable sort keep: I1 a: the blocks below a are in order; I2 s: all blocks of s are; I3 s a: merged below a. -/
structure Steps (g : Nat) (cb : Array Value) (sl : Value) (n : Nat) (I1 : Nat → World → Prop) (I2 : Nat → World → Prop) (I3 : Nat → Nat → World → Prop) (Post : World → Prop) : Prop where
  h1 : ∀ a b w, I1 a w → b = a + 20 → b ≤ n → Calls Try.prog 57 #[sl, .int .i64 (a : Nat), .int .i64 (b : Nat), .func (.func g) #[] cb] w fun e w' => e = .returned (.tuple #[]) ∧ I1 b w'
  h2 : ∀ a w, I1 a w → a ≤ n → n < a + 20 → Calls Try.prog 57 #[sl, .int .i64 (a : Nat), .int .i64 (n : Nat), .func (.func g) #[] cb] w fun e w' => e = .returned (.tuple #[]) ∧ I2 20 w'
  h3 : ∀ s w, I2 s w → s < n → I3 s 0 w
  h4 : ∀ s a m b w, I3 s a w → m = a + s → b = m + s → b ≤ n → Calls Try.prog 58 #[sl, .int .i64 (a : Nat), .int .i64 (m : Nat), .int .i64 (b : Nat), .func (.func g) #[] cb] w fun e w' => e = .returned (.tuple #[]) ∧ I3 s b w'
  h5 : ∀ s a m s2 w, I3 s a w → m = a + s → s2 = 2 * s → n < m + s → m < n → Calls Try.prog 58 #[sl, .int .i64 (a : Nat), .int .i64 (m : Nat), .int .i64 (n : Nat), .func (.func g) #[] cb] w fun e w' => e = .returned (.tuple #[]) ∧ I2 s2 w'
  h6 : ∀ s a m s2 w, I3 s a w → m = a + s → s2 = 2 * s → n ≤ m → I2 s2 w
  h7 : ∀ s w, I2 s w → n ≤ s → Post w
set_option maxHeartbeats 4000000 in
set_option maxRecDepth 4000 in
theorem stable_walk (g : Nat) (cb : Array Value) (sl : Value) (n : Nat) (I1 : Nat → World → Prop) (I2 : Nat → World → Prop) (I3 : Nat → Nat → World → Prop) (Post : World → Prop) (H : Steps g cb sl n I1 I2 I3 Post) (hn : n < 1152921504606846976) (w : World) (h0 : I1 0 w) :
    Calls Try.prog 43 #[sl, .int .i64 (n : Nat), .func (.func g) #[] cb] w fun e w' => e = .returned (.tuple #[]) ∧ Post w' := by
  have HS := Lib.hid H
  have X0 := Lib.hid h0
  clear H h0
  go_enter Try.func43, Try.ntmps43
  go_wp2
  go_loopg [7, 8] n (fun g1 va vb wr => ∃ (a b : Nat), va = .int .i64 a ∧ vb = .int .i64 b ∧ b = a + 20 ∧ a ≤ n ∧ n - a ≤ g1 ∧ Hid (I1 a wr))
  case atStart => exact ⟨0, 20, by go_num, by go_num, rfl, by omega, by omega, X0⟩
  case round =>
    clear X0
    obtain ⟨a, b, rfl, rfl, hab, han, hg1, X1⟩ := hrel
    by_cases hc : b ≤ n
    · have hcz : (b : Int) ≤ (n : Int) := by omega
      have XC := Lib.hid (HS.out.h1 a b wr X1.out hab hc)
      obtain ⟨b2, hb2⟩ : ∃ b2, b2 = b + 20 := ⟨_, rfl⟩
      have HAB := Lib.hid hab
      clear X1 hab
      go_wp2_with fail
      refine XC.out.mono ?_
      rintro e w1 ⟨rfl, hX⟩
      have X2 := Lib.hid hX
      clear hX XC
      go_wp2_with fail
      go_roundg (n - b)
      case measure => have := HAB.out; omega
      case rel => exact ⟨b, b2, rfl, by congr 1; omega, hb2, hc, Nat.le_refl _, X2⟩
    · have hcz : ¬ (b : Int) ≤ (n : Int) := by omega
      have XC := Lib.hid (HS.out.h2 a wr X1.out han (by omega))
      clear X1
      go_wp2_with fail
      refine XC.out.mono ?_
      rintro e w1 ⟨rfl, hX⟩
      have X2 := Lib.hid hX
      clear hX XC hcz hc hab han hg1
      go_wp2_with fail
      go_loopg [6] n (fun g1 vs wr => ∃ (s : Nat), vs = .int .i64 s ∧ 20 ≤ s ∧ (n - s ≤ g1) ∧ Hid (I2 s wr))
      case atStart => exact ⟨20, by go_num, Nat.le_refl _, by omega, X2⟩
      case round =>
        clear X2
        obtain ⟨s, rfl, hs20, hg1, X1⟩ := hrel
        by_cases hsn : s < n
        · have hsz : (s : Int) < (n : Int) := by omega
          obtain ⟨s2, hs2⟩ : ∃ s2, s2 = 2 * s := ⟨_, rfl⟩
          have HS2 := Lib.hid hs2
          clear hs2
          have q2 : 2 * (s : Int) < 4611686018427387904 := by omega
          have q3 : (s : Int) * 2 < 4611686018427387904 := by omega
          have X3 := Lib.hid (HS.out.h3 s wr X1.out hsn)
          clear X1
          go_wp2_with fail
          go_loopg [7, 8] n (fun g2 va vb wr => ∃ (a b : Nat), va = .int .i64 a ∧ vb = .int .i64 b ∧ b = a + 2 * s ∧ a ≤ n ∧ n - a ≤ g2 ∧ Hid (I3 s a wr))
          case atStart => exact ⟨0, s2, by go_num, by have h := HS2.out; congr 1; omega, by have h := HS2.out; omega, by omega, by omega, X3⟩
          case round =>
            clear X3
            obtain ⟨a, b, rfl, rfl, hab, han, hg2, X1⟩ := hrel
            obtain ⟨m, hm⟩ : ∃ m, m = a + s := ⟨_, rfl⟩
            have em2 : (a : Int) + (s : Int) < 4611686018427387904 := by omega
            have HEM : Hid ((a : Int) + (s : Int) = (m : Int)) := by show _ = _; omega
            by_cases hc : b ≤ n
            · have hcz : (b : Int) ≤ (n : Int) := by omega
              have XC := Lib.hid (HS.out.h4 s a m b wr X1.out hm (by omega) hc)
              obtain ⟨b2, hb2⟩ : ∃ b2, b2 = b + 2 * s := ⟨_, rfl⟩
              have q4 : (b : Int) + 2 * (s : Int) < 4611686018427387904 := by omega
              have HAB := Lib.hid (And.intro hab (And.intro hs20 hb2))
              clear X1 hab hb2 hm
              go_wp2_with fail
              rw [HEM.out]
              refine XC.out.mono ?_
              rintro e w1 ⟨rfl, hX⟩
              have X2 := Lib.hid hX
              clear hX XC
              go_wp2_with fail
              go_roundg (n - b)
              case measure => have := HAB.out; omega
              case rel => exact ⟨b, b2, rfl, by have h := HAB.out.2.2; congr 1; omega, HAB.out.2.2, hc, Nat.le_refl _, X2⟩
            · have hcz : ¬ (b : Int) ≤ (n : Int) := by omega
              have hnm : n < m + s := by omega
              clear hab
              by_cases hmn : m < n
              · have hmz : (m : Int) < (n : Int) := by omega
                have XC := Lib.hid (HS.out.h5 s a m s2 wr X1.out hm HS2.out hnm hmn)
                have hmz2 : (a : Int) + (s : Int) < (n : Int) := by omega
                have hmz3 : a + s < n := by omega
                clear X1 hm hnm
                go_wp2_with fail
                rw [HEM.out]
                refine XC.out.mono ?_
                rintro e w1 ⟨rfl, hX⟩
                have X2 := Lib.hid hX
                clear hX XC
                go_wp2_with fail
                go_roundg (n - s2)
                case measure => have h := HS2.out; omega
                case rel => exact ⟨s2, by have h := HS2.out; congr 1; omega, by have h := HS2.out; omega, Nat.le_refl _, X2⟩
              · have hmz : ¬ (m : Int) < (n : Int) := by omega
                have X2 := Lib.hid (HS.out.h6 s a m s2 wr X1.out hm HS2.out (by omega))
                have hmz2 : ¬ (a : Int) + (s : Int) < (n : Int) := by omega
                have hmz3 : ¬ a + s < n := by omega
                clear X1 hm hnm
                go_wp2_with fail
                go_roundg (n - s2)
                case measure => have h := HS2.out; omega
                case rel => exact ⟨s2, by have h := HS2.out; congr 1; omega, by have h := HS2.out; omega, Nat.le_refl _, X2⟩
        · have hsz : ¬ (s : Int) < (n : Int) := by omega
          have X2 := Lib.hid (HS.out.h7 s wr X1.out (by omega))
          clear X1
          go_wp2_with fail
          go_end0
          exact ⟨rfl, X2.out⟩
end Go.Proofs.Ytogdnolkheifcaa.Given

/- Plain laws over whole numbers and lists: PureStable. -/
namespace Go.Proofs.Ytogdnolkheifcaa.Pure
open Go.RowKit Go.Proofs.Ytogdnolkheifcaa.Base Go.Proofs.Ytogdnolkheifcaa.Given Go.Proofs.YtogdnolkheifcaaW.PrintWords Go.Proofs.YtogdnolkheifcaaW.PrintLast Go.Proofs.YtogdnolkheifcaaW.PrintMore
set_option linter.unusedVariables false
set_option linter.unusedSimpArgs false
section
variable {α : Type} {key rk : α → Int}
def RK (rk : α → Int) (X Y : List α) : Prop := ∀ x ∈ X, ∀ y ∈ Y, rk x < rk y
def Full (key rk : α → Int) (s : Nat) (Cs : List (List α)) : Prop := ∀ C ∈ Cs, C.length = s ∧ C.Pairwise (lexlt key rk)
theorem flat_len {s : Nat} : ∀ {Cs : List (List α)}, (∀ C ∈ Cs, C.length = s) → Cs.flatten.length = Cs.length * s
  | [], _ => by simp
  | C :: Cs, h => by
    have ih := flat_len (Cs := Cs) fun D hD => h D (by simp [hD])
    rw [List.flatten_cons, List.length_append, ih, h C (by simp), List.length_cons, Nat.succ_mul]; omega
theorem pw_merge {P Q : List (List α)} {X Y W : List α} (h : (P ++ X :: Y :: Q).Pairwise (RK rk)) (hW : W.Perm (X ++ Y)) : (P ++ W :: Q).Pairwise (RK rk) := by
  rw [List.pairwise_append, List.pairwise_cons, List.pairwise_cons] at h
  obtain ⟨h1, ⟨h2, h3, h4⟩, h5⟩ := h
  have hm : ∀ x, x ∈ W → x ∈ X ∨ x ∈ Y := fun x hx => List.mem_append.1 (hW.mem_iff.1 hx)
  rw [List.pairwise_append, List.pairwise_cons]
  refine ⟨h1, ⟨fun Z hZ x hx y hy => ?_, h4⟩, fun Z hZ Z' hZ' => ?_⟩
  · rcases hm x hx with h | h
    · exact h2 Z (by simp [hZ]) x h y hy
    · exact h3 Z hZ x h y hy
  · rcases List.mem_cons.1 hZ' with rfl | hZ'
    · intro x hx y hy
      rcases hm y hy with h | h
      · exact h5 Z hZ X (by simp) x hx y h
      · exact h5 Z hZ Y (by simp) x hx y h
    · exact h5 Z hZ Z' (by simp [hZ'])
theorem pw_split {P : List (List α)} {X Y : List α} (h : (P ++ [X ++ Y]).Pairwise (RK rk)) (hXY : RK rk X Y) {W : List α} (hW : W.Perm X) : (P ++ W :: [Y]).Pairwise (RK rk) := by
  rw [List.pairwise_append] at h ⊢
  obtain ⟨h1, _, h5⟩ := h
  refine ⟨h1, ?_, fun Z hZ Z' hZ' x hx y hy => ?_⟩
  · rw [List.pairwise_cons]
    refine ⟨fun Z hZ x hx y hy => ?_, by simp⟩
    rw [List.mem_singleton] at hZ
    subst hZ
    exact hXY x (hW.mem_iff.1 hx) y hy
  · have := h5 Z hZ (X ++ Y) (by simp) x hx y
    rcases List.mem_cons.1 hZ' with rfl | hZ'
    · exact this (List.mem_append_left _ (hW.mem_iff.1 hy))
    · rw [List.mem_singleton] at hZ'
      subst hZ'
      exact this (List.mem_append_right _ hy)
/-- The insertion sort of a part. -/
theorem insert_part [Inhabited α] {lt : α → α → Bool} (hlt : ∀ x y, lt x y = decide (key x < key y)) (Pre X Post : List α) (hX : X.Pairwise (fun a b => rk a < rk b)) :
    ∃ W, W.Perm X ∧ W.Pairwise (lexlt key rk) ∧ Go.Sort.insertionSort lt (Pre ++ (X ++ Post)).toArray Pre.length (Pre.length + X.length) = (Pre ++ (W ++ Post)).toArray := by
  refine ⟨(isort lt [] X).reverse, ?_, ?_, ?_⟩
  · refine (List.reverse_perm _).trans ?_
    simpa using isort_perm lt X []
  · rw [List.pairwise_reverse]
    exact isort_desc hlt _ _ List.Pairwise.nil hX (fun y hy => absurd hy (by simp))
  · have := insertion_list lt X Pre Post
    simpa using this
end
end Go.Proofs.Ytogdnolkheifcaa.Pure

/- slices.stableCmpFunc sorts, stably. -/
namespace Go.Proofs.Ytogdnolkheifcaa.Given
open Go.RowKit Go.Shelf Go.Lib Go.Sort Go.Proofs.YtogdnolkheifcaaW.PrintWords Go.Proofs.YtogdnolkheifcaaW.PrintLast Go.Proofs.YtogdnolkheifcaaW.PrintMore Go.Proofs.Ytogdnolkheifcaa.Base Go.Proofs.Ytogdnolkheifcaa.Pure
set_option linter.unusedVariables false
set_option linter.unusedSimpArgs false
variable {α : Type} [Inhabited α]

theorem ins_at (enc : α → Value) (cf : α → α → Int) (key rk : α → Int) (hlt : ∀ x y, ltOf cf x y = decide (key x < key y)) (g : Nat) (cb : Array Value) (blk off cap n : Nat) (d0 : Array α) (w0 w : World) (eg : ∀ args w, (callFunc g args).run Try.prog w = .ok (.enter g args) w) (hcmp : CmpLays1 Try.prog g cb enc cf blk off n w0) (R : Row1 enc w0 blk off d0) (hs0 : d0.size = n) (hsz : n < 1152921504606846976)
    (Pre X Post : List α) (a b : Nat) (ha : a = Pre.length) (hb : b = Pre.length + X.length) (hN : (Pre ++ (X ++ Post)).length = n) (hX : X.Pairwise (fun a b => rk a < rk b)) (S : SW enc w0 blk off (Pre ++ (X ++ Post)).toArray w) :
    Calls Try.prog 57 #[.slice (some ⟨blk, off, none⟩) n cap, .int .i64 (a : Nat), .int .i64 (b : Nat), .func (.func g) #[] cb] w fun e w' => e = .returned (.tuple #[]) ∧ ∃ W : List α, W.Perm X ∧ W.Pairwise (lexlt key rk) ∧ SW enc w0 blk off (Pre ++ (W ++ Post)).toArray w' := by
  obtain ⟨W, w1, w2, w3⟩ := insert_part hlt Pre X Post hX
  have hsd : (Pre ++ (X ++ Post)).toArray.size = n := by rw [List.size_toArray]; exact hN
  have hbn : b ≤ n := by rw [hb, ← hN]; simp only [List.length_append]; omega
  have hab : a ≤ b := by omega
  have hz : n < 4611686018427387904 := by omega
  subst ha
  subst hb
  generalize hd : (Pre ++ (X ++ Post)).toArray = d at *
  subst hsd
  refine (Try.insertionSortCmpFunc_s enc cf g cb blk off cap Pre.length (Pre.length + X.length) d0 d w0 w eg (by rw [hs0]; exact hcmp) R hs0 S hab hbn hz).mono ?_
  rintro e w' ⟨he, hS⟩
  rw [w3] at hS
  exact ⟨he, W, w1, w2, hS⟩
set_option maxHeartbeats 2000000 in
theorem stable_calls (enc : α → Value) (cf : α → α → Int) (key rk : α → Int) (hk : ∀ x y, cf x y < 0 ↔ key x < key y) (g : Nat) (cb : Array Value) (blk off cap n : Nat) (L : List α) (w0 : World) (eg : ∀ args w, (callFunc g args).run Try.prog w = .ok (.enter g args) w) (hcmp : CmpLays1 Try.prog g cb enc cf blk off n w0) (R : Row1 enc w0 blk off L.toArray) (hn : L.length = n) (hsz : n < 1152921504606846976) (hL : L.Pairwise (fun a b => rk a < rk b)) :
    Calls Try.prog 43 #[.slice (some ⟨blk, off, none⟩) n cap, .int .i64 (n : Nat), .func (.func g) #[] cb] w0 fun e w' => e = .returned (.tuple #[]) ∧ ∃ W : List α, W.Perm L ∧ W.Pairwise (lexlt key rk) ∧ SW enc w0 blk off W.toArray w' := by
  have hlt : ∀ x y, ltOf cf x y = decide (key x < key y) := fun x y => by
    unfold ltOf
    exact decide_eq_decide.2 (hk x y)
  have hs0 : L.toArray.size = n := by rw [List.size_toArray]; exact hn
  have ins := fun w => ins_at enc cf key rk hlt g cb blk off cap n L.toArray w0 w eg hcmp R hs0 hsz
  have sym := sym_calls enc cf key rk hk g cb blk off cap n L.toArray w0 eg hcmp R hs0 hsz
  refine stable_walk g cb (.slice (some ⟨blk, off, none⟩) n cap) n
    (fun a w => ∃ (Cs : List (List α)) (X : List α), Full key rk 20 Cs ∧ (Cs ++ [X]).Pairwise (RK rk) ∧ X.Pairwise (fun a b => rk a < rk b) ∧ Cs.flatten.length = a ∧ (Cs.flatten ++ X).Perm L ∧ SW enc w0 blk off (Cs.flatten ++ X).toArray w)
    (fun s w => ∃ (Cs : List (List α)) (T : List α), Full key rk s Cs ∧ (Cs ++ [T]).Pairwise (RK rk) ∧ T.length < s ∧ T.Pairwise (lexlt key rk) ∧ (Cs.flatten ++ T).Perm L ∧ SW enc w0 blk off (Cs.flatten ++ T).toArray w)
    (fun s a w => 0 < s ∧ ∃ (Es Cs : List (List α)) (T : List α), Full key rk (2 * s) Es ∧ Full key rk s Cs ∧ (Es ++ (Cs ++ [T])).Pairwise (RK rk) ∧ T.length < s ∧ T.Pairwise (lexlt key rk) ∧ Es.flatten.length = a ∧ (Es.flatten ++ (Cs.flatten ++ T)).Perm L ∧ SW enc w0 blk off (Es.flatten ++ (Cs.flatten ++ T)).toArray w)
    _ ⟨?_, ?_, ?_, ?_, ?_, ?_, ?_⟩ hsz w0 ⟨[], L, fun C hC => by simp at hC, by simp, hL, rfl, by simp, by simpa using SW.start R.hH⟩
  · rintro a b w ⟨Cs, X, hF, hR, hX, hl, hp, hS⟩ hb hbn
    have hlen := hp.length_eq
    rw [List.length_append, hn, hl] at hlen
    obtain ⟨X1, X2, e, h1⟩ : ∃ X1 X2, X1 ++ X2 = X ∧ X1.length = 20 := ⟨X.take 20, X.drop 20, List.take_append_drop _ _, by rw [List.length_take]; omega⟩
    subst e
    have hXp := List.pairwise_append.1 hX
    have hlen2 : (Cs.flatten ++ (X1 ++ X2)).length = n := by rw [hp.length_eq, hn]
    refine (ins w Cs.flatten X1 X2 a b hl.symm (by omega) hlen2 hXp.1 hS).mono ?_
    rintro e w' ⟨rfl, W, w1, w2, hS'⟩
    refine ⟨rfl, Cs ++ [W], X2, ?_, ?_, hXp.2.1, ?_, ?_, ?_⟩
    · intro C hC
      rcases List.mem_append.1 hC with h | h
      · exact hF C h
      · rw [List.mem_singleton] at h; subst h
        exact ⟨by rw [w1.length_eq]; exact h1, w2⟩
    · have := pw_split hR hXp.2.2 w1
      simpa using this
    · simp [w1.length_eq]; simp at hl; omega
    · refine List.Perm.trans ?_ hp
      simpa using List.Perm.append_left _ (List.Perm.append_right _ w1)
    · exact sw_of hS' (by simp)
  · rintro a w ⟨Cs, X, hF, hR, hX, hl, hp, hS⟩ han hna
    have hlen := hp.length_eq
    rw [List.length_append, hn, hl] at hlen
    have hlen2 : (Cs.flatten ++ (X ++ [])).length = n := by rw [List.append_nil, hp.length_eq, hn]
    have hS2 : SW enc w0 blk off (Cs.flatten ++ (X ++ [])).toArray w := sw_of hS (by simp)
    refine (ins w Cs.flatten X [] a n hl.symm (by omega) hlen2 hX hS2).mono ?_
    rintro e w' ⟨rfl, W, w1, w2, hS'⟩
    refine ⟨rfl, Cs, W, hF, ?_, ?_, w2, ?_, sw_of hS' (by simp)⟩
    · have hR2 : (Cs ++ [X ++ []]).Pairwise (RK rk) := by simpa using hR
      have := pw_split hR2 (fun x hx y hy => by simp at hy) w1
      rw [List.pairwise_append] at this ⊢
      exact ⟨this.1, by simp, fun Z hZ Z' hZ' => this.2.2 Z hZ Z' (by rw [List.mem_singleton] at hZ'; simp [hZ'])⟩
    · rw [w1.length_eq]; omega
    · exact (List.Perm.append_left _ w1).trans hp
  · rintro s w ⟨Cs, T, hF, hR, hT, hTs, hp, hS⟩ hsn
    exact ⟨by omega, [], Cs, T, fun C hC => by simp at hC, hF, by simpa using hR, hT, hTs, rfl, by simpa using hp, by simpa using hS⟩
  · rintro s a m b w ⟨hs, Es, Cs, T, hE, hF, hR, hT, hTs, hl, hp, hS⟩ hm hb hbn
    have hlen := hp.length_eq
    rw [List.length_append, List.length_append, hn, hl, flat_len (fun C hC => (hF C hC).1)] at hlen
    match Cs, hF, hR, hp, hS, hlen with
    | [], hF, hR, hp, hS, hlen => simp at hlen; omega
    | [C], hF, hR, hp, hS, hlen => simp at hlen; omega
    | C :: C' :: Cs, hF, hR, hp, hS, hlen =>
      have f1 := hF C (by simp)
      have f2 := hF C' (by simp)
      have hR2 := hR
      rw [List.pairwise_append] at hR2
      have hMer : Mer key rk C C' := ⟨f1.2, f2.2, by
        have := hR2.2.1
        simp only [List.cons_append, List.pairwise_cons] at this
        exact this.1 C' (by simp)⟩
      have hS2 : SW enc w0 blk off (Es.flatten ++ (C ++ (C' ++ (Cs.flatten ++ T)))).toArray w := sw_of hS (by simp)
      have hlen2 : (Es.flatten ++ (C ++ (C' ++ (Cs.flatten ++ T)))).length = n := by rw [← hn, ← hp.length_eq]; simp
      refine (sym _ Es.flatten C C' (Cs.flatten ++ T) a m b w (Nat.le_refl _) (by omega) (by omega) hMer hlen2 hl.symm (by omega) (by omega) hS2).mono ?_
      rintro e w' ⟨rfl, W, w1, w2, hS'⟩
      refine ⟨rfl, hs, Es ++ [W], Cs, T, ?_, fun D hD => hF D (by simp [hD]), ?_, hT, hTs, ?_, ?_, sw_of hS' (by simp)⟩
      · intro D hD
        rcases List.mem_append.1 hD with h | h
        · exact hE D h
        · rw [List.mem_singleton] at h; subst h
          exact ⟨by rw [w1.length_eq, List.length_append]; omega, w2⟩
      · have hR3 : (Es ++ C :: C' :: (Cs ++ [T])).Pairwise (RK rk) := by simpa using hR
        have := pw_merge hR3 w1
        simpa using this
      · simp only [List.flatten_append, List.length_append, hl, List.flatten_cons, List.flatten_nil, List.append_nil, w1.length_eq]; omega
      · refine List.Perm.trans ?_ hp
        have := List.Perm.append_left Es.flatten (List.Perm.append_right (Cs.flatten ++ T) w1)
        simpa using this
  · rintro s a m s2 w ⟨hs, Es, Cs, T, hE, hF, hR, hT, hTs, hl, hp, hS⟩ hm hs2 hnm hmn
    have hlen := hp.length_eq
    rw [List.length_append, List.length_append, hn, hl, flat_len (fun C hC => (hF C hC).1)] at hlen
    match Cs, hF, hR, hp, hS, hlen with
    | [], hF, hR, hp, hS, hlen => simp at hlen; omega
    | C :: C' :: Cs, hF, hR, hp, hS, hlen => simp only [List.length_cons, Nat.succ_mul] at hlen; omega
    | [C], hF, hR, hp, hS, hlen =>
      simp at hlen
      have f1 := hF C (by simp)
      have hR2 := hR
      rw [List.pairwise_append] at hR2
      have hMer : Mer key rk C T := ⟨f1.2, hTs, by
        have := hR2.2.1
        simp only [List.cons_append, List.pairwise_cons] at this
        exact this.1 T (by simp)⟩
      have hS2 : SW enc w0 blk off (Es.flatten ++ (C ++ (T ++ []))).toArray w := sw_of hS (by simp)
      have hlen2 : (Es.flatten ++ (C ++ (T ++ []))).length = n := by rw [← hn, ← hp.length_eq]; simp
      refine (sym _ Es.flatten C T [] a m n w (Nat.le_refl _) (by omega) (by omega) hMer hlen2 hl.symm (by omega) (by omega) hS2).mono ?_
      rintro e w' ⟨rfl, W, w1, w2, hS'⟩
      refine ⟨rfl, Es, W, by rw [hs2]; exact hE, ?_, ?_, w2, ?_, sw_of hS' (by simp)⟩
      · have hR3 : (Es ++ C :: T :: []).Pairwise (RK rk) := by simpa using hR
        exact pw_merge hR3 w1
      · rw [w1.length_eq, List.length_append]; omega
      · refine List.Perm.trans ?_ hp
        have := List.Perm.append_left Es.flatten w1
        simpa using this
  · rintro s a m s2 w ⟨hs, Es, Cs, T, hE, hF, hR, hT, hTs, hl, hp, hS⟩ hm hs2 hnm
    have hlen := hp.length_eq
    rw [List.length_append, List.length_append, hn, hl, flat_len (fun C hC => (hF C hC).1)] at hlen
    match Cs, hF, hR, hp, hS, hlen with
    | C :: C' :: Cs, hF, hR, hp, hS, hlen => simp only [List.length_cons, Nat.succ_mul] at hlen; omega
    | [], hF, hR, hp, hS, hlen => exact ⟨Es, T, by rw [hs2]; exact hE, by simpa using hR, by omega, hTs, by simpa using hp, by simpa using hS⟩
    | [C], hF, hR, hp, hS, hlen =>
      simp at hlen
      have hT0 : T = [] := List.eq_nil_of_length_eq_zero (by omega)
      subst hT0
      have f1 := hF C (by simp)
      refine ⟨Es, C, by rw [hs2]; exact hE, ?_, by omega, f1.2, by simpa using hp, by simpa using hS⟩
      refine hR.sublist ?_
      simp
  · rintro s w ⟨Cs, T, hF, hR, hT, hTs, hp, hS⟩ hns
    have hlen := hp.length_eq
    rw [List.length_append, hn, flat_len (fun C hC => (hF C hC).1)] at hlen
    match Cs, hF, hR, hp, hS, hlen with
    | C :: C' :: Cs, hF, hR, hp, hS, hlen => simp only [List.length_cons, Nat.succ_mul] at hlen; omega
    | [], hF, hR, hp, hS, hlen => exact ⟨T, by simpa using hp, hTs, by simpa using hS⟩
    | [C], hF, hR, hp, hS, hlen =>
      simp at hlen
      have hT0 : T = [] := List.eq_nil_of_length_eq_zero (by omega)
      subst hT0
      exact ⟨C, by simpa using hp, (hF C (by simp)).2, by simpa using hS⟩
end Go.Proofs.Ytogdnolkheifcaa.Given

/- The stable sort of segments by their counts, of any length. -/
namespace Go.Proofs.Ytogdnolkheifcaa.Given
open Go.RowKit Go.Shelf Go.Lib Go.Sort Go.Proofs.YtogdnolkheifcaaW.PrintWords Go.Proofs.YtogdnolkheifcaaW.PrintLast Go.Proofs.YtogdnolkheifcaaW.PrintMore Go.Proofs.Ytogdnolkheifcaa.Base Go.Proofs.Ytogdnolkheifcaa.Pure
set_option linter.unusedVariables false
set_option linter.unusedSimpArgs false

set_option maxHeartbeats 1000000 in
theorem sortStable_of {ad : Addr} {n cap g : Nat} {cb : Array Value} {w : World} (w_ : World) (Q : World → Prop) (h : Calls Try.prog 43 #[.slice (some ad) n cap, .int .i64 (n : Nat), .func (.func g) #[] cb] w fun e w' => e = .returned (.tuple #[]) ∧ Q w') :
    Calls Try.prog 32 #[.slice (some ad) n cap, .func (.func g) #[] cb] w fun e w' => e = .returned (.tuple #[]) ∧ Q w' := by
  have HI := Lib.hid h
  clear h
  go_enter Try.func32, Try.ntmps32
  go_wp2_with (go_at_call 43; refine HI.out.mono ?_; rintro e w1 ⟨rfl, hS⟩; have H1 := Lib.hid hS; clear hS)
  go_end0
  exact ⟨rfl, H1.out⟩
theorem vsort_all (wd W : World) (Bc c1 : Nat) (A1 : Option Addr) (cs : List Int) (A : Option Addr) (n c : Nat) (L : List Int) (hO : OI W wd.heap.size A n c L) (hL : L.Pairwise (· < ·)) (hr : ∀ x ∈ L, 0 ≤ x ∧ x < (cs.length : Int)) (hW : CmpW wd Bc A1 c1 cs W) (hn : n < 1152921504606846976) :
    Calls Try.prog 32 #[.slice A n c, .func (.func 33) #[] #[.pointer (some ⟨Bc, 0, none⟩)]] W fun e w' => e = .returned (.tuple #[]) ∧ OI w' wd.heap.size A n c (sortL cs L) ∧ Below wd.heap.size W w' ∧ W.grownBy w' (Value.slice A n c).ownBlock := by
  have hl := hO.len
  rcases Nat.eq_zero_or_pos n with h0 | h0
  · subst h0
    have hx := List.eq_nil_of_length_eq_zero hl
    subst hx
    refine (sortStable0 A c _ _ W).mono ?_
    rintro e w' ⟨rfl, rfl⟩
    refine ⟨rfl, ?_, Below.refl _ _, World.grownBy.refl _ _⟩
    have : sortL cs [] = [] := by unfold sortL; simp
    rw [this]; exact hO
  · obtain ⟨g, rfl, hg, hlt⟩ := hO.form h0
    obtain ⟨m, hm⟩ : ∃ m, cs.length = m + 1 := by
      cases L with
      | nil => simp at hl; omega
      | cons x L => have := hr x (by simp); exact ⟨cs.length - 1, by omega⟩
    have hr' : ∀ x ∈ L, 0 ≤ x ∧ x < (m : Int) + 1 := fun x hx => by have := hr x hx; omega
    have hne : Bc ≠ g := by
      intro e
      have h1 := hW.c
      rw [e] at h1
      exact blk_not_row h1 (by decide) hO (by simp [Value.ownBlock])
    have hH : Holds (encF (m + 1)) W g 0 (L.map (toF m)).toArray := by
      intro j hj
      have hj' : j < n := by rw [← hl]; simpa using hj
      have hjl : j < L.length := by omega
      have h5 := own_at_of (d := (0 : Int)) hO (j : Int) (by omega) (by omega)
      rw [Int.toNat_natCast] at h5
      rw [Nat.zero_add]
      refine ⟨h5.1.trans ?_, h5.2⟩
      simp only [rdOf, Int.toNat_natCast]
      rw [getElem!_pos (L.map (toF m)).toArray j hj]
      have h6 := hr' L[j] (List.getElem_mem hjl)
      simp only [List.getElem_toArray, List.getElem_map, encF]
      rw [toF_val h6.1 h6.2, List.getD_eq_getElem?_getD, List.getElem?_eq_getElem hjl]; rfl
    have hlF : (L.map (toF m)).length = n := by rw [List.length_map]; exact hl
    have hR : Row1 (encF (m + 1)) W g 0 (L.map (toF m)).toArray := ⟨fun x => rfl, hH, hlt⟩
    have hrk : (L.map (toF m)).Pairwise (fun a b : Fin (m + 1) => (a.val : Int) < (b.val : Int)) := by
      rw [List.pairwise_map]
      refine hL.imp_of_mem ?_
      intro a b ha hb hab
      rw [toF_val (hr' a ha).1 (hr' a ha).2, toF_val (hr' b hb).1 (hr' b hb).2]
      exact hab
    have hk : ∀ x y : Fin (m + 1), cmpF cs (m + 1) x y < 0 ↔ cs.getD x.val 0 < cs.getD y.val 0 := fun x y => by
      have h := ltF_eq cs (m + 1) x y
      unfold ltOf at h
      exact decide_eq_decide.1 h
    have hst := stable_calls (encF (m + 1)) (cmpF cs (m + 1)) (fun i => cs.getD i.val 0) (fun i => (i.val : Int)) hk 33 #[.pointer (some ⟨Bc, 0, none⟩)] g 0 c n (L.map (toF m)) W (enters_of Try.func33 (by kernel_rfl) rfl) (cmp_lays wd W Bc c1 g A1 cs hm hW hg hne 0 _) hR hlF hn hrk
    refine (sortStable_of W _ hst).mono ?_
    rintro e w' ⟨rfl, M, hp, hs, hS⟩
    have hMs := fin_back hr' hL hp hs
    obtain ⟨h1, h2, h3⟩ := row_back hW.below.size hO hg hMs (by rw [(sortL_perm cs L).length_eq]; exact hl) hS
    exact ⟨rfl, h1, h2, h3⟩
end Go.Proofs.Ytogdnolkheifcaa.Given

/- The contract of usage.Victims: by hand. -/
namespace Go.Proofs.Ytogdnolkheifcaa.Given
open Go.RowKit Go.Shelf Go.Proofs.YtogdnolkheifcaaW.PrintWords Go.Proofs.YtogdnolkheifcaaW.PrintLast Go.Proofs.YtogdnolkheifcaaW.PrintMore Go.Proofs.Ytogdnolkheifcaa.Base Go.Proofs.Ytogdnolkheifcaa.Pure
set_option linter.unusedVariables false
set_option linter.unusedSimpArgs false
attribute [local go_sem] Oper.semAt_some

/-- The segments in use. -/
def vs (p : List (Nat × Int)) : List Int := (p.filter fun q => decide (0 < q.2)).map fun q => (q.1 : Int)
theorem vs_hit (p : List (Nat × Int)) {x : Nat × Int} (h : 0 < x.2) : vs (p ++ [x]) = vs p ++ [(x.1 : Int)] := by simp [vs, h]
theorem vs_miss (p : List (Nat × Int)) {x : Nat × Int} (h : ¬ 0 < x.2) : vs (p ++ [x]) = vs p := by simp [vs, h]
theorem vs_len (p : List (Nat × Int)) : (vs p).length ≤ p.length := by
  unfold vs
  have := List.length_filter_le (fun q : Nat × Int => decide (0 < q.2)) p
  simpa using this
theorem vs_own (n₀ B : Nat) : Own (fun (pre : List (Nat × Int)) W => ∃ v, Boxed W B 24 v ∧ W.ownsRow n₀ 3 1 v (vs pre).length (encs (Value.int .i64) (vs pre)) ∧ True) :=
  holdsRow_own n₀ B 24 3 1 (fun pre => (vs pre).length) (fun pre => encs (Value.int .i64) (vs pre)) (fun _ _ => True)
/-- As many of the list's segments as there is room for. -/
def cutP (cs : List Int) : Int → List Int → List Int
  | _, [] => []
  | room, s :: l => if room < cs.getD s.toNat 0 then [] else s :: cutP cs (room - cs.getD s.toNat 0) l
theorem cutP_at (cs : List Int) (room : Int) (M : List Int) (j : Nat) (h : j < M.length) : cutP cs room (M.drop j) = if room < cs.getD (M.getD j 0).toNat 0 then [] else M.getD j 0 :: cutP cs (room - cs.getD (M.getD j 0).toNat 0) (M.drop (j + 1)) := by
  have e : M.drop j = M.getD j 0 :: M.drop (j + 1) := by
    rw [List.getD_eq_getElem?_getD, List.getElem?_eq_getElem h]
    exact List.drop_eq_getElem_cons h
  rw [e]; rfl
/-- What the cleaner takes. -/
def vicL (cs tk : List Int) (D : Int) (S : Nat) : List Int := cutP cs D (sortL cs (vs (segP cs tk S)))
def two (l : List Int) : List Int := if l.length < 2 then [] else l
theorem mem_vs {cs tk : List Int} {S : Nat} {x : Int} (h : x ∈ vs (segP cs tk S)) : ∃ s : Nat, x = s ∧ s < S ∧ ¬ (s : Int) ∈ tk ∧ 0 < cs.getD s 0 ∧ s < cs.length := by
  simp only [vs, segP, List.mem_map, List.mem_filter, List.mem_range, decide_eq_true_eq] at h
  obtain ⟨q, ⟨⟨s, ⟨h1, h2⟩, rfl⟩, h3⟩, rfl⟩ := h
  refine ⟨s, rfl, h1, h2, h3, ?_⟩
  rcases Nat.lt_or_ge s cs.length with h | h
  · exact h
  · rw [List.getD_eq_getElem?_getD, List.getElem?_eq_none h] at h3
    exact absurd h3 (by simp)
theorem vs_rises (cs tk : List Int) (S : Nat) : (vs (segP cs tk S)).Pairwise (· < ·) := by
  unfold vs segP
  rw [List.pairwise_map]
  refine List.Pairwise.filter _ ?_
  rw [List.pairwise_map]
  refine List.Pairwise.filter _ ?_
  exact List.pairwise_lt_range.imp fun h => by show ((_ : Nat) : Int) < _; omega
theorem SegW.row {wd W W' : World} {d r s : Int} {Bg Bc Bt n₀ k : Nat} {Ac At : Option Addr} {nc cc nt ct : Nat} {v : Value} {xs : List Value} (h : SegW wd d r s Bg Bc Bt Ac nc cc At nt ct W) (hrow : W.ownsRow n₀ 3 1 v k xs) (hg : W.grownBy W' v.ownBlock) (hb : Below wd.heap.size W W') : SegW wd d r s Bg Bc Bt Ac nc cc At nt ct W' :=
  h.kp ⟨hb, hg.block _ (Array.getElem?_eq_some_iff.1 h.g).1 (blk_not_row h.g (by decide) hrow), hg.block _ h.c.lt (blk_not_row h.c (by decide) hrow), hg.block _ h.t.lt (blk_not_row h.t (by decide) hrow)⟩
theorem deferred_row {W W' : World} {D n₀ k : Nat} {e : TypeId} {v : Value} {xs : List Value} {o : Obj} (h : W.heap[D]? = some o) (hrow : W.ownsRow n₀ e 1 v k xs) (hg : W.grownBy W' v.ownBlock) (ho : o.isCells = false := by rfl) : W'.heap[D]? = some o := by
  rw [hg.block D (Array.getElem?_eq_some_iff.1 h).1 ?_]
  · exact h
  · rcases hrow.2 with ⟨rfl, _⟩ | ⟨g, cap, cur, rfl, _, hh, _⟩
    · simp [Value.ownBlock]
    · intro he
      have : D = g := by simpa [Value.ownBlock] using he
      subst this
      rw [h] at hh
      injection hh with hh
      subst hh
      cases ho
theorem segW_first (d r s : Int) (A1 : Option Addr) (n1 c1 : Nat) (wd : World) : SegW wd d r s wd.heap.size (wd.heap.size + 1) (wd.heap.size + 1) A1 n1 c1 A1 n1 c1 ((wd.alloc (.cells #[.int .i64 d, .int .i64 r, .int .i64 s] 23)).alloc (.cells #[.slice A1 n1 c1] 24)) := by
  have g0 := World.alloc_heap_new wd (.cells #[.int .i64 d, .int .i64 r, .int .i64 s] 23)
  have b1 : Below (wd.heap.size + 1) (wd.alloc (.cells #[.int .i64 d, .int .i64 r, .int .i64 s] 23)) ((wd.alloc (.cells #[.int .i64 d, .int .i64 r, .int .i64 s] 23)).alloc (.cells #[.slice A1 n1 c1] 24)) := (Below.refl _ _).alloc (by simp) _
  have c0 := Boxed.new (wd.alloc (.cells #[.int .i64 d, .int .i64 r, .int .i64 s] 23)) 24 (.slice A1 n1 c1)
  simp only [World.size_alloc] at c0
  refine ⟨?_, ?_, c0, c0⟩
  · exact ((Below.refl _ wd).alloc (Nat.le_refl _) _).alloc (by simp) _
  · rw [b1.block _ (by omega)]; exact g0
set_option maxRecDepth 100000 in
set_option maxHeartbeats 4000000 in
theorem vic_yes (d r : Int) (S : Nat) (A1 A2 : Option Addr) (c1 c2 : Nat) (cs tk : List Int) (wd : World) (hg : GR d r (S : Int)) (h1 : Kd.C (Kd.int .i64) wd A1 cs.length cs) (h2 : Kd.C (Kd.int .i64) wd A2 tk.length tk) :
    Calls Try.prog 17 #[.agg #[.int .i64 d, .int .i64 r, .int .i64 S], .slice A1 cs.length c1, .slice A2 tk.length c2] wd fun e w' => ∃ v0 : Value, e = .returned v0 ∧ Kd.R (Kd.int .i64) 3 w' wd.heap.size (fun _ => True) v0 (two (vicL cs tk (pl d r) S)) ∧ Below wd.heap.size wd w' := by
  have HS : Hid (S ≤ 64) := by show S ≤ 64; have := hg.1.s1; omega
  obtain ⟨i0, hi, hz0, hz1, hz2⟩ := info_parts infoInt1
  refine (callsIn_wide (n := 3)).1 ?_
  refine callsIn_of_wp_marks Try.func17 rfl trivial ?_ rfl
  simp only [Try.ntmps17, List.size_toArray, List.length_cons, List.length_nil, Nat.reduceAdd, Nat.reduceSub, Array.replicate_succ, Array.replicate_zero, List.push_toArray, List.append_toArray, List.nil_append, List.cons_append]
  gi_wp2_with (refine ⟨trivial, ?_⟩; gi_at_call 30; refine (callsIn_wide.2 (segments_calls d r S _ _ _ A1 A2 _ _ c1 c2 rfl rfl)).mono ?_; rintro e w' ⟨rfl, rfl⟩)
  have hB1 : Below wd.heap.size wd (((wd.alloc (.cells #[.int .i64 d, .int .i64 r, .int .i64 S] 23)).alloc (.cells #[.slice A1 cs.length c1] 24)).alloc (.cells #[.slice none 0 0] 24)) := (((Below.refl _ wd).alloc (Nat.le_refl _) _).alloc (by simp) _).alloc (by simp; omega) _
  have hSW := segW_new d r S A1 A2 cs.length c1 tk.length c2 hB1 (wd.heap.size + 3) (by simp)
  have hO : Boxed (((wd.alloc (.cells #[.int .i64 d, .int .i64 r, .int .i64 S] 23)).alloc (.cells #[.slice A1 cs.length c1] 24)).alloc (.cells #[.slice none 0 0] 24)) (wd.heap.size + 2) 24 (.slice none 0 0) := by
    have h := Boxed.new ((wd.alloc (.cells #[.int .i64 d, .int .i64 r, .int .i64 S] 23)).alloc (.cells #[.slice A1 cs.length c1] 24)) 24 (.slice none 0 0)
    rw [World.size_alloc, World.size_alloc] at h
    exact h
  have hO2 := ((hO.alloc (.cells #[.int .i64 d, .int .i64 r, .int .i64 S] 23)).alloc (.cells #[.slice A1 cs.length c1] 24)).alloc (.cells #[.slice A2 tk.length c2] 24)
  have hS0 := segW_first d r S A1 cs.length c1 wd
  have hS2 := hS0.step (W' := (((((wd.alloc (.cells #[.int .i64 d, .int .i64 r, .int .i64 S] 23)).alloc (.cells #[.slice A1 cs.length c1] 24)).alloc (.cells #[.slice none 0 0] 24)).alloc (.cells #[.int .i64 d, .int .i64 r, .int .i64 S] 23)).alloc (.cells #[.slice A1 cs.length c1] 24)).alloc (.cells #[.slice A2 tk.length c2] 24)) (((((Below.refl _ _).alloc (Nat.le_refl _) _).alloc (by simp) _).alloc (by simp) _).alloc (by simp) _)
  obtain ⟨W0, hW0⟩ : ∃ W0, (((((wd.alloc (.cells #[.int .i64 d, .int .i64 r, .int .i64 S] 23)).alloc (.cells #[.slice A1 cs.length c1] 24)).alloc (.cells #[.slice none 0 0] 24)).alloc (.cells #[.int .i64 d, .int .i64 r, .int .i64 S] 23)).alloc (.cells #[.slice A1 cs.length c1] 24)).alloc (.cells #[.slice A2 tk.length c2] 24) = W0 := ⟨_, rfl⟩
  have hsz : W0.heap.size = wd.heap.size + 6 := by rw [← hW0]; simp
  rw [hW0] at hSW hO2 hS2 ⊢
  refine wpIn_rangeFunc_ownG (w0 := W0) rfl (by decide) (gf := 41) (lb := #[.pointer (some ⟨wd.heap.size + 3, 0, none⟩), .pointer (some ⟨wd.heap.size + 4, 0, none⟩), .pointer (some ⟨wd.heap.size + 5, 0, none⟩)]) rfl trivial (enters_of Try.func41 (by kernel_rfl) rfl)
    (segs_stops 2 d r S (wd.heap.size + 3) (wd.heap.size + 4) (wd.heap.size + 5) A1 A2 c1 c2 cs tk hg (KpS wd.heap.size (wd.heap.size + 3) (wd.heap.size + 4) (wd.heap.size + 5)) (SegW wd d r S (wd.heap.size + 3) (wd.heap.size + 4) (wd.heap.size + 5) A1 cs.length c1 A2 tk.length c2) (fun W h => h.env h1 h2) (fun W W' h k => h.kp k) (fun W W' h k => h.step k) W0 hSW)
    KpS.trans (fun W l o o' hl hw _ _ => KpS.put (B := W0.heap.size) (by omega) (by omega) (by omega) (by omega) W l o o' hl hw) (Below.refl _ _) (fun _ => rfl)
    (fun pre W => (∃ v, Boxed W (wd.heap.size + 2) 24 v ∧ W.ownsRow wd.heap.size 3 1 v (vs pre).length (encs (Value.int .i64) (vs pre)) ∧ True) ∧ SegW wd d r S (wd.heap.size + 3) (wd.heap.size + 4) (wd.heap.size + 5) A1 cs.length c1 A2 tk.length c2 W ∧ SegW wd d r S wd.heap.size (wd.heap.size + 1) (wd.heap.size + 1) A1 cs.length c1 A1 cs.length c1 W)
    (fun _ _ _ => False)
    (OwnFrom.and (Own.from (vs_own _ _) _) (OwnFrom.and (fun _ W W' row hs hg hr => by
      refine hs.kp ⟨(Below.refl _ W).grown hg hs.below.size (fun k e => by have := (hr k e).1; omega), ?_, ?_, ?_⟩
      · exact hg.block _ (Array.getElem?_eq_some_iff.1 hs.g).1 (fun e => by have := (hr _ e.symm).1; omega)
      · exact hg.block _ hs.c.lt (fun e => by have := (hr _ e.symm).1; omega)
      · exact hg.block _ hs.t.lt (fun e => by have := (hr _ e.symm).1; omega)) (fun _ W W' row hs hg hr => by
      refine hs.kp ⟨(Below.refl _ W).grown hg hs.below.size (fun k e => by have := (hr k e).1; omega), ?_, ?_, ?_⟩
      · exact hg.block _ (Array.getElem?_eq_some_iff.1 hs.g).1 (fun e => by have := (hr _ e.symm).1; omega)
      · exact hg.block _ hs.c.lt (fun e => by have := (hr _ e.symm).1; omega)
      · exact hg.block _ hs.t.lt (fun e => by have := (hr _ e.symm).1; omega))))
    (fun _ _ _ _ _ hs _ _ => hs)
    ⟨⟨_, hO2, World.ownsRow_nil _ _ _ _, trivial⟩, hSW, hS2⟩
    (fun x => { tmps := #[.agg #[.int .i64 d, .int .i64 r, .int .i64 S], .slice A1 cs.length c1, .slice A2 tk.length c2, .pointer (some ⟨wd.heap.size, 0, none⟩), .pointer (some ⟨wd.heap.size + 1, 0, none⟩), undef, .slice none 0 0, .pointer (some ⟨wd.heap.size + 2, 0, none⟩), .int .i64 (x.1 : Int), .int .i64 x.2, undef, undef, undef, .agg #[.int .i64 d, .int .i64 r, .int .i64 S], .slice A1 cs.length c1, .slice A2 tk.length c2, .func (.func 41) #[] #[.pointer (some ⟨wd.heap.size + 3, 0, none⟩), .pointer (some ⟨wd.heap.size + 4, 0, none⟩), .pointer (some ⟨wd.heap.size + 5, 0, none⟩)], .int .i64 (x.1 : Int), .int .i64 x.2, undef, undef, undef, undef, undef, undef, undef, undef, undef, undef, undef, undef, undef, undef, undef, undef, undef, undef, undef, undef, undef, undef, undef, undef, undef, undef, undef, undef, undef, undef, undef, undef, undef, undef, undef, undef, undef, undef], defers := [] }) ?assign ?body ?done ?stop
  case assign =>
    intro l x W K hK
    gi_wp2
    exact hK
  case body =>
    rintro l pre x W ⟨⟨v, hv, hrow, _⟩, hSW, hS2⟩ hlt
    have hc := hv.cell
    have hpl := vs_len pre
    have hS := HS.out
    by_cases hx : 0 < x.2
    · have hxb : decide (0 < x.2) = true := decide_eq_true hx
      have HX := Lib.hid hx
      gi_wp2_with (gi_at_builtin; refine wpListIn_append_own _ rfl _ _ 24 rfl wd.heap.size 3 i0 (.int .i64 0) 1 8 Try.underlying24 hi hz0 hz1 hz2 rfl (by decide) _ _ _ rfl (hrow.alloc _) ⟨W.heap.size, 0, none⟩ 1 1 [.int .i64 (x.1 : Int)] rfl rfl (cell_one_new _ _ _) (by simp [Value.oneCell']) (by unfold maxLen; omega) (by omega) (by have := hSW.below.size; simp; omega) ?_; intro v' w1 hown' hgrow _; obtain ⟨g', cap', rfl⟩ := ownsRow_succ hown'; obtain ⟨hv1, hv2, hr2, hk2, hb2⟩ := hv.appended (by decide) hrow hSW.below.size (by omega) hown' hgrow; have hKP := KpS.app hSW hrow hgrow hb2 (by omega) (by omega) (by omega); have hKP2 := KpS.app hS2 hrow hgrow hb2 (by omega) (by omega) (by omega); have hc1 := hv1.cell; have hf1 := hv1.frozen)
      refine ⟨hk2.from _, hKP, ⟨_, hv2, ?_, trivial⟩, hSW.kp hKP, hS2.kp hKP2⟩
      rw [vs_hit pre HX.out, List.length_append, encs_append]
      exact hr2
    · have hxb : decide (0 < x.2) = false := decide_eq_false hx
      have hxc : x.2 ≤ 0 := by omega
      have HX := Lib.hid hx
      clear hx
      gi_wp2
      refine ⟨KeepsFrom.refl _ _, KpS.refl _ _ _ _ _, ⟨v, hv, ?_⟩, hSW, hS2⟩
      rw [vs_miss pre (by have := HX.out; omega)]
      first | exact hrow | exact ⟨hrow, trivial⟩
  case done =>
    rintro D ys W hD rfl ⟨⟨v, hv, hrow, _⟩, hSW, hS2⟩ hK
    obtain ⟨A, c, rfl, _⟩ := own_reads_of (d := (0 : Int)) hrow
    have hc := hv.cell
    have hmost : (vs (segP cs tk S)).length < 1152921504606846976 := by
      have h := vs_len (segP cs tk S); have h2 := segP_len cs tk S; have h3 := HS.out; omega
    have hcw : CmpW wd (wd.heap.size + 1) A1 c1 cs W := ⟨hS2.below, hS2.c, h1⟩
    have hrl : ∀ x ∈ vs (segP cs tk S), 0 ≤ x ∧ x < (cs.length : Int) := fun x hx => by
      obtain ⟨s, rfl, _, _, _, hs⟩ := mem_vs hx
      omega
    gi_wp2_with (refine ⟨trivial, ?_⟩; gi_at_call 32; refine (callsIn_wide.2 (vsort_all wd W (wd.heap.size + 1) c1 A1 cs A _ c (vs (segP cs tk S)) hrow (vs_rises cs tk S) hrl hcw hmost)).mono ?_; rintro e w3 ⟨rfl, hO3, hB3, hG3⟩; have hS3 := hS2.row hrow hG3 hB3; have hv3 : Boxed w3 (wd.heap.size + 2) 24 _ := hv.kept hG3 (hv.not_row (by decide) hrow); have hK3 := deferred_row hK hrow hG3; have hc3 := hv3.cell; have hg0 : w3.cell? ⟨wd.heap.size, 0, none⟩ = some (.int .i64 d) := (blk_cell hS3.g 0).trans rfl; have hg1 : w3.cell? ⟨wd.heap.size, 1, none⟩ = some (.int .i64 r) := (blk_cell hS3.g 1).trans rfl; have hg2 : w3.cell? ⟨wd.heap.size, 2, none⟩ = some (.int .i64 S) := (blk_cell hS3.g 2).trans rfl)
    have HO3 := Lib.hid hO3
    have HS3 := Lib.hid hS3
    have HV3 := Lib.hid hv3
    have HK3 := Lib.hid hK3
    have hD6 : wd.heap.size + 6 ≤ D := by omega
    have hl3 : (vs (segP cs tk S)).length ≤ 64 := by have h := vs_len (segP cs tk S); have h2 := segP_len cs tk S; have h3 := HS.out; omega
    obtain ⟨M, hM⟩ : ∃ M, sortL cs (vs (segP cs tk S)) = M := ⟨_, rfl⟩
    have HM := Lib.hid hM
    have HMm : Hid (∀ x ∈ M, ∃ s : Nat, x = s ∧ s < cs.length ∧ 0 < cs.getD s 0) := by
      intro x hx
      rw [← hM] at hx
      obtain ⟨s, e, _, _, h3, h4⟩ := mem_vs ((sortL_perm _ _).mem_iff.1 hx)
      exact ⟨s, e, h4, h3⟩
    obtain ⟨n, hn⟩ : ∃ n, (vs (segP cs tk S)).length = n := ⟨_, rfl⟩
    have HN : Hid (M.length = n) := by show _ = _; rw [← hM, (sortL_perm _ _).length_eq, hn]
    rw [hM, hn] at HO3
    rw [hn] at HV3 hc3 hl3 ⊢
    have HP := Lib.hid (Places_pos hg)
    have hpb := pl_bd hg.1
    obtain ⟨P, hP⟩ : ∃ P, pl d r = P := ⟨_, rfl⟩
    rw [hP] at HP hpb
    have hp1 := hpb.1
    have hp2 := hpb.2
    have HPP := Lib.hid hP
    clear hM hn hO3 hS3 hv3 hK3 hB3 hG3 hrl hcw hc hv hrow hSW hS2 hK hg hP hpb hmost
    gi_wp2_with (refine ⟨trivial, ?_⟩; gi_at_call 21; refine (callsIn_wide.2 (geo_Places.calls d r S P _ HP.out)).mono ?_; rintro e w4 ⟨rfl, hB4⟩; have HO4 := Lib.hid (HO3.out.below hB4); have HS4 := Lib.hid (HS3.out.step hB4); have HV4 : Hid (Boxed w4 _ _ _) := Lib.hid (blk_below HV3.out hB4); have HK4 := Lib.hid ((hB4.block D (Array.getElem?_eq_some_iff.1 HK3.out).1).trans HK3.out); have hc4 := HV4.out.cell; clear hB4)
    have hcap : n ≤ c := HO4.out.C.2
    clear HO3 HS3 HV3 HK3 hc3 hg0 hg1 hg2
    gi_loopw [10, 32] (fun rm i wr => ∃ (j : Nat) (x : Int), j ≤ n ∧ i = .int .i64 j ∧ rm = .int .i64 x ∧ 0 ≤ x ∧ x ≤ 59 ∧ Hid (cutP cs P M = M.take j ++ cutP cs x (M.drop j)) ∧ w4 = wr) (fun _ i _ => n - (intOf i).toNat)
    case atStart => exact ⟨0, P, Nat.zero_le _, rfl, rfl, by omega, hp2, Lib.hid (by simp), rfl⟩
    case round =>
      obtain ⟨j, x, hj, rfl, rfl, hx0, hx1, HCU, rfl⟩ := hrel
      by_cases hlt : j < n
      · obtain ⟨g, hA, _, _⟩ := HO4.out.form (by omega)
        subst hA
        have hcell := (own_at_of (d := (0 : Int)) HO4.out (j : Int) (by omega) (by omega)).1
        simp only [rdOf, Int.toNat_natCast] at hcell
        have hmem : M.getD j 0 ∈ M := by
          rw [List.getD_eq_getElem?_getD, List.getElem?_eq_getElem (by rw [HN.out]; exact hlt)]
          exact List.getElem_mem _
        obtain ⟨s, hs, hsl, hsp⟩ := HMm.out _ hmem
        rw [hs] at hcell
        have HCU2 := cutP_at cs x M j (by rw [HN.out]; exact hlt)
        rw [hs, Int.toNat_natCast] at HCU2
        have HTK : Hid (M.take (j + 1) = M.take j ++ [(s : Int)]) := by
          show _ = _
          rw [List.take_succ_eq_append_getElem (by rw [HN.out]; exact hlt), ← hs, List.getD_eq_getElem?_getD, List.getElem?_eq_getElem (by rw [HN.out]; exact hlt)]; rfl
        have hbc := HS4.out.c.cell
        have hbf := HV4.out.frozen
        obtain ⟨b, off, hA1, hcl⟩ := addr_of_C (Kd.C_below h1 HS4.out.below) (by omega)
        subst hA1
        have hcell2 := hcl s hsl
        have hcl2 : (cs.length : Int) ≤ 9223372036854775807 := by have := (Kd.reads_of_C (d := (0 : Int)) h1).2.1; omega
        obtain ⟨y, hy⟩ : ∃ y, cs.getD s 0 = y := ⟨_, rfl⟩
        rw [hy] at hcell2 hsp HCU2
        have HCU3 := Lib.hid HCU2
        have hsl' : (s : Int) < (cs.length : Int) := by omega
        have hjc : j ≤ c := by omega
        clear hcl hmem hs HCU2 hy
        by_cases hxy : x < y
        · have HFIN : Hid (vicL cs tk P S = M.take j) := by
            show _ = _
            unfold vicL
            rw [HM.out, HCU.out, HCU3.out, if_pos hxy, List.append_nil]
          have HOJ := Lib.hid (own_cut HO4.out hj)
          have HJL : Hid ((M.take j).length = j) := by show _ = _; rw [List.length_take, HN.out]; omega
          have HK5 := Lib.hid ((KeepsOthers.setCell w4 ⟨wd.heap.size + 2, 0, none⟩ (.slice (some ⟨g, 0, none⟩) j c)).same D _ HK4.out rfl)
          have HB5 := Lib.hid (below_set' HS4.out.below (wd.heap.size + 2) 0 (by omega) (.slice (some ⟨g, 0, none⟩) j c))
          have HO5 : Hid (OI (w4.setCell ⟨wd.heap.size + 2, 0, none⟩ (.slice (some ⟨g, 0, none⟩) j c)) wd.heap.size (some ⟨g, 0, none⟩) j c (M.take j)) := OI.other HOJ.out (grownBy_setCell' w4 (wd.heap.size + 2) _) (fun g' e he => by cases e; cases he; exact (HV4.out.not_row (by decide) HO4.out) rfl)
          by_cases h2j : j < 2
          · gi_wp2
            refine ⟨by simp, .inl ⟨_, _, rfl, run_takeDeferred (HK5.out), ?_⟩⟩
            refine ⟨_, results_tmp rfl _ _ _, _, rfl, ?_, (HB5.out).trans (belowK_b (w := wd) (Nat.le_refl _) _ D _ _ (by omega) (HK5.out) rfl rfl)⟩
            rw [HPP.out, HFIN.out]; unfold two; rw [if_pos (by rw [HJL.out]; exact h2j)]; exact Kd.R_nil _ _ _ _ _
          · gi_wp2
            refine ⟨by simp, .inl ⟨_, _, rfl, run_takeDeferred (HK5.out), ?_⟩⟩
            refine ⟨_, results_tmp rfl _ _ _, _, rfl, ?_, (HB5.out).trans (belowK_b (w := wd) (Nat.le_refl _) _ D _ _ (by omega) (HK5.out) rfl rfl)⟩
            rw [HPP.out, HFIN.out]; unfold two; rw [if_neg (by rw [HJL.out]; exact h2j)]; exact Kd.R_of_own (by rw [HJL.out]; exact ownsRow_putObj HO5.out _ HK5.out rfl) (fun _ _ => trivial)
        · have hxy' : y ≤ x := by omega
          gi_wp2
          go_roundw
          case rel =>
            refine ⟨j + 1, x - y, by omega, by go_num, rfl, by omega, by omega, ?_, trivial⟩
            show _ = _
            rw [HCU.out, HCU3.out, if_neg hxy, HTK.out, List.append_assoc]; first | rfl | trivial
          case measure => simp [intOf]; omega
      · have hjn : j = n := by omega
        subst hjn
        have HFIN : Hid (vicL cs tk P S = M) := by
          show _ = _
          unfold vicL
          rw [HM.out, HCU.out, ← HN.out, List.take_length, List.drop_length]
          simp [cutP]
        by_cases h2j : j < 2
        · gi_wp2
          refine ⟨by simp, .inl ⟨_, _, rfl, run_takeDeferred (HK4.out), ?_⟩⟩
          refine ⟨_, results_tmp rfl _ _ _, _, rfl, ?_, (HS4.out.below).trans (belowK_b (w := wd) (Nat.le_refl _) _ D _ _ (by omega) (HK4.out) rfl rfl)⟩
          rw [HPP.out, HFIN.out]; unfold two; rw [if_pos (by rw [HN.out]; exact h2j)]; exact Kd.R_nil _ _ _ _ _
        · gi_wp2
          refine ⟨by simp, .inl ⟨_, _, rfl, run_takeDeferred (HK4.out), ?_⟩⟩
          refine ⟨_, results_tmp rfl _ _ _, _, rfl, ?_, (HS4.out.below).trans (belowK_b (w := wd) (Nat.le_refl _) _ D _ _ (by omega) (HK4.out) rfl rfl)⟩
          rw [HPP.out, HFIN.out]; unfold two; rw [if_neg (by rw [HN.out]; exact h2j)]; exact Kd.R_of_own (by rw [HN.out]; exact ownsRow_putObj HO4.out _ HK4.out rfl) (fun _ _ => trivial)
  case stop =>
    rintro D c pre W _ _ h _
    exact h.elim
set_option maxRecDepth 100000 in
set_option maxHeartbeats 4000000 in
theorem vic_no (d r S : Int) (A1 A2 : Option Addr) (c1 c2 : Nat) (cs tk : List Int) (wd : World) (hg : ¬ GR d r S) (h1 : Kd.C (Kd.int .i64) wd A1 cs.length cs) (h2 : Kd.C (Kd.int .i64) wd A2 tk.length tk) :
    Calls Try.prog 17 #[.agg #[.int .i64 d, .int .i64 r, .int .i64 S], .slice A1 cs.length c1, .slice A2 tk.length c2] wd fun e w' => ∃ v0 : Value, e = .returned v0 ∧ Kd.R (Kd.int .i64) 3 w' wd.heap.size (fun _ => True) v0 ([] : List Int) ∧ Below wd.heap.size wd w' := by
  obtain ⟨i0, hi, hz0, hz1, hz2⟩ := info_parts infoInt1
  refine (callsIn_wide (n := 3)).1 ?_
  refine callsIn_of_wp_marks Try.func17 rfl trivial ?_ rfl
  simp only [Try.ntmps17, List.size_toArray, List.length_cons, List.length_nil, Nat.reduceAdd, Nat.reduceSub, Array.replicate_succ, Array.replicate_zero, List.push_toArray, List.append_toArray, List.nil_append, List.cons_append]
  gi_wp2_with (refine ⟨trivial, ?_⟩; gi_at_call 30; refine (callsIn_wide.2 (segments_calls d r S _ _ _ A1 A2 _ _ c1 c2 rfl rfl)).mono ?_; rintro e w' ⟨rfl, rfl⟩)
  have hB1 : Below wd.heap.size wd (((wd.alloc (.cells #[.int .i64 d, .int .i64 r, .int .i64 S] 23)).alloc (.cells #[.slice A1 cs.length c1] 24)).alloc (.cells #[.slice none 0 0] 24)) := (((Below.refl _ wd).alloc (Nat.le_refl _) _).alloc (by simp) _).alloc (by simp; omega) _
  have hSW := segW_new d r S A1 A2 cs.length c1 tk.length c2 hB1 (wd.heap.size + 3) (by simp)
  have hO : Boxed (((wd.alloc (.cells #[.int .i64 d, .int .i64 r, .int .i64 S] 23)).alloc (.cells #[.slice A1 cs.length c1] 24)).alloc (.cells #[.slice none 0 0] 24)) (wd.heap.size + 2) 24 (.slice none 0 0) := by
    have h := Boxed.new ((wd.alloc (.cells #[.int .i64 d, .int .i64 r, .int .i64 S] 23)).alloc (.cells #[.slice A1 cs.length c1] 24)) 24 (.slice none 0 0)
    rw [World.size_alloc, World.size_alloc] at h
    exact h
  have hO2 := ((hO.alloc (.cells #[.int .i64 d, .int .i64 r, .int .i64 S] 23)).alloc (.cells #[.slice A1 cs.length c1] 24)).alloc (.cells #[.slice A2 tk.length c2] 24)
  have hS0 := segW_first d r S A1 cs.length c1 wd
  have hS2 := hS0.step (W' := (((((wd.alloc (.cells #[.int .i64 d, .int .i64 r, .int .i64 S] 23)).alloc (.cells #[.slice A1 cs.length c1] 24)).alloc (.cells #[.slice none 0 0] 24)).alloc (.cells #[.int .i64 d, .int .i64 r, .int .i64 S] 23)).alloc (.cells #[.slice A1 cs.length c1] 24)).alloc (.cells #[.slice A2 tk.length c2] 24)) (((((Below.refl _ _).alloc (Nat.le_refl _) _).alloc (by simp) _).alloc (by simp) _).alloc (by simp) _)
  obtain ⟨W0, hW0⟩ : ∃ W0, (((((wd.alloc (.cells #[.int .i64 d, .int .i64 r, .int .i64 S] 23)).alloc (.cells #[.slice A1 cs.length c1] 24)).alloc (.cells #[.slice none 0 0] 24)).alloc (.cells #[.int .i64 d, .int .i64 r, .int .i64 S] 23)).alloc (.cells #[.slice A1 cs.length c1] 24)).alloc (.cells #[.slice A2 tk.length c2] 24) = W0 := ⟨_, rfl⟩
  have hsz : W0.heap.size = wd.heap.size + 6 := by rw [← hW0]; simp
  rw [hW0] at hSW hO2 hS2 ⊢
  refine wpIn_rangeFunc_ownG (w0 := W0) rfl (by decide) (gf := 41) (lb := #[.pointer (some ⟨wd.heap.size + 3, 0, none⟩), .pointer (some ⟨wd.heap.size + 4, 0, none⟩), .pointer (some ⟨wd.heap.size + 5, 0, none⟩)]) rfl trivial (enters_of Try.func41 (by kernel_rfl) rfl)
    (segs_stops_no 2 d r S (wd.heap.size + 3) (wd.heap.size + 4) (wd.heap.size + 5) A1 A2 c1 c2 cs tk hg (KpS wd.heap.size (wd.heap.size + 3) (wd.heap.size + 4) (wd.heap.size + 5)) W0 (hSW.env h1 h2))
    KpS.trans (fun W l o o' hl hw _ _ => KpS.put (B := W0.heap.size) (by omega) (by omega) (by omega) (by omega) W l o o' hl hw) (Below.refl _ _) (fun _ => rfl)
    (fun pre W => (∃ v, Boxed W (wd.heap.size + 2) 24 v ∧ W.ownsRow wd.heap.size 3 1 v (vs pre).length (encs (Value.int .i64) (vs pre)) ∧ True) ∧ SegW wd d r S (wd.heap.size + 3) (wd.heap.size + 4) (wd.heap.size + 5) A1 cs.length c1 A2 tk.length c2 W ∧ SegW wd d r S wd.heap.size (wd.heap.size + 1) (wd.heap.size + 1) A1 cs.length c1 A1 cs.length c1 W)
    (fun _ _ _ => False)
    (OwnFrom.and (Own.from (vs_own _ _) _) (OwnFrom.and (fun _ W W' row hs hg hr => by
      refine hs.kp ⟨(Below.refl _ W).grown hg hs.below.size (fun k e => by have := (hr k e).1; omega), ?_, ?_, ?_⟩
      · exact hg.block _ (Array.getElem?_eq_some_iff.1 hs.g).1 (fun e => by have := (hr _ e.symm).1; omega)
      · exact hg.block _ hs.c.lt (fun e => by have := (hr _ e.symm).1; omega)
      · exact hg.block _ hs.t.lt (fun e => by have := (hr _ e.symm).1; omega)) (fun _ W W' row hs hg hr => by
      refine hs.kp ⟨(Below.refl _ W).grown hg hs.below.size (fun k e => by have := (hr k e).1; omega), ?_, ?_, ?_⟩
      · exact hg.block _ (Array.getElem?_eq_some_iff.1 hs.g).1 (fun e => by have := (hr _ e.symm).1; omega)
      · exact hg.block _ hs.c.lt (fun e => by have := (hr _ e.symm).1; omega)
      · exact hg.block _ hs.t.lt (fun e => by have := (hr _ e.symm).1; omega))))
    (fun _ _ _ _ _ hs _ _ => hs)
    ⟨⟨_, hO2, World.ownsRow_nil _ _ _ _, trivial⟩, hSW, hS2⟩
    (fun x => { tmps := #[.agg #[.int .i64 d, .int .i64 r, .int .i64 S], .slice A1 cs.length c1, .slice A2 tk.length c2, .pointer (some ⟨wd.heap.size, 0, none⟩), .pointer (some ⟨wd.heap.size + 1, 0, none⟩), undef, .slice none 0 0, .pointer (some ⟨wd.heap.size + 2, 0, none⟩), .int .i64 (x.1 : Int), .int .i64 x.2, undef, undef, undef, .agg #[.int .i64 d, .int .i64 r, .int .i64 S], .slice A1 cs.length c1, .slice A2 tk.length c2, .func (.func 41) #[] #[.pointer (some ⟨wd.heap.size + 3, 0, none⟩), .pointer (some ⟨wd.heap.size + 4, 0, none⟩), .pointer (some ⟨wd.heap.size + 5, 0, none⟩)], .int .i64 (x.1 : Int), .int .i64 x.2, undef, undef, undef, undef, undef, undef, undef, undef, undef, undef, undef, undef, undef, undef, undef, undef, undef, undef, undef, undef, undef, undef, undef, undef, undef, undef, undef, undef, undef, undef, undef, undef, undef, undef, undef, undef, undef, undef], defers := [] }) ?assign ?body ?done ?stop
  case assign =>
    intro l x W K hK
    gi_wp2
    exact hK
  case body =>
    rintro l pre x W _ hlt
    exact absurd hlt (Nat.not_lt_zero _)
  case done =>
    rintro D ys W hD rfl ⟨⟨v, hv, hrow, _⟩, hSW, hS2⟩ hK
    obtain ⟨A, c, rfl, _⟩ := own_reads_of (d := (0 : Int)) hrow
    have hc := hv.cell
    have hvs : (vs ([] : List (Nat × Int))).length = 0 := rfl
    rw [hvs] at hc hv
    have hg0 : W.cell? ⟨wd.heap.size, 0, none⟩ = some (.int .i64 d) := (blk_cell hS2.g 0).trans rfl
    have hg1 : W.cell? ⟨wd.heap.size, 1, none⟩ = some (.int .i64 r) := (blk_cell hS2.g 1).trans rfl
    have hg2 : W.cell? ⟨wd.heap.size, 2, none⟩ = some (.int .i64 S) := (blk_cell hS2.g 2).trans rfl
    gi_wp2_with (refine ⟨trivial, ?_⟩; gi_at_call 32; refine (callsIn_wide.2 (sortStable0 A c _ _ W)).mono ?_; rintro e w3 ⟨rfl, rfl⟩)
    have HS3 := Lib.hid hS2
    have HK3 := Lib.hid hK
    have HV3 := Lib.hid hv
    have HP := Lib.hid (Places_neg hg)
    clear hc hv hrow hSW hS2 hK hg hvs
    gi_wp2_with (refine ⟨trivial, ?_⟩; gi_at_call 21; refine (callsIn_wide.2 (geo_Places.calls d r S 0 _ HP.out)).mono ?_; rintro e w4 ⟨rfl, hB4⟩; have HB4 := Lib.hid (HS3.out.step hB4).below; have HK4 := Lib.hid ((hB4.block D (Array.getElem?_eq_some_iff.1 HK3.out).1).trans HK3.out); have HV4 : Hid (Boxed w4 _ _ _) := Lib.hid (blk_below HV3.out hB4); have hc4 := HV4.out.cell; clear hB4)
    gi_loopw [10, 32] (fun rm i wr => i = .int .i64 0 ∧ w4 = wr) (fun _ i _ => 1 - (intOf i).toNat)
    case atStart => exact ⟨rfl, rfl⟩
    case round =>
      obtain ⟨rfl, rfl⟩ := hrel
      gi_wp2
      refine ⟨by simp, .inl ⟨_, _, rfl, run_takeDeferred (HK4.out), ?_⟩⟩
      refine ⟨_, results_tmp rfl _ _ _, _, rfl, ?_, (HB4.out).trans (belowK_b (w := wd) (Nat.le_refl _) _ D _ _ (by omega) (HK4.out) rfl rfl)⟩
      exact Kd.R_nil _ _ _ _ _
  case stop =>
    rintro D c pre W _ _ h _
    exact h.elim
open Classical in
noncomputable def usage_Victims.f (d r s : Int) (cs tk : List Int) : Option (List Int) := some (if GR d r s then two (vicL cs tk (pl d r) s.toNat) else [])
theorem usage_Victims.calls (d r s : Int) (A1 : Option Addr) (c1 : Nat) (cs : List Int) (A2 : Option Addr) (c2 : Nat) (tk : List Int) (r1 : List Int) (w : World) (h1 : Kd.C (Kd.int .i64) w A1 cs.length cs) (hc1 : cs.length ≤ c1) (h2 : Kd.C (Kd.int .i64) w A2 tk.length tk) (hc2 : tk.length ≤ c2) (h : usage_Victims.f d r s cs tk = some r1) :
    Calls Try.prog 17 #[.agg #[.int .i64 d, .int .i64 r, .int .i64 s], .slice A1 cs.length c1, .slice A2 tk.length c2] w fun e w' => ∃ v0_ : Value, e = .returned v0_ ∧ Kd.R (Kd.int .i64) 3 w' w.heap.size (fun _ => True) v0_ r1 ∧ Below w.heap.size w w' := by
  have h := Option.some.inj h
  by_cases hg : GR d r s
  · rw [if_pos hg] at h
    subst h
    obtain ⟨S, rfl⟩ : ∃ S : Nat, s = (S : Int) := ⟨s.toNat, by have := hg.1.s0; omega⟩
    rw [Int.toNat_natCast]
    exact vic_yes d r S A1 A2 c1 c2 cs tk w hg h1 h2
  · rw [if_neg hg] at h
    subst h
    exact vic_no d r s A1 A2 c1 c2 cs tk w hg h1 h2
end Go.Proofs.Ytogdnolkheifcaa.Given
