/- Sort1: GivCmp, PureSort, GivVsort. -/
import Derived.Test.YtogdnolkheifcaaSegs1
import Derived.Deep.QuietTactic
import Derived.BigQuiet
import Derived.Shelf.SlSortCmp.Insertion1
import Derived.KernelRfl
import Derived.Laws.BitsLemmas
import Derived.Laws.BitsAllLaws
/- The comparison that usage.Victims hands to the sort, and the sort of few: by hand. -/
namespace Go.Proofs.Ytogdnolkheifcaa.Given
open Go.RowKit Go.Shelf Go.Lib Go.Sort Go.Proofs.YtogdnolkheifcaaW.PrintWords Go.Proofs.YtogdnolkheifcaaW.PrintLast Go.Proofs.YtogdnolkheifcaaW.PrintMore Go.Proofs.Ytogdnolkheifcaa.Base Go.Proofs.Ytogdnolkheifcaa.Pure
set_option linter.unusedVariables false
set_option linter.unusedSimpArgs false

set_option maxHeartbeats 1000000 in
theorem vcmp_calls (Bc : Nat) (A : Option Addr) (c : Nat) (cs : List Int) (W : World) (x y : Nat) (hx : x < cs.length) (hy : y < cs.length) (hb : W.cell? ⟨Bc, 0, none⟩ = some (.slice A cs.length c)) (hC : Kd.C (Kd.int .i64) W A cs.length cs) :
    Calls Try.prog 33 #[.int .i64 (x : Int), .int .i64 (y : Int), .pointer (some ⟨Bc, 0, none⟩)] W fun e w' => e = .returned (.int .i64 (Lib.compareInt (cs.getD x 0) (cs.getD y 0))) ∧ ∃ q, w' = W.drewN q := by
  obtain ⟨b, off, rfl, hcl⟩ := addr_of_C hC (by omega)
  have hcx := hcl x hx
  have hcy := hcl y hy
  have hln := (Kd.reads_of_C (d := (0 : Int)) hC).2.1
  obtain ⟨u, hu⟩ : ∃ u, cs.getD x 0 = u := ⟨_, rfl⟩
  obtain ⟨v, hv⟩ : ∃ v, cs.getD y 0 = v := ⟨_, rfl⟩
  rw [hu] at hcx ⊢
  rw [hv] at hcy ⊢
  have hx' : (x : Int) < (cs.length : Int) := by omega
  have hy' : (y : Int) < (cs.length : Int) := by omega
  have hx0 : (0 : Int) ≤ (x : Int) := by omega
  have hy0 : (0 : Int) ≤ (y : Int) := by omega
  have HCM : Hid (∀ k, Calls Try.prog 34 #[.int .i64 u, .int .i64 v] (W.drewN k) fun e w' => e = .returned (.int .i64 (Lib.compareInt u v)) ∧ w' = W.drewN k) := fun k => Try.cmp_Compare_int u v _
  clear hcl hu hv hC
  go_enter Try.func33, Try.ntmps33
  go_wp2
  go_quiet ((go_at_call 34; exact Calls.quiet_of_same (HCM.out _)))
  go_wp2
  go_ret
  exact ⟨rfl, _, rfl⟩
theorem grown_mapBlock (w : World) (blk : Nat) (f : Array Value → Array Value) : w.grownBy (mapBlock w blk f) (some blk) := by
  refine ⟨rfl, rfl, rfl, by simp [mapBlock], fun k hk hne => ?_⟩
  have : blk ≠ k := fun e => hne (by rw [e])
  simp [mapBlock, Array.getElem?_modify, this]
theorem grown_sort {α : Type} [Inhabited α] (enc : α → Value) (w : World) (blk off m : Nat) (dk : Array α) (os : Array Obj) : w.grownBy (sortWorld enc w blk off m dk os) (some blk) := by
  have h1 : w.grownBy (Sort.ahead w m) (some blk) := ⟨rfl, rfl, rfl, Nat.le_refl _, fun _ _ _ => rfl⟩
  have h2 : (Sort.ahead w m).grownBy (putRow enc (Sort.ahead w m) blk off dk) (some blk) := grown_mapBlock _ _ _
  exact grown_trans (grown_trans h1 h2) (grown_of_below (below_grow os) _)
/-- What the comparison knows of the world in which the sort begins. -/
structure CmpW (wd : World) (Bc : Nat) (A : Option Addr) (c : Nat) (cs : List Int) (W : World) : Prop where
  below : Below wd.heap.size wd W
  c : Boxed W Bc 24 (.slice A cs.length c)
  cc : Kd.C (Kd.int .i64) wd A cs.length cs
theorem CmpW.grown {wd W W' : World} {Bc c blk : Nat} {A : Option Addr} {cs : List Int} (h : CmpW wd Bc A c cs W) (hg : W.grownBy W' (some blk)) (h1 : wd.heap.size ≤ blk) (h2 : Bc ≠ blk) : CmpW wd Bc A c cs W' :=
  ⟨h.below.grown hg h.below.size (fun k e => by cases e; exact h1), (hg.block Bc h.c.lt (fun e => h2 (by cases e; rfl))).trans h.c, h.cc⟩
def encF (n : Nat) (i : Fin n) : Value := .int .i64 ((i.val : Nat) : Int)
def cmpF (cs : List Int) (n : Nat) (x y : Fin n) : Int := Lib.compareInt (cs.getD x.val 0) (cs.getD y.val 0)
theorem cmp_lays {m : Nat} (wd W : World) (Bc c blk : Nat) (A : Option Addr) (cs : List Int) (hn : cs.length = m + 1) (h : CmpW wd Bc A c cs W) (h1 : wd.heap.size ≤ blk) (h2 : Bc ≠ blk) (off size : Nat) :
    CmpLays1 Try.prog 33 #[.pointer (some ⟨Bc, 0, none⟩)] (encF (m + 1)) (cmpF cs (m + 1)) blk off size W := by
  intro q os dk _ x y
  have hw := h.grown (grown_sort (encF (m + 1)) W blk off q dk os) h1 h2
  refine (vcmp_calls Bc A c cs _ x.val y.val (by omega) (by omega) hw.c.cell (Kd.C_below hw.cc hw.below)).mono ?_
  rintro e w' ⟨rfl, k, rfl⟩
  exact ⟨rfl, k, #[], by rw [grow_empty]⟩

set_option maxHeartbeats 1000000 in
/-- slices.stableCmpFunc of fewer than twenty. -/
theorem stable_few {α : Type} [Inhabited α] (enc : α → Value) (cf : α → α → Int) (g : Nat) (cb : Array Value) (blk off cap : Nat) (d0 d : Array α) (w0 w : World) (eg : ∀ args w, (callFunc g args).run Try.prog w = .ok (.enter g args) w) (hcmp : CmpLays1 Try.prog g cb enc cf blk off d0.size w0) (R : Row1 enc w0 blk off d0) (hs : d0.size = d.size) (S : SW enc w0 blk off d w) (hsz : d.size < 20) :
    Calls Try.prog 43 #[.slice (some ⟨blk, off, none⟩) d.size cap, .int .i64 (d.size : Nat), .func (.func g) #[] cb] w fun e w' => e = .returned (.tuple #[]) ∧ SW enc w0 blk off (Sort.insertionSort (ltOf cf) d 0 d.size) w' := by
  have HI : Hid (∀ W, SW enc w0 blk off d W → Calls Try.prog 57 #[.slice (some ⟨blk, off, none⟩) d.size cap, .int .i64 0, .int .i64 (d.size : Nat), .func (.func g) #[] cb] W fun e w' => e = .returned (.tuple #[]) ∧ SW enc w0 blk off (Sort.insertionSort (ltOf cf) d 0 d.size) w') :=
    fun W hS => Try.insertionSortCmpFunc_s enc cf g cb blk off cap 0 d.size d0 d w0 W eg hcmp R hs hS (Nat.zero_le _) (Nat.le_refl _) (by omega)
  have HS := Lib.hid S
  clear hcmp R S
  obtain ⟨n, hn⟩ : ∃ n, d.size = n := ⟨_, rfl⟩
  have hn20 : (n : Int) < 20 := by omega
  have hd1 : decide ((20 : Int) ≤ (n : Int)) = false := decide_eq_false (by omega)
  have hd2 : decide ((20 : Int) < (n : Int)) = false := decide_eq_false (by omega)
  have HN := Lib.hid hn
  rw [hn] at HI ⊢
  clear hn
  go_enter Try.func43, Try.ntmps43
  go_wp2
  go_loopw [7, 8] (fun a b wr => a = .int .i64 0 ∧ b = .int .i64 20 ∧ w = wr) (fun _ _ _ => 0)
  case atStart => exact ⟨rfl, rfl, rfl⟩
  case round =>
    obtain ⟨rfl, rfl, rfl⟩ := hrel
    go_wp2_with (go_at_call 57; refine (HI.out _ HS.out).mono ?_; rintro e w1 ⟨rfl, hS⟩; have H1 := Lib.hid hS; clear hS)
    go_loopw [6] (fun s wr => s = .int .i64 20 ∧ w1 = wr) (fun _ _ => 0)
    case atStart => exact ⟨rfl, rfl⟩
    case round =>
      obtain ⟨rfl, rfl⟩ := hrel
      go_wp2
      go_end0
      exact ⟨rfl, H1.out⟩
theorem sortStable_few {α : Type} [Inhabited α] (enc : α → Value) (cf : α → α → Int) (g : Nat) (cb : Array Value) (blk off cap : Nat) (d : Array α) (w : World) (eg : ∀ args w, (callFunc g args).run Try.prog w = .ok (.enter g args) w) (hcmp : CmpLays1 Try.prog g cb enc cf blk off d.size w) (R : Row1 enc w blk off d) (hsz : d.size < 20) :
    Calls Try.prog 32 #[.slice (some ⟨blk, off, none⟩) d.size cap, .func (.func g) #[] cb] w fun e w' => e = .returned (.tuple #[]) ∧ SW enc w blk off (Sort.insertionSort (ltOf cf) d 0 d.size) w' := by
  have HI := Lib.hid (stable_few enc cf g cb blk off cap d d w w eg hcmp R rfl (SW.start R.hH) hsz)
  clear hcmp R
  obtain ⟨n, hn⟩ : ∃ n, d.size = n := ⟨_, rfl⟩
  rw [hn] at HI ⊢
  clear hn
  go_enter Try.func32, Try.ntmps32
  go_wp2_with (go_at_call 43; refine HI.out.mono ?_; rintro e w1 ⟨rfl, hS⟩; have H1 := Lib.hid hS; clear hS)
  go_end0
  exact ⟨rfl, H1.out⟩
end Go.Proofs.Ytogdnolkheifcaa.Given

/- Plain laws over whole numbers and lists: PureSort. -/
namespace Go.Proofs.Ytogdnolkheifcaa.Pure
open Go.RowKit Go.Proofs.Ytogdnolkheifcaa.Base Go.Proofs.YtogdnolkheifcaaW.PrintWords Go.Proofs.YtogdnolkheifcaaW.PrintLast Go.Proofs.YtogdnolkheifcaaW.PrintMore
set_option linter.unusedVariables false
set_option linter.unusedSimpArgs false
/-! the insertion sort, on lists -/
section
variable {α : Type}
theorem getA [Inhabited α] (L : List α) (y : α) (Q : List α) : (L ++ y :: Q).toArray[L.length]! = y := by
  rw [getElem!_pos _ _ (by simp)]; simp
theorem getA1 [Inhabited α] (L : List α) (y x : α) (Q : List α) : (L ++ y :: x :: Q).toArray[L.length + 1]! = x := by
  rw [getElem!_pos _ _ (by simp)]; simp
theorem swp_list [Inhabited α] (L : List α) (y x : α) (Q : List α) : Go.Sort.swp (L ++ y :: x :: Q).toArray (L.length + 1) L.length = (L ++ x :: y :: Q).toArray := by
  unfold Go.Sort.swp
  rw [getA, getA1]
  simp [List.set_append]
/-- x goes to its place, from the right: the list is told from its end. -/
def ins (lt : α → α → Bool) (x : α) : List α → List α
  | [] => [x]
  | y :: ys => if lt x y then y :: ins lt x ys else x :: y :: ys
theorem insInner_list [Inhabited α] (lt : α → α → Bool) (a : Nat) : ∀ (ys Pre Q : List α) (x : α), Pre.length = a →
    Go.Sort.insInner lt a (a + ys.length) (Pre ++ ys.reverse ++ x :: Q).toArray = (Pre ++ (ins lt x ys).reverse ++ Q).toArray
  | [], Pre, Q, x, h => by
    simp only [List.length_nil, Nat.add_zero, List.reverse_nil, List.append_nil, ins, List.reverse_cons, List.nil_append]
    rw [List.append_assoc]
    cases a with
    | zero => simp [Go.Sort.insInner]
    | succ a => simp [Go.Sort.insInner]
  | y :: ys, Pre, Q, x, h => by
    have e : Pre ++ (y :: ys).reverse ++ x :: Q = (Pre ++ ys.reverse) ++ y :: x :: Q := by simp
    have hl : (Pre ++ ys.reverse).length = a + ys.length := by simp [h]
    rw [List.length_cons, ← Nat.add_assoc, e]
    simp only [Go.Sort.insInner]
    have g1 : ((Pre ++ ys.reverse) ++ y :: x :: Q).toArray[a + ys.length + 1]! = x := by rw [← hl]; exact getA1 _ _ _ _
    have g0 : ((Pre ++ ys.reverse) ++ y :: x :: Q).toArray[a + ys.length]! = y := by rw [← hl]; exact getA _ _ _
    have gs : Go.Sort.swp ((Pre ++ ys.reverse) ++ y :: x :: Q).toArray (a + ys.length + 1) (a + ys.length) = ((Pre ++ ys.reverse) ++ x :: y :: Q).toArray := by rw [← hl]; exact swp_list _ _ _ _
    rw [g1, g0, gs]
    have ha : decide (a + ys.length + 1 > a) = true := decide_eq_true (by omega)
    rw [ha, Bool.true_and]
    cases hlt : lt x y with
    | true =>
      rw [if_pos rfl]
      have ih := insInner_list lt a ys Pre (y :: Q) x h
      rw [ih]
      simp [ins, hlt]
    | false =>
      rw [if_neg (by simp)]
      simp [ins, hlt]
/-- All of M, one behind the other, into what is sorted already (told from its end). -/
def isort (lt : α → α → Bool) (acc : List α) : List α → List α
  | [] => acc
  | x :: M => isort lt (ins lt x acc) M
theorem ins_length (lt : α → α → Bool) (x : α) : ∀ ys : List α, (ins lt x ys).length = ys.length + 1
  | [] => rfl
  | y :: ys => by
    simp only [ins]
    split
    · simp [ins_length lt x ys]
    · simp
theorem insOuter_list [Inhabited α] (lt : α → α → Bool) (a b : Nat) : ∀ (M acc Pre Post : List α), Pre.length = a → a + acc.length + M.length = b →
    Go.Sort.insOuter lt a b (a + acc.length) (Pre ++ acc.reverse ++ M ++ Post).toArray = (Pre ++ (isort lt acc M).reverse ++ Post).toArray
  | [], acc, Pre, Post, h, hb => by
    simp only [List.length_nil, Nat.add_zero] at hb
    unfold Go.Sort.insOuter
    rw [if_neg (by omega)]
    simp [isort]
  | x :: M, acc, Pre, Post, h, hb => by
    simp only [List.length_cons] at hb
    unfold Go.Sort.insOuter
    rw [if_pos (by omega)]
    have e : Pre ++ acc.reverse ++ x :: M ++ Post = Pre ++ acc.reverse ++ x :: (M ++ Post) := by simp
    rw [e, insInner_list lt a acc Pre (M ++ Post) x h]
    have ih := insOuter_list lt a b M (ins lt x acc) Pre Post h (by rw [ins_length]; omega)
    rw [ins_length, ← Nat.add_assoc] at ih
    rw [← List.append_assoc, ih]
    rfl
theorem insertion_list [Inhabited α] (lt : α → α → Bool) (M Pre Post : List α) : Go.Sort.insertionSort lt (Pre ++ M ++ Post).toArray Pre.length (Pre.length + M.length) = (Pre ++ (isort lt [] M).reverse ++ Post).toArray := by
  unfold Go.Sort.insertionSort
  cases M with
  | nil =>
    unfold Go.Sort.insOuter
    rw [if_neg (by simp)]
    simp [isort]
  | cons x M =>
    have h := insOuter_list lt Pre.length (Pre.length + (x :: M).length) M [x] Pre Post rfl (by simp; omega)
    simp only [List.length_cons, List.length_nil, List.reverse_cons, List.reverse_nil, List.nil_append, Nat.zero_add] at h
    have e : Pre ++ x :: M ++ Post = Pre ++ [x] ++ M ++ Post := by simp
    rw [e]
    simp only [List.length_cons]
    rw [h]
    simp [isort, ins]
/-- The order: by the key, then by the rank. -/
def lexlt (key rk : α → Int) (x y : α) : Prop := key x < key y ∨ (key x = key y ∧ rk x < rk y)
theorem lexlt_trans {key rk : α → Int} {x y z : α} (h : lexlt key rk x y) (k : lexlt key rk y z) : lexlt key rk x z := by
  unfold lexlt at *; omega
theorem ins_perm (lt : α → α → Bool) (x : α) : ∀ ys : List α, (ins lt x ys).Perm (x :: ys)
  | [] => List.Perm.refl _
  | y :: ys => by
    simp only [ins]
    split
    · exact ((ins_perm lt x ys).cons y).trans (List.Perm.swap x y ys)
    · exact List.Perm.refl _
theorem isort_perm (lt : α → α → Bool) : ∀ (M acc : List α), (isort lt acc M).Perm (acc ++ M)
  | [], acc => by simp [isort]
  | x :: M, acc => by
    simp only [isort]
    refine (isort_perm lt M (ins lt x acc)).trans ?_
    refine ((ins_perm lt x acc).append_right M).trans ?_
    exact (List.perm_middle (l₁ := acc) (a := x) (l₂ := M)).symm
theorem ins_desc {key rk : α → Int} {lt : α → α → Bool} (hlt : ∀ x y, lt x y = decide (key x < key y)) (x : α) : ∀ ys : List α, ys.Pairwise (fun a b => lexlt key rk b a) → (∀ y ∈ ys, rk y < rk x) → (ins lt x ys).Pairwise (fun a b => lexlt key rk b a)
  | [], _, _ => by simp [ins]
  | y :: ys, h, hr => by
    simp only [ins]
    have h1 := List.pairwise_cons.1 h
    have ih := ins_desc hlt x ys h1.2 (fun z hz => hr z (by simp [hz]))
    split
    · rename_i hc
      rw [hlt] at hc
      have hc := of_decide_eq_true hc
      refine List.pairwise_cons.2 ⟨fun z hz => ?_, ih⟩
      rcases List.mem_cons.1 ((ins_perm lt x ys).mem_iff.1 hz) with rfl | hz
      · exact .inl hc
      · exact h1.1 z hz
    · rename_i hc
      rw [hlt] at hc
      have hc : ¬ key x < key y := fun e => hc (decide_eq_true e)
      have hxy : lexlt key rk y x := by
        unfold lexlt
        have := hr y (by simp)
        omega
      refine List.pairwise_cons.2 ⟨fun z hz => ?_, h⟩
      rcases List.mem_cons.1 hz with rfl | hz
      · exact hxy
      · exact lexlt_trans (h1.1 z hz) hxy
theorem isort_desc {key rk : α → Int} {lt : α → α → Bool} (hlt : ∀ x y, lt x y = decide (key x < key y)) : ∀ (M acc : List α), acc.Pairwise (fun a b => lexlt key rk b a) → M.Pairwise (fun a b => rk a < rk b) → (∀ y ∈ acc, ∀ x ∈ M, rk y < rk x) → (isort lt acc M).Pairwise (fun a b => lexlt key rk b a)
  | [], acc, h, _, _ => h
  | x :: M, acc, h, hM, hr => by
    simp only [isort]
    have h1 := List.pairwise_cons.1 hM
    refine isort_desc hlt M _ (ins_desc hlt x acc h (fun y hy => hr y hy x (by simp))) h1.2 (fun y hy z hz => ?_)
    rcases List.mem_cons.1 ((ins_perm lt x acc).mem_iff.1 hy) with rfl | hy
    · exact h1.1 z hz
    · exact hr y hy z (by simp [hz])
/-- Two sorted permutations are one. -/
theorem perm_sorted {β : Type} {R : β → β → Prop} (hR : ∀ x y, R x y → R y x → False) : ∀ {l m : List β}, l.Perm m → l.Pairwise R → m.Pairwise R → l = m
  | [], m, h, _, _ => (List.nil_perm.1 h).symm
  | x :: l, m, h, hl, hm => by
    cases m with
    | nil => exact absurd h.symm (by simp)
    | cons y m =>
      have h1 := List.pairwise_cons.1 hl
      have h2 := List.pairwise_cons.1 hm
      have e : x = y := by
        have hx : x ∈ y :: m := h.mem_iff.1 (by simp)
        have hy : y ∈ x :: l := h.mem_iff.2 (by simp)
        rcases List.mem_cons.1 hx with e | hx
        · exact e
        · rcases List.mem_cons.1 hy with e | hy
          · exact e.symm
          · exact (hR x y (h1.1 y hy) (h2.1 x hx)).elim
      subst e
      rw [perm_sorted hR (List.Perm.cons_inv h) h1.2 h2.2]
end
/-- Segments sorted by their counts, those of one count by their numbers. -/
def segLe (cs : List Int) (a b : Int) : Bool := decide (cs.getD a.toNat 0 < cs.getD b.toNat 0) || (decide (cs.getD a.toNat 0 = cs.getD b.toNat 0) && decide (a ≤ b))
def sortL (cs L : List Int) : List Int := L.mergeSort (segLe cs)
def segLt (cs : List Int) (a b : Int) : Prop := cs.getD a.toNat 0 < cs.getD b.toNat 0 ∨ (cs.getD a.toNat 0 = cs.getD b.toNat 0 ∧ a < b)
theorem sortL_perm (cs L : List Int) : (sortL cs L).Perm L := List.mergeSort_perm L _
theorem sortL_sorted (cs L : List Int) (hn : L.Nodup) : (sortL cs L).Pairwise (segLt cs) := by
  have h1 : (sortL cs L).Pairwise (fun a b => segLe cs a b = true) := by
    refine List.pairwise_mergeSort ?_ ?_ L
    · intro a b c h1 h2
      simp only [segLe, Bool.or_eq_true, Bool.and_eq_true, decide_eq_true_eq] at *
      omega
    · intro a b
      simp only [segLe, Bool.or_eq_true, Bool.and_eq_true, decide_eq_true_eq]
      omega
  have h2 : (sortL cs L).Pairwise (· ≠ ·) := (sortL_perm cs L).nodup_iff.2 hn
  refine (h1.and h2).imp ?_
  rintro a b ⟨h, hne⟩
  simp only [segLe, Bool.or_eq_true, Bool.and_eq_true, decide_eq_true_eq] at h
  unfold segLt
  omega
theorem sortL_of {cs L M : List Int} (hn : L.Nodup) (hp : M.Perm L) (hs : M.Pairwise (segLt cs)) : M = sortL cs L :=
  perm_sorted (fun x y h k => by unfold segLt at h k; omega) (hp.trans (sortL_perm cs L).symm) hs (sortL_sorted cs L hn)
end Go.Proofs.Ytogdnolkheifcaa.Pure

/- The stable sort of few segments by their counts: by hand. -/
namespace Go.Proofs.Ytogdnolkheifcaa.Given
open Go.RowKit Go.Shelf Go.Lib Go.Sort Go.Proofs.YtogdnolkheifcaaW.PrintWords Go.Proofs.YtogdnolkheifcaaW.PrintLast Go.Proofs.YtogdnolkheifcaaW.PrintMore Go.Proofs.Ytogdnolkheifcaa.Base Go.Proofs.Ytogdnolkheifcaa.Pure
set_option linter.unusedVariables false
set_option linter.unusedSimpArgs false

theorem putRow_enc {α β : Type} [Inhabited α] [Inhabited β] (e1 : α → Value) (e2 : β → Value) (w : World) (g off : Nat) (d : Array α) (d' : Array β) (hs : d.size = d'.size) (h : ∀ j, j < d.size → e1 d[j]! = e2 d'[j]!) : putRow e1 w g off d = putRow e2 w g off d' := by
  unfold putRow
  congr 1
  funext c
  unfold putCells
  congr 1
  funext k x
  rw [← hs]
  by_cases hk : off ≤ k ∧ k < off + d.size
  · rw [if_pos hk, if_pos hk]; exact h _ (by omega)
  · rw [if_neg hk, if_neg hk]
def toF (m : Nat) (x : Int) : Fin (m + 1) := Fin.ofNat (m + 1) x.toNat
theorem toF_val {m : Nat} {x : Int} (h0 : 0 ≤ x) (h1 : x < (m : Int) + 1) : ((toF m x).val : Int) = x := by
  unfold toF
  simp only [Fin.ofNat]
  rw [Nat.mod_eq_of_lt (by omega)]; omega
theorem ltF_eq (cs : List Int) (n : Nat) (x y : Fin n) : ltOf (cmpF cs n) x y = decide (cs.getD x.val 0 < cs.getD y.val 0) := by
  unfold ltOf cmpF Lib.compareInt
  generalize cs.getD x.val 0 = a
  generalize cs.getD y.val 0 = b
  by_cases h1 : a < b
  · simp [h1]
  · by_cases h2 : b < a <;> simp [h1, h2]
/-- What any sort of the row leaves, told in numbers. -/
theorem fin_back {m : Nat} {cs L : List Int} (hr : ∀ x ∈ L, 0 ≤ x ∧ x < (m : Int) + 1) (hL : L.Pairwise (· < ·)) {M : List (Fin (m + 1))} (hp : M.Perm (L.map (toF m))) (hs : M.Pairwise (lexlt (fun i => cs.getD i.val 0) (fun i => (i.val : Int)))) : M.map (fun i => (i.val : Int)) = sortL cs L := by
  have hmap : (L.map (toF m)).map (fun i => (i.val : Int)) = L := by
    rw [List.map_map]
    refine (List.map_congr_left fun x hx => ?_).trans (List.map_id L)
    exact toF_val (hr x hx).1 (hr x hx).2
  refine sortL_of (hL.imp fun h => Int.ne_of_lt h) ?_ ?_
  · have := hp.map (fun i : Fin (m + 1) => (i.val : Int))
    rwa [hmap] at this
  · rw [List.pairwise_map]
    refine hs.imp ?_
    intro a b h
    unfold lexlt at h
    unfold segLt
    simpa using h
theorem insert_fin (cs : List Int) {m : Nat} {L : List Int} (hr : ∀ x ∈ L, 0 ≤ x ∧ x < (m : Int) + 1) (hL : L.Pairwise (· < ·)) :
    ∃ M : List (Fin (m + 1)), Sort.insertionSort (ltOf (cmpF cs (m + 1))) (L.map (toF m)).toArray 0 (L.map (toF m)).toArray.size = M.toArray ∧ M.map (fun i => (i.val : Int)) = sortL cs L := by
  have h := insertion_list (ltOf (cmpF cs (m + 1))) (L.map (toF m)) [] []
  simp only [List.nil_append, List.append_nil, List.length_nil, Nat.zero_add] at h
  refine ⟨_, by simpa using h, ?_⟩
  refine fin_back hr hL ?_ ?_
  · refine (List.reverse_perm _).trans ?_
    simpa using isort_perm (ltOf (cmpF cs (m + 1))) (L.map (toF m)) []
  · rw [List.pairwise_reverse]
    refine isort_desc (key := fun i : Fin (m + 1) => cs.getD i.val 0) (rk := fun i => (i.val : Int)) (ltF_eq cs (m + 1)) _ _ List.Pairwise.nil ?_ (fun y hy => absurd hy (by simp))
    rw [List.pairwise_map]
    refine hL.imp_of_mem ?_
    intro a b ha hb hab
    rw [toF_val (hr a ha).1 (hr a ha).2, toF_val (hr b hb).1 (hr b hb).2]
    exact hab

set_option maxHeartbeats 1000000 in
theorem insert0 (A : Option Addr) (c g : Nat) (cb : Array Value) (w : World) : Calls Try.prog 57 #[.slice A 0 c, .int .i64 0, .int .i64 0, .func (.func g) #[] cb] w fun e w' => e = .returned (.tuple #[]) ∧ w = w' := by
  go_enter Try.func57, Try.ntmps57
  go_wp2
  go_loopw [8] (fun i wr => i = .int .i64 1 ∧ w = wr) (fun _ _ => 0)
  case atStart => exact ⟨rfl, rfl⟩
  case round =>
    obtain ⟨rfl, rfl⟩ := hrel
    go_wp2
    go_end0
    exact ⟨rfl, rfl⟩
set_option maxHeartbeats 1000000 in
theorem stable0 (A : Option Addr) (c g : Nat) (cb : Array Value) (w : World) : Calls Try.prog 43 #[.slice A 0 c, .int .i64 0, .func (.func g) #[] cb] w fun e w' => e = .returned (.tuple #[]) ∧ w = w' := by
  go_enter Try.func43, Try.ntmps43
  go_wp2
  go_loopw [7, 8] (fun a b wr => a = .int .i64 0 ∧ b = .int .i64 20 ∧ w = wr) (fun _ _ _ => 0)
  case atStart => exact ⟨rfl, rfl, rfl⟩
  case round =>
    obtain ⟨rfl, rfl, rfl⟩ := hrel
    go_wp2_with (go_at_call 57; refine (insert0 A c g cb _).mono ?_; rintro e w1 ⟨rfl, rfl⟩)
    go_loopw [6] (fun s wr => s = .int .i64 20 ∧ w = wr) (fun _ _ => 0)
    case atStart => exact ⟨rfl, rfl⟩
    case round =>
      obtain ⟨rfl, rfl⟩ := hrel
      go_wp2
      go_end0
      exact ⟨rfl, rfl⟩
set_option maxHeartbeats 1000000 in
theorem sortStable0 (A : Option Addr) (c g : Nat) (cb : Array Value) (w : World) : Calls Try.prog 32 #[.slice A 0 c, .func (.func g) #[] cb] w fun e w' => e = .returned (.tuple #[]) ∧ w = w' := by
  go_enter Try.func32, Try.ntmps32
  go_wp2_with (go_at_call 43; refine (stable0 A c g cb _).mono ?_; rintro e w1 ⟨rfl, rfl⟩)
  go_end0
  exact ⟨rfl, rfl⟩
/-- A sort of the row, told over indexes, is a sort of the row of numbers. -/
theorem row_back {m base g n c : Nat} {L M' : List Int} {M : List (Fin (m + 1))} {W w' : World} (hb0 : base ≤ W.heap.size) (hO : OI W base (some ⟨g, 0, none⟩) n c L) (hg : base ≤ g) (hM : M.map (fun i => (i.val : Int)) = M') (hl : M'.length = n) (hS : SW (encF (m + 1)) W g 0 M.toArray w') :
    OI w' base (some ⟨g, 0, none⟩) n c M' ∧ Below base W w' ∧ W.grownBy w' (some g) := by
  obtain ⟨q, os, rfl⟩ := hS
  unfold sortWorld
  have e : putRow (encF (m + 1)) (Sort.ahead W q) g 0 M.toArray = putRow (Value.int .i64) (Sort.ahead W q) g 0 M'.toArray := by
    refine putRow_enc _ _ _ _ _ _ _ (by rw [← hM]; simp) (fun j hj => ?_)
    have hj' : j < M.length := by simpa using hj
    subst hM
    rw [getElem!_pos M.toArray j hj, getElem!_pos (M.map (fun i => (i.val : Int))).toArray j (by simpa using hj')]
    simp [encF]
  rw [e]
  obtain ⟨h1, h2, h3⟩ := own_putRow q hO hl hg
  have hb := below_grow (w := putRow (Value.int .i64) (Sort.ahead W q) g 0 M'.toArray) os
  exact ⟨h1.below hb, h2.trans (hb.mono (by have := h2.size; omega)), grown_trans h3 (grown_of_below hb _)⟩
def sortMost : Nat := 20
theorem vsort_calls (wd W : World) (Bc c1 : Nat) (A1 : Option Addr) (cs : List Int) (A : Option Addr) (n c : Nat) (L : List Int) (hO : OI W wd.heap.size A n c L) (hL : L.Pairwise (· < ·)) (hr : ∀ x ∈ L, 0 ≤ x ∧ x < (cs.length : Int)) (hW : CmpW wd Bc A1 c1 cs W) (hn : n < sortMost) :
    Calls Try.prog 32 #[.slice A n c, .func (.func 33) #[] #[.pointer (some ⟨Bc, 0, none⟩)]] W fun e w' => e = .returned (.tuple #[]) ∧ OI w' wd.heap.size A n c (sortL cs L) ∧ Below wd.heap.size W w' ∧ W.grownBy w' (Value.slice A n c).ownBlock := by
  have hl := hO.len
  rcases Nat.eq_zero_or_pos n with h0 | h0
  · subst h0
    have hx := List.eq_nil_of_length_eq_zero hl
    subst hx
    refine (sortStable0 A c _ _ W).mono ?_
    rintro e w' ⟨rfl, rfl⟩
    refine ⟨rfl, ?_, Below.refl _ _, World.grownBy.refl _ _⟩
    have : sortL cs [] = [] := by unfold sortL; simp
    rw [this]; exact hO
  · obtain ⟨g, rfl, hg, hlt⟩ := hO.form h0
    obtain ⟨m, hm⟩ : ∃ m, cs.length = m + 1 := by
      cases L with
      | nil => simp at hl; omega
      | cons x L => have := hr x (by simp); exact ⟨cs.length - 1, by omega⟩
    have hr' : ∀ x ∈ L, 0 ≤ x ∧ x < (m : Int) + 1 := fun x hx => by have := hr x hx; omega
    obtain ⟨M, hM, hMs⟩ := insert_fin cs hr' hL
    have hne : Bc ≠ g := by
      intro e
      have h1 := hW.c
      rw [e] at h1
      exact blk_not_row h1 (by decide) hO (by simp [Value.ownBlock])
    have hH : Holds (encF (m + 1)) W g 0 (L.map (toF m)).toArray := by
      intro j hj
      have hj' : j < n := by rw [← hl]; simpa using hj
      have hjl : j < L.length := by omega
      have h5 := own_at_of (d := (0 : Int)) hO (j : Int) (by omega) (by omega)
      rw [Int.toNat_natCast] at h5
      rw [Nat.zero_add]
      refine ⟨h5.1.trans ?_, h5.2⟩
      simp only [rdOf, Int.toNat_natCast]
      rw [getElem!_pos (L.map (toF m)).toArray j hj]
      have h6 := hr' L[j] (List.getElem_mem hjl)
      simp only [List.getElem_toArray, List.getElem_map, encF]
      rw [toF_val h6.1 h6.2, List.getD_eq_getElem?_getD, List.getElem?_eq_getElem hjl]; rfl
    have hsz : (L.map (toF m)).toArray.size = n := by simp [hl]
    have h := sortStable_few (encF (m + 1)) (cmpF cs (m + 1)) 33 #[.pointer (some ⟨Bc, 0, none⟩)] g 0 c (L.map (toF m)).toArray W (enters_of Try.func33 (by kernel_rfl) rfl) (cmp_lays wd W Bc c1 g A1 cs hm hW hg hne 0 _) ⟨fun x => rfl, hH, hlt⟩ (by rw [hsz]; exact hn)
    rw [hM, hsz] at h
    refine h.mono ?_
    rintro e w' ⟨rfl, hS⟩
    obtain ⟨h1, h2, h3⟩ := row_back hW.below.size hO hg hMs (by rw [(sortL_perm cs L).length_eq]; exact hl) hS
    exact ⟨rfl, h1, h2, h3⟩
end Go.Proofs.Ytogdnolkheifcaa.Given
