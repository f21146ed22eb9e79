/- Plain laws over whole numbers and lists: PureSort. -/
import Derived.Test.YtogdnolkheifcaaGivCmp
import Derived.KernelRfl
import Derived.Laws.BitsLemmas
import Derived.Laws.BitsAllLaws
namespace Go.Proofs.Ytogdnolkheifcaa.Pure
open Go.RowKit Go.Proofs.Ytogdnolkheifcaa.Base Go.Proofs.YtogdnolkheifcaaW.PrintWords Go.Proofs.YtogdnolkheifcaaW.PrintLast Go.Proofs.YtogdnolkheifcaaW.PrintMore
set_option linter.unusedVariables false
set_option linter.unusedSimpArgs false
/-! the insertion sort, on lists -/
section
variable {α : Type}
theorem getA [Inhabited α] (L : List α) (y : α) (Q : List α) : (L ++ y :: Q).toArray[L.length]! = y := by
  rw [getElem!_pos _ _ (by simp)]; simp
theorem getA1 [Inhabited α] (L : List α) (y x : α) (Q : List α) : (L ++ y :: x :: Q).toArray[L.length + 1]! = x := by
  rw [getElem!_pos _ _ (by simp)]; simp
theorem swp_list [Inhabited α] (L : List α) (y x : α) (Q : List α) : Go.Sort.swp (L ++ y :: x :: Q).toArray (L.length + 1) L.length = (L ++ x :: y :: Q).toArray := by
  unfold Go.Sort.swp
  rw [getA, getA1]
  simp [List.set_append]
/-- x goes to its place, from the right: the list is told from its end. -/
def ins (lt : α → α → Bool) (x : α) : List α → List α
  | [] => [x]
  | y :: ys => if lt x y then y :: ins lt x ys else x :: y :: ys
theorem insInner_list [Inhabited α] (lt : α → α → Bool) (a : Nat) : ∀ (ys Pre Q : List α) (x : α), Pre.length = a →
    Go.Sort.insInner lt a (a + ys.length) (Pre ++ ys.reverse ++ x :: Q).toArray = (Pre ++ (ins lt x ys).reverse ++ Q).toArray
  | [], Pre, Q, x, h => by
    simp only [List.length_nil, Nat.add_zero, List.reverse_nil, List.append_nil, ins, List.reverse_cons, List.nil_append]
    rw [List.append_assoc]
    cases a with
    | zero => simp [Go.Sort.insInner]
    | succ a => simp [Go.Sort.insInner]
  | y :: ys, Pre, Q, x, h => by
    have e : Pre ++ (y :: ys).reverse ++ x :: Q = (Pre ++ ys.reverse) ++ y :: x :: Q := by simp
    have hl : (Pre ++ ys.reverse).length = a + ys.length := by simp [h]
    rw [List.length_cons, ← Nat.add_assoc, e]
    simp only [Go.Sort.insInner]
    have g1 : ((Pre ++ ys.reverse) ++ y :: x :: Q).toArray[a + ys.length + 1]! = x := by rw [← hl]; exact getA1 _ _ _ _
    have g0 : ((Pre ++ ys.reverse) ++ y :: x :: Q).toArray[a + ys.length]! = y := by rw [← hl]; exact getA _ _ _
    have gs : Go.Sort.swp ((Pre ++ ys.reverse) ++ y :: x :: Q).toArray (a + ys.length + 1) (a + ys.length) = ((Pre ++ ys.reverse) ++ x :: y :: Q).toArray := by rw [← hl]; exact swp_list _ _ _ _
    rw [g1, g0, gs]
    have ha : decide (a + ys.length + 1 > a) = true := decide_eq_true (by omega)
    rw [ha, Bool.true_and]
    cases hlt : lt x y with
    | true =>
      rw [if_pos rfl]
      have ih := insInner_list lt a ys Pre (y :: Q) x h
      rw [ih]
      simp [ins, hlt]
    | false =>
      rw [if_neg (by simp)]
      simp [ins, hlt]
/-- All of M, one behind the other, into what is sorted already (told from its end). -/
def isort (lt : α → α → Bool) (acc : List α) : List α → List α
  | [] => acc
  | x :: M => isort lt (ins lt x acc) M
theorem ins_length (lt : α → α → Bool) (x : α) : ∀ ys : List α, (ins lt x ys).length = ys.length + 1
  | [] => rfl
  | y :: ys => by
    simp only [ins]
    split
    · simp [ins_length lt x ys]
    · simp
theorem insOuter_list [Inhabited α] (lt : α → α → Bool) (a b : Nat) : ∀ (M acc Pre Post : List α), Pre.length = a → a + acc.length + M.length = b →
    Go.Sort.insOuter lt a b (a + acc.length) (Pre ++ acc.reverse ++ M ++ Post).toArray = (Pre ++ (isort lt acc M).reverse ++ Post).toArray
  | [], acc, Pre, Post, h, hb => by
    simp only [List.length_nil, Nat.add_zero] at hb
    unfold Go.Sort.insOuter
    rw [if_neg (by omega)]
    simp [isort]
  | x :: M, acc, Pre, Post, h, hb => by
    simp only [List.length_cons] at hb
    unfold Go.Sort.insOuter
    rw [if_pos (by omega)]
    have e : Pre ++ acc.reverse ++ x :: M ++ Post = Pre ++ acc.reverse ++ x :: (M ++ Post) := by simp
    rw [e, insInner_list lt a acc Pre (M ++ Post) x h]
    have ih := insOuter_list lt a b M (ins lt x acc) Pre Post h (by rw [ins_length]; omega)
    rw [ins_length, ← Nat.add_assoc] at ih
    rw [← List.append_assoc, ih]
    rfl
theorem insertion_list [Inhabited α] (lt : α → α → Bool) (M Pre Post : List α) : Go.Sort.insertionSort lt (Pre ++ M ++ Post).toArray Pre.length (Pre.length + M.length) = (Pre ++ (isort lt [] M).reverse ++ Post).toArray := by
  unfold Go.Sort.insertionSort
  cases M with
  | nil =>
    unfold Go.Sort.insOuter
    rw [if_neg (by simp)]
    simp [isort]
  | cons x M =>
    have h := insOuter_list lt Pre.length (Pre.length + (x :: M).length) M [x] Pre Post rfl (by simp; omega)
    simp only [List.length_cons, List.length_nil, List.reverse_cons, List.reverse_nil, List.nil_append, Nat.zero_add] at h
    have e : Pre ++ x :: M ++ Post = Pre ++ [x] ++ M ++ Post := by simp
    rw [e]
    simp only [List.length_cons]
    rw [h]
    simp [isort, ins]
/-- The order: by the key, then by the rank. -/
def lexlt (key rk : α → Int) (x y : α) : Prop := key x < key y ∨ (key x = key y ∧ rk x < rk y)
theorem lexlt_trans {key rk : α → Int} {x y z : α} (h : lexlt key rk x y) (k : lexlt key rk y z) : lexlt key rk x z := by
  unfold lexlt at *; omega
theorem ins_perm (lt : α → α → Bool) (x : α) : ∀ ys : List α, (ins lt x ys).Perm (x :: ys)
  | [] => List.Perm.refl _
  | y :: ys => by
    simp only [ins]
    split
    · exact ((ins_perm lt x ys).cons y).trans (List.Perm.swap x y ys)
    · exact List.Perm.refl _
theorem isort_perm (lt : α → α → Bool) : ∀ (M acc : List α), (isort lt acc M).Perm (acc ++ M)
  | [], acc => by simp [isort]
  | x :: M, acc => by
    simp only [isort]
    refine (isort_perm lt M (ins lt x acc)).trans ?_
    refine ((ins_perm lt x acc).append_right M).trans ?_
    exact (List.perm_middle (l₁ := acc) (a := x) (l₂ := M)).symm
theorem ins_desc {key rk : α → Int} {lt : α → α → Bool} (hlt : ∀ x y, lt x y = decide (key x < key y)) (x : α) : ∀ ys : List α, ys.Pairwise (fun a b => lexlt key rk b a) → (∀ y ∈ ys, rk y < rk x) → (ins lt x ys).Pairwise (fun a b => lexlt key rk b a)
  | [], _, _ => by simp [ins]
  | y :: ys, h, hr => by
    simp only [ins]
    have h1 := List.pairwise_cons.1 h
    have ih := ins_desc hlt x ys h1.2 (fun z hz => hr z (by simp [hz]))
    split
    · rename_i hc
      rw [hlt] at hc
      have hc := of_decide_eq_true hc
      refine List.pairwise_cons.2 ⟨fun z hz => ?_, ih⟩
      rcases List.mem_cons.1 ((ins_perm lt x ys).mem_iff.1 hz) with rfl | hz
      · exact .inl hc
      · exact h1.1 z hz
    · rename_i hc
      rw [hlt] at hc
      have hc : ¬ key x < key y := fun e => hc (decide_eq_true e)
      have hxy : lexlt key rk y x := by
        unfold lexlt
        have := hr y (by simp)
        omega
      refine List.pairwise_cons.2 ⟨fun z hz => ?_, h⟩
      rcases List.mem_cons.1 hz with rfl | hz
      · exact hxy
      · exact lexlt_trans (h1.1 z hz) hxy
theorem isort_desc {key rk : α → Int} {lt : α → α → Bool} (hlt : ∀ x y, lt x y = decide (key x < key y)) : ∀ (M acc : List α), acc.Pairwise (fun a b => lexlt key rk b a) → M.Pairwise (fun a b => rk a < rk b) → (∀ y ∈ acc, ∀ x ∈ M, rk y < rk x) → (isort lt acc M).Pairwise (fun a b => lexlt key rk b a)
  | [], acc, h, _, _ => h
  | x :: M, acc, h, hM, hr => by
    simp only [isort]
    have h1 := List.pairwise_cons.1 hM
    refine isort_desc hlt M _ (ins_desc hlt x acc h (fun y hy => hr y hy x (by simp))) h1.2 (fun y hy z hz => ?_)
    rcases List.mem_cons.1 ((ins_perm lt x acc).mem_iff.1 hy) with rfl | hy
    · exact h1.1 z hz
    · exact hr y hy z (by simp [hz])
/-- Two sorted permutations are one. -/
theorem perm_sorted {β : Type} {R : β → β → Prop} (hR : ∀ x y, R x y → R y x → False) : ∀ {l m : List β}, l.Perm m → l.Pairwise R → m.Pairwise R → l = m
  | [], m, h, _, _ => (List.nil_perm.1 h).symm
  | x :: l, m, h, hl, hm => by
    cases m with
    | nil => exact absurd h.symm (by simp)
    | cons y m =>
      have h1 := List.pairwise_cons.1 hl
      have h2 := List.pairwise_cons.1 hm
      have e : x = y := by
        have hx : x ∈ y :: m := h.mem_iff.1 (by simp)
        have hy : y ∈ x :: l := h.mem_iff.2 (by simp)
        rcases List.mem_cons.1 hx with e | hx
        · exact e
        · rcases List.mem_cons.1 hy with e | hy
          · exact e.symm
          · exact (hR x y (h1.1 y hy) (h2.1 x hx)).elim
      subst e
      rw [perm_sorted hR (List.Perm.cons_inv h) h1.2 h2.2]
end
/-- Segments sorted by their counts, those of one count by their numbers. -/
def segLe (cs : List Int) (a b : Int) : Bool := decide (cs.getD a.toNat 0 < cs.getD b.toNat 0) || (decide (cs.getD a.toNat 0 = cs.getD b.toNat 0) && decide (a ≤ b))
def sortL (cs L : List Int) : List Int := L.mergeSort (segLe cs)
def segLt (cs : List Int) (a b : Int) : Prop := cs.getD a.toNat 0 < cs.getD b.toNat 0 ∨ (cs.getD a.toNat 0 = cs.getD b.toNat 0 ∧ a < b)
theorem sortL_perm (cs L : List Int) : (sortL cs L).Perm L := List.mergeSort_perm L _
theorem sortL_sorted (cs L : List Int) (hn : L.Nodup) : (sortL cs L).Pairwise (segLt cs) := by
  have h1 : (sortL cs L).Pairwise (fun a b => segLe cs a b = true) := by
    refine List.pairwise_mergeSort ?_ ?_ L
    · intro a b c h1 h2
      simp only [segLe, Bool.or_eq_true, Bool.and_eq_true, decide_eq_true_eq] at *
      omega
    · intro a b
      simp only [segLe, Bool.or_eq_true, Bool.and_eq_true, decide_eq_true_eq]
      omega
  have h2 : (sortL cs L).Pairwise (· ≠ ·) := (sortL_perm cs L).nodup_iff.2 hn
  refine (h1.and h2).imp ?_
  rintro a b ⟨h, hne⟩
  simp only [segLe, Bool.or_eq_true, Bool.and_eq_true, decide_eq_true_eq] at h
  unfold segLt
  omega
theorem sortL_of {cs L M : List Int} (hn : L.Nodup) (hp : M.Perm L) (hs : M.Pairwise (segLt cs)) : M = sortL cs L :=
  perm_sorted (fun x y h k => by unfold segLt at h k; omega) (hp.trans (sortL_perm cs L).symm) hs (sortL_sorted cs L hn)
end Go.Proofs.Ytogdnolkheifcaa.Pure
