/- The stable sort of few segments by their counts: by hand. -/
import Derived.Test.YtogdnolkheifcaaPureSort
namespace Go.Proofs.Ytogdnolkheifcaa.Given
open Go.RowKit Go.Shelf Go.Lib Go.Sort Go.Proofs.YtogdnolkheifcaaW.PrintWords Go.Proofs.YtogdnolkheifcaaW.PrintLast Go.Proofs.YtogdnolkheifcaaW.PrintMore Go.Proofs.Ytogdnolkheifcaa.Base Go.Proofs.Ytogdnolkheifcaa.Pure
set_option linter.unusedVariables false
set_option linter.unusedSimpArgs false

theorem putRow_enc {α β : Type} [Inhabited α] [Inhabited β] (e1 : α → Value) (e2 : β → Value) (w : World) (g off : Nat) (d : Array α) (d' : Array β) (hs : d.size = d'.size) (h : ∀ j, j < d.size → e1 d[j]! = e2 d'[j]!) : putRow e1 w g off d = putRow e2 w g off d' := by
  unfold putRow
  congr 1
  funext c
  unfold putCells
  congr 1
  funext k x
  rw [← hs]
  by_cases hk : off ≤ k ∧ k < off + d.size
  · rw [if_pos hk, if_pos hk]; exact h _ (by omega)
  · rw [if_neg hk, if_neg hk]
def toF (m : Nat) (x : Int) : Fin (m + 1) := Fin.ofNat (m + 1) x.toNat
theorem toF_val {m : Nat} {x : Int} (h0 : 0 ≤ x) (h1 : x < (m : Int) + 1) : ((toF m x).val : Int) = x := by
  unfold toF
  simp only [Fin.ofNat]
  rw [Nat.mod_eq_of_lt (by omega)]; omega
theorem ltF_eq (cs : List Int) (n : Nat) (x y : Fin n) : ltOf (cmpF cs n) x y = decide (cs.getD x.val 0 < cs.getD y.val 0) := by
  unfold ltOf cmpF Lib.compareInt
  generalize cs.getD x.val 0 = a
  generalize cs.getD y.val 0 = b
  by_cases h1 : a < b
  · simp [h1]
  · by_cases h2 : b < a <;> simp [h1, h2]
/-- What any sort of the row leaves, told in numbers. -/
theorem fin_back {m : Nat} {cs L : List Int} (hr : ∀ x ∈ L, 0 ≤ x ∧ x < (m : Int) + 1) (hL : L.Pairwise (· < ·)) {M : List (Fin (m + 1))} (hp : M.Perm (L.map (toF m))) (hs : M.Pairwise (lexlt (fun i => cs.getD i.val 0) (fun i => (i.val : Int)))) : M.map (fun i => (i.val : Int)) = sortL cs L := by
  have hmap : (L.map (toF m)).map (fun i => (i.val : Int)) = L := by
    rw [List.map_map]
    refine (List.map_congr_left fun x hx => ?_).trans (List.map_id L)
    exact toF_val (hr x hx).1 (hr x hx).2
  refine sortL_of (hL.imp fun h => Int.ne_of_lt h) ?_ ?_
  · have := hp.map (fun i : Fin (m + 1) => (i.val : Int))
    rwa [hmap] at this
  · rw [List.pairwise_map]
    refine hs.imp ?_
    intro a b h
    unfold lexlt at h
    unfold segLt
    simpa using h
theorem insert_fin (cs : List Int) {m : Nat} {L : List Int} (hr : ∀ x ∈ L, 0 ≤ x ∧ x < (m : Int) + 1) (hL : L.Pairwise (· < ·)) :
    ∃ M : List (Fin (m + 1)), Sort.insertionSort (ltOf (cmpF cs (m + 1))) (L.map (toF m)).toArray 0 (L.map (toF m)).toArray.size = M.toArray ∧ M.map (fun i => (i.val : Int)) = sortL cs L := by
  have h := insertion_list (ltOf (cmpF cs (m + 1))) (L.map (toF m)) [] []
  simp only [List.nil_append, List.append_nil, List.length_nil, Nat.zero_add] at h
  refine ⟨_, by simpa using h, ?_⟩
  refine fin_back hr hL ?_ ?_
  · refine (List.reverse_perm _).trans ?_
    simpa using isort_perm (ltOf (cmpF cs (m + 1))) (L.map (toF m)) []
  · rw [List.pairwise_reverse]
    refine isort_desc (key := fun i : Fin (m + 1) => cs.getD i.val 0) (rk := fun i => (i.val : Int)) (ltF_eq cs (m + 1)) _ _ List.Pairwise.nil ?_ (fun y hy => absurd hy (by simp))
    rw [List.pairwise_map]
    refine hL.imp_of_mem ?_
    intro a b ha hb hab
    rw [toF_val (hr a ha).1 (hr a ha).2, toF_val (hr b hb).1 (hr b hb).2]
    exact hab

set_option maxHeartbeats 1000000 in
theorem insert0 (A : Option Addr) (c g : Nat) (cb : Array Value) (w : World) : Calls Try.prog 57 #[.slice A 0 c, .int .i64 0, .int .i64 0, .func (.func g) #[] cb] w fun e w' => e = .returned (.tuple #[]) ∧ w = w' := by
  go_enter Try.func57, Try.ntmps57
  go_wp2
  go_loopw [8] (fun i wr => i = .int .i64 1 ∧ w = wr) (fun _ _ => 0)
  case atStart => exact ⟨rfl, rfl⟩
  case round =>
    obtain ⟨rfl, rfl⟩ := hrel
    go_wp2
    go_end0
    exact ⟨rfl, rfl⟩
set_option maxHeartbeats 1000000 in
theorem stable0 (A : Option Addr) (c g : Nat) (cb : Array Value) (w : World) : Calls Try.prog 43 #[.slice A 0 c, .int .i64 0, .func (.func g) #[] cb] w fun e w' => e = .returned (.tuple #[]) ∧ w = w' := by
  go_enter Try.func43, Try.ntmps43
  go_wp2
  go_loopw [7, 8] (fun a b wr => a = .int .i64 0 ∧ b = .int .i64 20 ∧ w = wr) (fun _ _ _ => 0)
  case atStart => exact ⟨rfl, rfl, rfl⟩
  case round =>
    obtain ⟨rfl, rfl, rfl⟩ := hrel
    go_wp2_with (go_at_call 57; refine (insert0 A c g cb _).mono ?_; rintro e w1 ⟨rfl, rfl⟩)
    go_loopw [6] (fun s wr => s = .int .i64 20 ∧ w = wr) (fun _ _ => 0)
    case atStart => exact ⟨rfl, rfl⟩
    case round =>
      obtain ⟨rfl, rfl⟩ := hrel
      go_wp2
      go_end0
      exact ⟨rfl, rfl⟩
set_option maxHeartbeats 1000000 in
theorem sortStable0 (A : Option Addr) (c g : Nat) (cb : Array Value) (w : World) : Calls Try.prog 32 #[.slice A 0 c, .func (.func g) #[] cb] w fun e w' => e = .returned (.tuple #[]) ∧ w = w' := by
  go_enter Try.func32, Try.ntmps32
  go_wp2_with (go_at_call 43; refine (stable0 A c g cb _).mono ?_; rintro e w1 ⟨rfl, rfl⟩)
  go_end0
  exact ⟨rfl, rfl⟩
/-- A sort of the row, told over indexes, is a sort of the row of numbers. -/
theorem row_back {m base g n c : Nat} {L M' : List Int} {M : List (Fin (m + 1))} {W w' : World} (hb0 : base ≤ W.heap.size) (hO : OI W base (some ⟨g, 0, none⟩) n c L) (hg : base ≤ g) (hM : M.map (fun i => (i.val : Int)) = M') (hl : M'.length = n) (hS : SW (encF (m + 1)) W g 0 M.toArray w') :
    OI w' base (some ⟨g, 0, none⟩) n c M' ∧ Below base W w' ∧ W.grownBy w' (some g) := by
  obtain ⟨q, os, rfl⟩ := hS
  unfold sortWorld
  have e : putRow (encF (m + 1)) (Sort.ahead W q) g 0 M.toArray = putRow (Value.int .i64) (Sort.ahead W q) g 0 M'.toArray := by
    refine putRow_enc _ _ _ _ _ _ _ (by rw [← hM]; simp) (fun j hj => ?_)
    have hj' : j < M.length := by simpa using hj
    subst hM
    rw [getElem!_pos M.toArray j hj, getElem!_pos (M.map (fun i => (i.val : Int))).toArray j (by simpa using hj')]
    simp [encF]
  rw [e]
  obtain ⟨h1, h2, h3⟩ := own_putRow q hO hl hg
  have hb := below_grow (w := putRow (Value.int .i64) (Sort.ahead W q) g 0 M'.toArray) os
  exact ⟨h1.below hb, h2.trans (hb.mono (by have := h2.size; omega)), grown_trans h3 (grown_of_below hb _)⟩
def sortMost : Nat := 20
theorem vsort_calls (wd W : World) (Bc c1 : Nat) (A1 : Option Addr) (cs : List Int) (A : Option Addr) (n c : Nat) (L : List Int) (hO : OI W wd.heap.size A n c L) (hL : L.Pairwise (· < ·)) (hr : ∀ x ∈ L, 0 ≤ x ∧ x < (cs.length : Int)) (hW : CmpW wd Bc A1 c1 cs W) (hn : n < sortMost) :
    Calls Try.prog 32 #[.slice A n c, .func (.func 33) #[] #[.pointer (some ⟨Bc, 0, none⟩)]] W fun e w' => e = .returned (.tuple #[]) ∧ OI w' wd.heap.size A n c (sortL cs L) ∧ Below wd.heap.size W w' ∧ W.grownBy w' (Value.slice A n c).ownBlock := by
  have hl := hO.len
  rcases Nat.eq_zero_or_pos n with h0 | h0
  · subst h0
    have hx := List.eq_nil_of_length_eq_zero hl
    subst hx
    refine (sortStable0 A c _ _ W).mono ?_
    rintro e w' ⟨rfl, rfl⟩
    refine ⟨rfl, ?_, Below.refl _ _, World.grownBy.refl _ _⟩
    have : sortL cs [] = [] := by unfold sortL; simp
    rw [this]; exact hO
  · obtain ⟨g, rfl, hg, hlt⟩ := hO.form h0
    obtain ⟨m, hm⟩ : ∃ m, cs.length = m + 1 := by
      cases L with
      | nil => simp at hl; omega
      | cons x L => have := hr x (by simp); exact ⟨cs.length - 1, by omega⟩
    have hr' : ∀ x ∈ L, 0 ≤ x ∧ x < (m : Int) + 1 := fun x hx => by have := hr x hx; omega
    obtain ⟨M, hM, hMs⟩ := insert_fin cs hr' hL
    have hne : Bc ≠ g := by
      intro e
      have h1 := hW.c
      rw [e] at h1
      exact blk_not_row h1 (by decide) hO (by simp [Value.ownBlock])
    have hH : Holds (encF (m + 1)) W g 0 (L.map (toF m)).toArray := by
      intro j hj
      have hj' : j < n := by rw [← hl]; simpa using hj
      have hjl : j < L.length := by omega
      have h5 := own_at_of (d := (0 : Int)) hO (j : Int) (by omega) (by omega)
      rw [Int.toNat_natCast] at h5
      rw [Nat.zero_add]
      refine ⟨h5.1.trans ?_, h5.2⟩
      simp only [rdOf, Int.toNat_natCast]
      rw [getElem!_pos (L.map (toF m)).toArray j hj]
      have h6 := hr' L[j] (List.getElem_mem hjl)
      simp only [List.getElem_toArray, List.getElem_map, encF]
      rw [toF_val h6.1 h6.2, List.getD_eq_getElem?_getD, List.getElem?_eq_getElem hjl]; rfl
    have hsz : (L.map (toF m)).toArray.size = n := by simp [hl]
    have h := sortStable_few (encF (m + 1)) (cmpF cs (m + 1)) 33 #[.pointer (some ⟨Bc, 0, none⟩)] g 0 c (L.map (toF m)).toArray W (enters_of Try.func33 (by kernel_rfl) rfl) (cmp_lays wd W Bc c1 g A1 cs hm hW hg hne 0 _) ⟨fun x => rfl, hH, hlt⟩ (by rw [hsz]; exact hn)
    rw [hM, hsz] at h
    refine h.mono ?_
    rintro e w' ⟨rfl, hS⟩
    obtain ⟨h1, h2, h3⟩ := row_back hW.below.size hO hg hMs (by rw [(sortL_perm cs L).length_eq]; exact hl) hS
    exact ⟨rfl, h1, h2, h3⟩
end Go.Proofs.Ytogdnolkheifcaa.Given
