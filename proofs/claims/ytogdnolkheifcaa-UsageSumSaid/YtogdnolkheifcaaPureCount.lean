/- Plain laws over whole numbers and lists: PureCount. -/
import Derived.Test.YtogdnolkheifcaaPureGeo
import Derived.Test.YtogdnolkheifcaaGivKeep
import Derived.KernelRfl
import Derived.Laws.BitsLemmas
import Derived.Laws.BitsAllLaws
namespace Go.Proofs.Ytogdnolkheifcaa.Pure
open Go.RowKit Go.Proofs.Ytogdnolkheifcaa.Base Go.Proofs.YtogdnolkheifcaaW.PrintWords Go.Proofs.YtogdnolkheifcaaW.PrintLast Go.Proofs.YtogdnolkheifcaaW.PrintMore
set_option linter.unusedVariables false
set_option linter.unusedSimpArgs false
/-! counting addresses -/
def hit (D : Int) (k : Nat) (a : Int) : Bool := decide (a ≠ 0) && decide ((a - 1) / D = (k : Int))
def cl (D : Int) (S : Nat) (P : List Int) : List Int := (List.range S).map fun k => ((P.filter (hit D k)).length : Int)
theorem cl_len (D : Int) (S : Nat) (P : List Int) : (cl D S P).length = S := by simp [cl]
theorem cl_get (D : Int) {S : Nat} (P : List Int) {k : Nat} (h : k < S) : (cl D S P).getD k 0 = ((P.filter (hit D k)).length : Int) := by
  rw [List.getD_eq_getElem?_getD]
  simp [cl, h]
theorem cl_bd (D : Int) (S : Nat) (P : List Int) (k : Nat) : 0 ≤ (cl D S P).getD k 0 ∧ (cl D S P).getD k 0 ≤ P.length := by
  by_cases h : k < S
  · rw [cl_get D P h]
    have := List.length_filter_le (hit D k) P
    omega
  · rw [List.getD_eq_getElem?_getD, List.getElem?_eq_none (by rw [cl_len]; omega)]
    exact ⟨Int.le_refl 0, by simp⟩
theorem cl_nil (D : Int) (S : Nat) : cl D S [] = List.replicate S 0 := by
  refine List.eq_replicate_iff.2 ⟨cl_len D S [], fun b hb => ?_⟩
  simp only [cl, List.mem_map] at hb
  obtain ⟨k, _, rfl⟩ := hb
  rfl
theorem cl_zero (D : Int) (S : Nat) (P : List Int) : cl D S (P ++ [0]) = cl D S P := by
  unfold cl
  refine List.map_congr_left fun k _ => ?_
  rw [List.filter_append]; simp [hit]
theorem cl_snoc (D : Int) (S : Nat) (P : List Int) {a : Int} (h0 : a ≠ 0) {k0 : Nat} (hk : (a - 1) / D = (k0 : Int)) (h1 : k0 < S) : cl D S (P ++ [a]) = (cl D S P).set k0 ((cl D S P).getD k0 0 + 1) := by
  refine List.ext_getElem? fun i => ?_
  rw [List.getElem?_set]
  by_cases hi : i < S
  · have e1 : (cl D S (P ++ [a]))[i]? = some (((P ++ [a]).filter (hit D i)).length : Int) := by simp [cl, hi]
    have e2 : (cl D S P)[i]? = some ((P.filter (hit D i)).length : Int) := by simp [cl, hi]
    rw [e1, e2, cl_get D P h1, cl_len]
    by_cases e : k0 = i
    · subst e
      rw [if_pos rfl, if_pos hi, List.filter_append]
      have : hit D k0 a = true := by unfold hit; simp [h0, hk]
      simp [this]
    · rw [if_neg e, List.filter_append]
      have : hit D i a = false := by
        unfold hit
        rw [decide_eq_false (show ¬ ((a - 1) / D = (i : Int)) from by rw [hk]; omega), Bool.and_false]
      simp [this]
  · rw [List.getElem?_eq_none (by rw [cl_len]; omega), List.getElem?_eq_none (l := cl D S P) (by rw [cl_len]; omega), cl_len]
    split
    · exfalso; omega
    · rfl
/-- The addresses told, each once, rising. -/
def dd (l : List Int) : List Int := Go.Lib.compact (l.mergeSort fun x y => decide (x ≤ y))
theorem getB (zs : List Int) (i : Nat) : zs.toArray[i]! = zs.getD i 0 := by
  by_cases h : i < zs.length
  · simp [h, List.getD_eq_getElem?_getD]
  · simp [h, List.getD_eq_getElem?_getD]
theorem mem_compact (zs : List Int) (x : Int) : x ∈ Go.Lib.compact zs ↔ x ∈ zs := by
  unfold Go.Lib.compact Go.Lib.compactUpTo
  simp only [List.mem_map, List.mem_filter, List.mem_range, getB]
  constructor
  · rintro ⟨i, ⟨hi, _⟩, rfl⟩
    rw [List.getD_eq_getElem?_getD, List.getElem?_eq_getElem hi]
    exact List.getElem_mem hi
  · intro hx
    obtain ⟨n, hn, he⟩ := List.mem_iff_getElem.1 hx
    have key : ∀ n, (hn : n < zs.length) → zs.getD n 0 = x → ∃ a, (a < zs.length ∧ Go.Lib.keeps zs.toArray a = true) ∧ zs.getD a 0 = x := by
      intro n
      induction n with
      | zero => intro hn he; exact ⟨0, ⟨hn, by simp [Go.Lib.keeps]⟩, he⟩
      | succ n ih =>
        intro hn he
        by_cases hq : zs.getD n 0 = x
        · exact ih (by omega) hq
        · refine ⟨n + 1, ⟨hn, ?_⟩, he⟩
          have h1 : zs.toArray[n + 1]! = x := (getB zs (n + 1)).trans he
          have h2 : zs.toArray[n]! = zs.getD n 0 := getB zs n
          unfold Go.Lib.keeps
          refine decide_eq_true (.inr ?_)
          rw [h1, show n + 1 - 1 = n from rfl, h2]
          exact fun e => hq e.symm
    exact key n hn (by rw [List.getD_eq_getElem?_getD, List.getElem?_eq_getElem hn]; exact he)
theorem mem_dd (l : List Int) (x : Int) : x ∈ dd l ↔ x ∈ l := by
  unfold dd; rw [mem_compact, List.mem_mergeSort]
theorem dd_rises (l : List Int) : (dd l).Pairwise (· < ·) := by
  have hs : (l.mergeSort fun x y => decide (x ≤ y)).Pairwise (fun a b => decide (a ≤ b) = true) :=
    List.pairwise_mergeSort (fun a b c h1 h2 => by simp only [decide_eq_true_eq] at *; omega) (fun a b => by simp only [Bool.or_eq_true, decide_eq_true_eq]; omega) l
  unfold dd
  generalize l.mergeSort (fun x y => decide (x ≤ y)) = zs at hs
  have hle : ∀ i j, i ≤ j → j < zs.length → zs.getD i 0 ≤ zs.getD j 0 := by
    intro i j hij hj
    rw [List.getD_eq_getElem?_getD, List.getD_eq_getElem?_getD, List.getElem?_eq_getElem hj, List.getElem?_eq_getElem (show i < zs.length by omega)]
    rcases Nat.lt_or_ge i j with h | h
    · have := List.pairwise_iff_getElem.1 hs i j (by omega) hj h
      simpa using this
    · have : i = j := by omega
      subst this; exact Int.le_refl _
  unfold Go.Lib.compact Go.Lib.compactUpTo
  rw [List.pairwise_map]
  have h1 : ((List.range zs.length).filter (Go.Lib.keeps zs.toArray)).Pairwise (· < ·) := List.Pairwise.filter _ List.pairwise_lt_range
  refine h1.imp_of_mem ?_
  intro a b ha hb hab
  simp only [List.mem_filter, List.mem_range] at ha hb
  simp only [getB]
  have hk := hb.2
  unfold Go.Lib.keeps at hk
  have hk := of_decide_eq_true hk
  rcases hk with h0 | hne
  · omega
  · simp only [getB] at hne
    have h2 := hle a (b - 1) (by omega) (by omega)
    have h3 := hle (b - 1) b (by omega) hb.1
    omega
theorem dd_nodup (l : List Int) : (dd l).Nodup := (dd_rises l).imp fun h => Int.ne_of_lt h
theorem dd_len (l : List Int) : (dd l).length ≤ l.length := by
  unfold dd
  have := Go.Lib.compact_length_le (l.mergeSort fun x y => decide (x ≤ y))
  simpa using this
def okA (N : Int) (l : List Int) : Prop := ∀ x ∈ l, 0 ≤ x ∧ x ≤ N
instance (N : Int) (l : List Int) : Decidable (okA N l) := by unfold okA; infer_instance
open Classical in
noncomputable def countV (d r s : Int) (l : List Int) : List Int × Bool := if GR d r s ∧ okA (s * pl d r) l then (cl (pl d r) s.toNat (dd l), true) else ([], false)
/-- The addresses from 1 to b that are told. -/
def pre (l : List Int) (b : Nat) : List Int := ((List.range b).map fun (i : Nat) => (i : Int) + 1).filter fun a => decide (a ∈ l)
theorem pre_succ (l : List Int) (b : Nat) : pre l (b + 1) = pre l b ++ if (b : Int) + 1 ∈ l then [(b : Int) + 1] else [] := by
  unfold pre
  rw [List.range_succ, List.map_append, List.filter_append]
  congr 1
  by_cases h : (b : Int) + 1 ∈ l <;> simp [h]
theorem pre_len (l : List Int) (b : Nat) : (pre l b).length ≤ b := by
  unfold pre
  have := List.length_filter_le (fun a => decide (a ∈ l)) ((List.range b).map fun (i : Nat) => (i : Int) + 1)
  simpa using this
theorem pre_nodup (l : List Int) (b : Nat) : (pre l b).Nodup := by
  unfold pre
  refine List.Pairwise.filter _ ?_
  rw [List.pairwise_map]
  exact List.nodup_range.imp fun h e => h (by omega)
theorem mem_pre (l : List Int) (b : Nat) (x : Int) : x ∈ pre l b ↔ (1 ≤ x ∧ x ≤ b) ∧ x ∈ l := by
  unfold pre
  simp only [List.mem_filter, List.mem_map, List.mem_range, decide_eq_true_eq]
  constructor
  · rintro ⟨⟨i, hi, rfl⟩, h⟩
    exact ⟨by omega, h⟩
  · rintro ⟨h, h2⟩
    exact ⟨⟨(x - 1).toNat, by omega, by omega⟩, h2⟩
theorem cl_pre (D : Int) (S : Nat) (l : List Int) (N : Nat) (h : okA N l) : cl D S (pre l N) = cl D S (dd l) := by
  unfold cl
  refine List.map_congr_left fun k _ => ?_
  congr 1
  refine List.Perm.length_eq ?_
  refine (List.perm_ext_iff_of_nodup (List.Pairwise.filter _ (pre_nodup l N)) (List.Pairwise.filter _ (dd_nodup l))).2 fun x => ?_
  simp only [List.mem_filter, mem_pre, mem_dd]
  constructor
  · rintro ⟨⟨_, h1⟩, h2⟩
    exact ⟨h1, h2⟩
  · rintro ⟨h1, h2⟩
    have h3 := h x h1
    have h4 : x ≠ 0 := by
      intro e; subst e; simp [hit] at h2
    exact ⟨⟨by omega, h1⟩, h2⟩
/-- Which of the numbers from 0 to N are told. -/
def us (N : Nat) (P : List Int) : List Bool := (List.range (N + 1)).map fun (i : Nat) => decide ((i : Int) ∈ P)
theorem us_len (N : Nat) (P : List Int) : (us N P).length = N + 1 := by simp [us]
theorem us_get (N : Nat) (P : List Int) {i : Nat} (h : i ≤ N) : (us N P).getD i false = decide ((i : Int) ∈ P) := by
  rw [List.getD_eq_getElem?_getD]
  simp [us, show i < N + 1 by omega]
theorem us_nil (N : Nat) : us N [] = List.replicate (N + 1) false := by
  refine List.eq_replicate_iff.2 ⟨us_len N [], fun b hb => ?_⟩
  simp only [us, List.mem_map] at hb
  obtain ⟨k, _, rfl⟩ := hb
  rfl
theorem us_snoc (N : Nat) (P : List Int) {q : Nat} (h : q ≤ N) : us N (P ++ [(q : Int)]) = (us N P).set q true := by
  refine List.ext_getElem? fun i => ?_
  rw [List.getElem?_set]
  by_cases hi : i < N + 1
  · have e1 : (us N (P ++ [(q : Int)]))[i]? = some (decide ((i : Int) ∈ P ++ [(q : Int)])) := by simp [us, hi]
    have e2 : (us N P)[i]? = some (decide ((i : Int) ∈ P)) := by simp [us, hi]
    rw [e1, e2, us_len]
    by_cases e : q = i
    · subst e; rw [if_pos rfl, if_pos hi]; simp
    · rw [if_neg e]
      have h1 : (i : Int) ≠ (q : Int) := by omega
      simp [h1]
  · rw [List.getElem?_eq_none (by rw [us_len]; omega), List.getElem?_eq_none (l := us N P) (by rw [us_len]; omega), us_len]
    split
    · exfalso; omega
    · rfl
end Go.Proofs.Ytogdnolkheifcaa.Pure
