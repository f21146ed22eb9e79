/- Plain laws over whole numbers and lists: PureSectorRestores. -/
import Derived.Test.YtljjlfjhkdbbfaaQSectorRestoresx
import Derived.Test.YtljjlfjhkdbbfaaPureSec
import Derived.KernelRfl
import Derived.Laws.BitsLemmas
import Derived.Laws.BitsAllLaws
namespace Go.Proofs.Ytljjlfjhkdbbfaa.Pure
open Go.RowKit Go.Proofs.Ytljjlfjhkdbbfaa.PSectorRestores Go.Proofs.Ytljjlfjhkdbbfaa.Base Go.Proofs.Ytljjlfjhkdbbfaa.Given Go.Proofs.YtljjlfjhkdbbfaaW.PrintWords Go.Proofs.YtljjlfjhkdbbfaaW.PrintLast Go.Proofs.YtljjlfjhkdbbfaaW.PrintMore
set_option linter.unusedVariables false
set_option linter.unusedSimpArgs false
theorem and_bd (x : Int) : 0 ≤ Go.bits .and .i64 x 1023 ∧ Go.bits .and .i64 x 1023 ≤ 1023 := by
  have h : (BitVec.ofInt 64 x &&& BitVec.ofInt 64 1023).toNat ≤ 1023 := by
    rw [BitVec.toNat_and]
    exact Nat.le_trans Nat.and_le_right (by decide)
  have e : Go.bits .and .i64 x 1023 = IntKind.i64.wrap ((BitVec.ofInt 64 x &&& BitVec.ofInt 64 1023).toNat : Int) := rfl
  rw [e, IntKind.wrap_i64]
  omega
/-- The bytes of all rows, one by one. -/
def fold (acc : List Int) (M : List (List Int)) : List Int := M.foldl xorAll acc
theorem parS_fold : ∀ (r : List (List Int)) (acc : List Int), parS acc r = fold acc (r.map (List.drop 4))
  | [], acc => rfl
  | b :: r, acc => parS_fold r _
theorem fold_byt : ∀ (M : List (List Int)) (acc : List Int), Byt acc → (∀ b ∈ M, Byt b) → Byt (fold acc M)
  | [], acc, h, _ => h
  | b :: r, acc, h, hr => fold_byt r _ (xorAll_byt h (hr b (by simp))) (fun c hc => hr c (by simp [hc]))
theorem fold_len : ∀ (M : List (List Int)) (acc : List Int), acc.length ≤ 60 → (∀ b ∈ M, b.length = 60) → (fold acc M).length ≤ 60 ∧ (M ≠ [] → (fold acc M).length = 60)
  | [], acc, h, _ => ⟨h, fun e => absurd rfl e⟩
  | b :: r, acc, h, hr => by
    have hb := hr b (by simp)
    have h1 : (xorAll acc b).length = 60 := by rw [xorAll_length]; omega
    obtain ⟨g1, g2⟩ := fold_len r (xorAll acc b) (by omega) (fun c hc => hr c (by simp [hc]))
    refine ⟨g1, fun _ => ?_⟩
    cases r with
    | nil => exact h1
    | cons c r => exact g2 (by simp)
theorem fold_out : ∀ (r : List (List Int)) (acc b : List Int), Byt acc → Byt b → (∀ c ∈ r, Byt c) → fold (xorAll acc b) r = xorAll (fold acc r) b
  | [], _, _, _, _, _ => rfl
  | c :: r, acc, b, ha, hb, hr => by
    have hc := hr c (by simp)
    show fold (xorAll (xorAll acc b) c) r = xorAll (fold (xorAll acc c) r) b
    rw [xorAll_assoc ha hb hc, xorAll_comm hb hc, ← xorAll_assoc ha hc hb]
    exact fold_out r (xorAll acc c) b (xorAll_byt ha hc) hb (fun d hd => hr d (by simp [hd]))
theorem fold_erase : ∀ (M : List (List Int)) (k : Nat) (acc : List Int), Byt acc → (∀ c ∈ M, Byt c) → k < M.length → fold acc M = xorAll (fold acc (M.eraseIdx k)) (M.getD k [])
  | [], k, _, _, _, hk => by simp at hk
  | b :: r, 0, acc, ha, hM, _ => fold_out r acc b ha (hM b (by simp)) (fun c hc => hM c (by simp [hc]))
  | b :: r, k + 1, acc, ha, hM, hk => fold_erase r k (xorAll acc b) (xorAll_byt ha (hM b (by simp))) (fun c hc => hM c (by simp [hc])) (by simpa using hk)
theorem xorAll_self {a : List Int} (ha : Byt a) : xorAll a a = List.replicate a.length 0 := by
  apply ext_getD
  · rw [xorAll_length, List.length_replicate]; omega
  · intro i hi
    rw [xorAll_get ha ha, xo_self (getD_byt ha i)]
    rw [xorAll_length] at hi
    rw [List.getD_eq_getElem?_getD, List.getElem?_replicate]; split <;> rfl
theorem noughts_byt (n : Nat) : Byt (List.replicate n 0) := fun x hx => by rw [(List.mem_replicate.1 hx).2]; exact isB0
theorem xorAll_noughts {a : List Int} (ha : Byt a) {n : Nat} (h : n ≤ a.length) : xorAll (List.replicate n 0) a = a := by
  apply ext_getD
  · rw [xorAll_length, List.length_replicate]; omega
  · intro i hi
    rw [xorAll_get (noughts_byt n) ha]
    have : (List.replicate n (0 : Int)).getD i 0 = 0 := by
      rw [List.getD_eq_getElem?_getD, List.getElem?_replicate]; split <;> rfl
    rw [this, zero_xo (getD_byt ha i)]
/-- Any row of rows and their sum is the sum of the others. -/
theorem restore_row (M : List (List Int)) (hB : ∀ c ∈ M, Byt c) (hL : ∀ c ∈ M, c.length = 60) (k : Nat) (hk : k ≤ M.length) :
    fold [] ((M ++ [fold [] M]).eraseIdx k) = (M ++ [fold [] M]).getD k [] := by
  rcases Nat.lt_or_ge k M.length with h | h
  · rw [List.eraseIdx_append_of_lt_length h]
    have e : (M ++ [fold [] M]).getD k [] = M.getD k [] := by simp [List.getElem?_append_left h]
    have hm : M.getD k [] ∈ M := by rw [List.getD_eq_getElem?_getD, List.getElem?_eq_getElem h]; exact List.getElem_mem h
    have hE : ∀ c ∈ M.eraseIdx k, c ∈ M := fun c hc => List.mem_of_mem_eraseIdx hc
    have hX : Byt (fold [] (M.eraseIdx k)) := fold_byt _ _ byt_nil (fun c hc => hB c (hE c hc))
    have hXl : (fold [] (M.eraseIdx k)).length ≤ 60 := (fold_len _ [] (by simp) (fun c hc => hL c (hE c hc))).1
    rw [e]
    have : fold [] (M.eraseIdx k ++ [fold [] M]) = xorAll (fold [] (M.eraseIdx k)) (fold [] M) := by simp [fold]
    rw [this, fold_erase M k [] byt_nil hB h, ← xorAll_assoc hX hX (hB _ hm), xorAll_self hX, xorAll_noughts (hB _ hm) (by rw [hL _ hm]; exact hXl)]
  · obtain rfl : k = M.length := by omega
    have e1 : (M ++ [fold [] M]).eraseIdx M.length = M := by rw [List.eraseIdx_append_of_length_le (by omega)]; simp
    rw [e1]; simp

def al (s : Int) (L : List (List Int)) (n : Nat) : List (List Int) := (List.range n).map fun (i : Nat) => encB s ((L.getD i []).length : Int) (i : Int) (L.getD i [])
theorem al_succ (s : Int) (L : List (List Int)) (n : Nat) : al s L (n + 1) = al s L n ++ [encB s ((L.getD n []).length : Int) (n : Int) (L.getD n [])] := by simp [al, List.range_succ]
theorem map_erase {α β : Type} (f : α → β) : ∀ (l : List α) (k : Nat), (l.eraseIdx k).map f = (l.map f).eraseIdx k
  | [], _ => rfl
  | _ :: _, 0 => rfl
  | a :: r, k + 1 => congrArg (f a :: ·) (map_erase f r k)
theorem al_len (s : Int) (L : List (List Int)) (n : Nat) : (al s L n).length = n := by simp [al]
theorem get_byt {L : List (List Int)} (h : ∀ b ∈ L, Byt b) (i : Nat) : Byt (L.getD i []) := by
  by_cases hi : i < L.length
  · rw [List.getD_eq_getElem?_getD, List.getElem?_eq_getElem hi]; exact h _ (List.getElem_mem hi)
  · rw [List.getD_eq_getElem?_getD, List.getElem?_eq_none (by omega)]; exact byt_nil
theorem al_byt (s : Int) {L : List (List Int)} (h : ∀ b ∈ L, Byt b) (n : Nat) : ∀ b ∈ al s L n, Byt b := by
  intro b hb
  simp only [al, List.mem_map] at hb
  obtain ⟨i, _, rfl⟩ := hb
  exact encB_byt (get_byt h i)
theorem al_good (s : Int) {L : List (List Int)} (n : Nat) (h : ∀ i, i < n → (L.getD i []).length ≤ 56) : ∀ b ∈ al s L n, good (putAt s 4 4) b := by
  intro b hb
  simp only [al, List.mem_map, List.mem_range] at hb
  obtain ⟨i, hi, rfl⟩ := hb
  exact ⟨encB_len (h i hi), encB_take⟩
theorem ok_of_good {seq : List Int} {l : List (List Int)} (h0 : l ≠ []) (h : ∀ b ∈ l, good seq b) : parOK l ∧ (l.getD 0 []).take 4 = seq := by
  cases l with
  | nil => exact absurd rfl h0
  | cons a r =>
    have e : ((a :: r).getD 0 []).take 4 = seq := (h a (by simp)).2
    exact ⟨⟨by simp, fun b hb => by rw [e]; exact h b hb⟩, e⟩
/-- What stands behind the first loop. -/
theorem rest_loop (all : List (List Int)) (hB : ∀ b ∈ all, Byt b) (hn : all.length ≤ 100) (kk : Nat) (hk : kk < all.length) (seq : List Int) (hg : ∀ b ∈ all, good seq b) (h2 : 2 ≤ all.length)
    (hfold : fold [] ((all.map (List.drop 4)).eraseIdx kk) = (all.getD kk []).drop 4) (d : Nat) : ∀ (i k : Nat), i + d = all.length → d + 300 < k →
    morainelaw04_SectorRestores.l1 k all (kk : Int) ((all.take i).eraseIdx kk) (i : Int) = some true := by
  induction d with
  | zero =>
    intro i k hi hk'
    obtain ⟨k, rfl⟩ : ∃ j, k = j + 1 := ⟨k - 1, by omega⟩
    have hE : ∀ b ∈ all.eraseIdx kk, b ∈ all := fun c hc => List.mem_of_mem_eraseIdx hc
    have hne : all.eraseIdx kk ≠ [] := by
      intro e
      have := List.length_eraseIdx_of_lt hk
      rw [e] at this; simp at this; omega
    have hmem : all.getD kk [] ∈ all := by rw [List.getD_eq_getElem?_getD, List.getElem?_eq_getElem hk]; exact List.getElem_mem hk
    obtain ⟨hok, hhd⟩ := ok_of_good hne (fun b hb => hg b (hE b hb))
    have er : PSectorRestores.rd_L1 all (kk : Int) = all.getD kk [] := by show all.getD (kk : Int).toNat [] = _; rw [Int.toNat_natCast]
    have hl : (all.eraseIdx kk).length ≤ all.length := List.length_eraseIdx_le _ _
    simp only [morainelaw04_SectorRestores.l1]
    rw [if_neg (by omega), List.take_of_length_le (by omega), restore_eq _ (fun b hb => hB b (hE b hb)) (by omega) k (by omega), parV_good hok, hhd]
    simp only [Option.bind_some, if_true]
    rw [if_pos (by omega), if_pos (by omega), er]
    have hm : List.map (List.drop 4) (all.eraseIdx kk) = (all.map (List.drop 4)).eraseIdx kk := map_erase _ _ _
    rw [parS_fold, hm, hfold]
    have e : seq ++ (all.getD kk []).drop 4 = all.getD kk [] := by
      have := (hg _ hmem).2
      rw [← this]; exact List.take_append_drop 4 _
    have h64 := (hg _ hmem).1
    rw [e, same_eq _ _ (by omega) k (by omega)]
    simp
  | succ d ih =>
    intro i k hi hk'
    obtain ⟨k, rfl⟩ : ∃ j, k = j + 1 := ⟨k - 1, by omega⟩
    have hil : i < all.length := by omega
    have et : all.take (i + 1) = all.take i ++ [all.getD i []] := by
      rw [List.take_add_one, List.getD_eq_getElem?_getD, List.getElem?_eq_getElem hil]; rfl
    have hti : (all.take i).length = i := by rw [List.length_take]; omega
    have er : PSectorRestores.rd_L1 all (i : Int) = all.getD i [] := by show all.getD (i : Int).toNat [] = _; rw [Int.toNat_natCast]
    have hel : ((all.take i).eraseIdx kk).length ≤ i := by have := List.length_eraseIdx_le (all.take i) kk; omega
    simp only [morainelaw04_SectorRestores.l1]
    rw [if_pos (by omega), w64 (by omega) (by omega), show ((i : Int) + 1) = ((i + 1 : Nat) : Int) by omega]
    by_cases e : i = kk
    · rw [if_pos (by omega)]
      have : (all.take i).eraseIdx kk = (all.take (i + 1)).eraseIdx kk := by
        subst e
        rw [et, List.eraseIdx_append_of_length_le (by omega), hti, Nat.sub_self, List.eraseIdx_of_length_le (by omega)]
        simp
      rw [this]
      exact ih (i + 1) k (by omega) (by omega)
    · rw [if_neg (by omega), if_pos (by omega), if_pos (by omega), er]
      have : (all.take i).eraseIdx kk ++ [all.getD i []] = (all.take (i + 1)).eraseIdx kk := by
        rw [et]
        rcases Nat.lt_or_ge kk i with h | h
        · rw [List.eraseIdx_append_of_lt_length (by omega)]
        · rw [List.eraseIdx_of_length_le (by omega), List.eraseIdx_of_length_le (by simp only [List.length_append, hti, List.length_singleton]; omega)]
      rw [this]
      exact ih (i + 1) k (by omega) (by omega)
theorem restores_loop (s : Int) (h0 : 0 ≤ s) (h1 : s < 4294967296) (x2 : Int) (L : List (List Int)) (hB : ∀ b ∈ L, Byt b) (hn : 1 ≤ L.length) (h16 : L.length ≤ 16) (d : Nat) : ∀ (i k : Nat), i + d = L.length → d + 400 < k → (∀ j, j < i → (L.getD j []).length ≤ 56) →
    morainelaw04_SectorRestores.l0 k s L x2 (al s L i) (i : Int) = some true := by
  induction d with
  | zero =>
    intro i k hi hk h56
    obtain rfl : i = L.length := by omega
    obtain ⟨k, rfl⟩ : ∃ j, k = j + 1 := ⟨k - 1, by omega⟩
    have hl := al_len s L L.length
    have hg := al_good s L.length h56
    have hAB := al_byt s hB L.length
    have hne : al s L L.length ≠ [] := by intro e; rw [e] at hl; simp at hl; omega
    obtain ⟨hok, hhd⟩ := ok_of_good hne hg
    simp only [morainelaw04_SectorRestores.l0]
    rw [if_neg (by omega), par_eq _ hAB (by omega) k (by omega), parV_good hok, hhd]
    simp only [Option.bind_some, if_true]
    rw [if_pos (by omega)]
    have hpl : (putAt s 4 4).length = 4 := putAt_length _ _ _
    have hM60 : ∀ c ∈ (al s L L.length).map (List.drop 4), c.length = 60 := by
      intro c hc
      obtain ⟨b, hb, rfl⟩ := List.mem_map.1 hc
      rw [List.length_drop, (hg b hb).1]
    have hMB : ∀ c ∈ (al s L L.length).map (List.drop 4), Byt c := by
      intro c hc
      obtain ⟨b, hb, rfl⟩ := List.mem_map.1 hc
      exact drop_byt (hAB b hb) 4
    rw [parS_fold]
    have hP := fold_byt _ _ byt_nil hMB
    have hPl := (fold_len _ [] (by simp) hM60).2 (by intro e; exact hne (List.map_eq_nil_iff.1 e))
    generalize hFM : fold [] ((al s L L.length).map (List.drop 4)) = P at hP hPl ⊢
    have hall : (al s L L.length ++ [putAt s 4 4 ++ P]).length = L.length + 1 := by simp [hl]
    have hgood : ∀ b ∈ al s L L.length ++ [putAt s 4 4 ++ P], good (putAt s 4 4) b := by
      intro b hb
      rcases List.mem_append.1 hb with hb | hb
      · exact hg b hb
      · rw [List.mem_singleton.1 hb]
        exact ⟨by rw [List.length_append, hpl, hPl], by rw [List.take_append_of_le_length (by omega), List.take_of_length_le (by omega)]⟩
    have hbyt : ∀ b ∈ al s L L.length ++ [putAt s 4 4 ++ P], Byt b := by
      intro b hb
      rcases List.mem_append.1 hb with hb | hb
      · exact hAB b hb
      · rw [List.mem_singleton.1 hb]; exact app_byt (putAt_byt _ _) hP
    rw [if_neg (by rw [hall]; omega)]
    obtain ⟨ha, hb⟩ := and_bd x2
    have htm : Int.tmod (Go.bits .and .i64 x2 1023) ((al s L L.length ++ [putAt s 4 4 ++ P]).length : Int) = (((Go.bits .and .i64 x2 1023).toNat % (L.length + 1) : Nat) : Int) := by
      rw [hall, Int.tmod_eq_emod_of_nonneg ha, Int.natCast_emod, Int.toNat_of_nonneg ha]
    have hlt : (Go.bits .and .i64 x2 1023).toNat % (L.length + 1) < L.length + 1 := Nat.mod_lt _ (by omega)
    rw [htm]
    generalize (Go.bits .and .i64 x2 1023).toNat % (L.length + 1) = kk at hlt ⊢
    have hmap : (al s L L.length ++ [putAt s 4 4 ++ P]).map (List.drop 4) = (al s L L.length).map (List.drop 4) ++ [fold [] ((al s L L.length).map (List.drop 4))] := by
      rw [List.map_append, hFM]
      simp [List.drop_append, hpl]
    have hrow := restore_row _ hMB hM60 kk (by rw [List.length_map, hl]; omega)
    rw [← hmap] at hrow
    have hget : ((al s L L.length ++ [putAt s 4 4 ++ P]).map (List.drop 4)).getD kk [] = ((al s L L.length ++ [putAt s 4 4 ++ P]).getD kk []).drop 4 := by
      rw [List.getD_eq_getElem?_getD, List.getD_eq_getElem?_getD, List.getElem?_map, List.getElem?_eq_getElem (by rw [hall]; exact hlt)]; rfl
    rw [hget] at hrow
    exact rest_loop _ hbyt (by omega) kk (by omega) (putAt s 4 4) hgood (by omega) hrow _ 0 k (by rw [Nat.zero_add]) (by omega)
  | succ d ih =>
    intro i k hi hk h56
    obtain ⟨k, rfl⟩ : ∃ j, k = j + 1 := ⟨k - 1, by omega⟩
    have hl := al_len s L i
    have er : PSectorRestores.rd_L1 L (i : Int) = L.getD i [] := by show L.getD (i : Int).toNat [] = _; rw [Int.toNat_natCast]
    simp only [morainelaw04_SectorRestores.l0]
    rw [if_pos (by omega), if_pos (by omega), er]
    by_cases hb : ((L.getD i []).length : Int) > 56
    · rw [if_pos hb]
    · rw [if_neg hb, enc_pos (l := L.getD i []) (by unfold okEnc okPut; exact ⟨by omega, by omega, by omega, by omega⟩)]
      simp only [Option.bind_some, if_true]
      rw [if_pos (by rw [hl]; omega), ← al_succ, w64 (by omega) (by omega), show ((i : Int) + 1) = ((i + 1 : Nat) : Int) by omega]
      exact ih (i + 1) k (by omega) (by omega) (fun j hj => by
        rcases Nat.lt_or_ge j i with h | h
        · exact h56 j h
        · obtain rfl : j = i := by omega
          omega)
theorem SectorRestores (a0 : Int) (L : List (List Int)) (a2 : Int) (w0 : (Lit.int .i64 a0).wf = true) (hB : ∀ b ∈ L, ∀ x ∈ b, 0 ≤ x ∧ x ≤ 255) (w2 : (Lit.int .i64 a2).wf = true) : ∃ k, morainelaw04_SectorRestores.f k a0 L a2 = some true := by
  refine ⟨1000, ?_⟩
  have ez : ∀ k x0 x1 x2, morainelaw04_SectorRestores.j0 (k + 1) x0 x1 x2 true = some true := fun k x0 x1 x2 => by simp [morainelaw04_SectorRestores.j0]
  unfold morainelaw04_SectorRestores.f morainelaw04_alive.f
  simp only [Option.bind_some, if_true]
  by_cases c1 : (L.length : Int) < 1
  · rw [if_pos c1]; exact ez 999 _ _ _
  rw [if_neg c1]
  by_cases c2 : (L.length : Int) > 16
  · rw [if_pos c2]; exact ez 999 _ _ _
  rw [if_neg c2]
  by_cases c3 : a0 < 0
  · rw [if_pos c3]; exact ez 999 _ _ _
  rw [if_neg c3]
  by_cases c4 : a0 ≥ 4294967296
  · rw [decide_eq_true c4]; exact ez 999 _ _ _
  rw [decide_eq_false c4]
  simp only [morainelaw04_SectorRestores.j0]
  rw [if_neg (by simp)]
  exact restores_loop a0 (by omega) (by omega) a2 L hB (by omega) (by omega) L.length 0 999 (by omega) (by omega) (fun j hj => by omega)
end Go.Proofs.Ytljjlfjhkdbbfaa.Pure
