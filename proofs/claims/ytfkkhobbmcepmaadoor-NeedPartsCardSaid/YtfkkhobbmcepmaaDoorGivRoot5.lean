/- need.Pointing, and what a root alone needs (printed by genroot5.py). -/
import Derived.Test.YtfkkhobbmcepmaaDoorGivRoot4
import Derived.Deep.RegionHeld3
namespace Go.Proofs.YtfkkhobbmcepmaaDoor.Given
open Go.RowKit Go.Shelf Go.Maps Go.Proofs.YtfkkhobbmcepmaaDoorW.PrintWords Go.Proofs.YtfkkhobbmcepmaaDoorW.PrintLast Go.Proofs.YtfkkhobbmcepmaaDoorW.PrintMore Go.Proofs.YtfkkhobbmcepmaaDoor.Base
set_option linter.unusedVariables false
set_option linter.unusedSimpArgs false
theorem keyLit (x : Int) : WideAt.IsKeyLit (.int .i64 x) := by trivial
/-- A map's datum is a list's set. -/
structure IsI (D : DataW Value) (P : List Int) : Prop where
  tidy : Tidy D
  size : size D = P.length
  has : ∀ x : Int, has D (.int .i64 x) = decide (x ∈ P)
def pins (P : List Int) (k : Int) : List Int := if k ∈ P then P else k :: P
def ppt (P : List Int) (k : Int) : List Int := if k < 16 ∨ 828 ≤ k then P else if k < 44 then pins P (-1) else pins (pins P (-2)) ((k - 44) / 28)
def pset (l : List Int) : List Int := l.foldl ppt []
theorem pset_succ {l : List Int} {j : Nat} (h : j < l.length) : pset (l.take (j + 1)) = ppt (pset (l.take j)) l[j] := by
  unfold pset
  rw [List.take_succ_eq_append_getElem h, List.foldl_append]
  rfl
theorem pins_len (P : List Int) (k : Int) : (pins P k).length ≤ P.length + 1 := by
  unfold pins
  split <;> simp
theorem ppt_len (P : List Int) (k : Int) : (ppt P k).length ≤ P.length + 2 := by
  unfold ppt
  split
  · omega
  · split
    · have := pins_len P (-1); omega
    · have := pins_len P (-2); have := pins_len (pins P (-2)) ((k - 44) / 28); omega
theorem pset_len : ∀ (l : List Int) (j : Nat), j ≤ l.length → (pset (l.take j)).length ≤ 2 * j
  | l, 0, _ => by simp [pset]
  | l, j + 1, h => by
    rw [pset_succ (by omega)]
    have := ppt_len (pset (l.take j)) l[j]
    have := pset_len l j (by omega)
    omega
theorem IsI.nil : IsI (.map []) [] := ⟨tidy_empty, rfl, fun x => by simp [has_eq]⟩
theorem IsI.put {D : DataW Value} {P : List Int} (h : IsI D P) (k : Int) (d : DataW Value) : IsI (D.put (.int .i64 k) d) (pins P k) := by
  refine ⟨h.tidy.put (keyLit k) d, ?_, fun y => ?_⟩
  · rw [size_put h.tidy, h.has, h.size]
    unfold pins
    by_cases hx : k ∈ P
    · rw [if_pos (decide_eq_true hx), if_pos hx]
    · rw [if_neg (by simp [hx]), if_neg hx]; rfl
  · by_cases e : y = k
    · subst e
      rw [has_put_same h.tidy.isMap (keyLit y)]
      unfold pins
      by_cases hx : y ∈ P
      · rw [if_pos hx]; simp [hx]
      · rw [if_neg hx]; simp
    · rw [has_put_other (by simpa using e), h.has]
      unfold pins
      by_cases hx : k ∈ P
      · rw [if_pos hx]
      · rw [if_neg hx]; simp [e]
theorem cell_map {w w1 : World} {k : TypeId} {b n : Nat} {D : DataW Value} (o : w.ownsMap Tryd.prog k tokR b n D) (hg : w.grownBy w1 (some b)) {p : Addr} {u : Value} (h0 : w.cell? p = some u) : w1.cell? p = some u := by
  obtain ⟨es, ck, hb, _⟩ := o
  unfold World.cell? at h0 ⊢
  by_cases e : p.block = b
  · rw [e, hb] at h0; simp at h0
  · cases hq : w.heap[p.block]? with
    | none => rw [hq] at h0; simp at h0
    | some q =>
      rw [hg.block _ (Array.getElem?_eq_some_iff.1 hq).1 (fun e1 => e (Option.some.inj e1)), hq]
      rw [hq] at h0; exact h0
set_option maxRecDepth 100000 in
set_option maxHeartbeats 4000000 in
/-- Pointing: how many pointers' blocks there are. -/
theorem pointing_calls (A : Option Addr) (c : Nat) (l : List Int) (w : World) (hC : Kd.C (Kd.int .i64) w A l.length l) (hl : l.length ≤ 1000000) :
    Calls Tryd.prog 13 #[.slice A l.length c] w fun e w' => e = .returned (.int .i64 ((pset l).length : Int)) ∧ Below w.heap.size w w' := by
  have hmm := @run_makeMap Tryd.prog
  have HC := Lib.hid hC
  have HB0 : Hid (Below w.heap.size w (w.alloc (.map #[] 0))) := (Below.refl _ w).alloc (Nat.le_refl _) _
  have HM0 : Hid ((w.alloc (.map #[] 0)).ownsMap Tryd.prog 3 tokR w.heap.size 0 (.map [])) := World.ownsMap_made w Tryd.prog 3 tokR
  clear hC
  go_enter Tryd.func13, Tryd.ntmps13
  go_wp2
  go_loopw [9] (fun i wr => ∃ (j : Nat) (D : DataW Value), j ≤ l.length ∧ i = .int .i64 j ∧ Hid (wr.ownsMap Tryd.prog 3 tokR w.heap.size (2 * j) D) ∧ Hid (IsI D (pset (l.take j))) ∧ Hid (Below w.heap.size w wr)) (fun i _ => (1000000 - intOf i).toNat)
  case atStart => exact ⟨0, .map [], by omega, rfl, HM0, IsI.nil, HB0⟩
  case round =>
    obtain ⟨j, D, hj, rfl, HM, HS, HB⟩ := hrel
    rcases Nat.lt_or_ge j l.length with hlt | hge
    · have hlt2 : (j : Int) < (l.length : Int) := by omega
      have hll : (l.length : Int) ≤ 1000000 := by omega
      obtain ⟨g0, o0, rfl, hcell⟩ := addr_of_C (Kd.C_below HC.out HB.out) (by omega)
      have hcj := hcell j hlt
      have hps := pset_succ hlt
      obtain ⟨k, hk⟩ : ∃ k, l[j] = k := ⟨_, rfl⟩
      rw [show l.getD j 0 = l[j] by simp [hlt], hk] at hcj
      rw [hk] at hps
      have HPS := Lib.hid hps
      have HN : Hid (2 * j < maxLen) := by show _ < _; unfold maxLen; omega
      clear hcell hps hk
      by_cases h1 : k < 16
      · have d1 : decide (k < 16) = true := decide_eq_true h1
        have HP : Hid (pset (l.take (j + 1)) = pset (l.take j)) := by show _ = _; rw [HPS.out]; unfold ppt; rw [if_pos (.inl h1)]
        clear h1
        go_wp2
        go_roundw
        case rel => exact ⟨j + 1, D, by omega, by simp, HM.out.mono (by omega), by rw [HP.out]; exact HS, HB⟩
        case measure => simp [intOf]; omega
      · have d1 : decide (k < 16) = false := decide_eq_false h1
        by_cases h2 : 828 ≤ k
        · have d2 : decide (828 ≤ k) = true := decide_eq_true h2
          have HP : Hid (pset (l.take (j + 1)) = pset (l.take j)) := by show _ = _; rw [HPS.out]; unfold ppt; rw [if_pos (.inr h2)]
          clear h1 h2
          go_wp2
          go_roundw
          case rel => exact ⟨j + 1, D, by omega, by simp, HM.out.mono (by omega), by rw [HP.out]; exact HS, HB⟩
          case measure => simp [intOf]; omega
        · have d2 : decide (828 ≤ k) = false := decide_eq_false h2
          by_cases h3 : k < 44
          · have d3 : decide (k < 44) = true := decide_eq_true h3
            have HP : Hid (pset (l.take (j + 1)) = pins (pset (l.take j)) (-1)) := by show _ = _; rw [HPS.out]; unfold ppt; rw [if_neg (by omega), if_pos h3]
            clear h1 h2 h3
            go_wp2_with (first
              | (at_mapUpdate; refine wpList_mapUpdate_own _ rfl _ _ _ 52 rfl 3 4 lawI Tryd.underlying52 tokR w.heap.size (2 * j) D rfl HM.out HN.out _ (.bool true) (.int .i64 (-1)) rfl rfl (keyOf_int_mk Tryd.underlying3 (by decide)) (tok (.bool true)) [] rfl ?_; intro W2 hM2 hg2)
              | go_in)
            have HB2 := Lib.hid (HB.out.grown hg2 HB.out.size (fun k e => by cases e; exact Nat.le_refl _))
            go_roundw
            case rel => exact ⟨j + 1, _, by omega, by simp, hM2.mono (by omega), by rw [HP.out]; exact HS.out.put _ _, HB2⟩
            case measure => simp [intOf]; omega
          · have d3 : decide (k < 44) = false := decide_eq_false h3
            have HP : Hid (pset (l.take (j + 1)) = pins (pins (pset (l.take j)) (-2)) ((k - 44) / 28)) := by show _ = _; rw [HPS.out]; unfold ppt; rw [if_neg (by omega), if_neg h3]
            have hs1 : IntKind.i64.wrap (k - 44) = k - 44 := IntWalk.i64_in _ (by omega)
            have hs2 : (k - 44).tdiv 28 = (k - 44) / 28 := Int.tdiv_eq_ediv_of_nonneg (by omega)
            have hs3 : IntKind.i64.wrap ((k - 44) / 28) = (k - 44) / 28 := IntWalk.i64_in _ (by omega)
            have HW : Hid ((Lit.int .i64 ((k - 44) / 28)).wf = true) := WalkArith.wf_i64 (by omega)
            have HN2 : Hid (2 * j + 1 < maxLen) := by show _ < _; unfold maxLen; omega
            clear h1 h2 h3
            go_wp2_with (first
              | (at_mapUpdate; refine wpList_mapUpdate_own _ rfl _ _ _ 52 rfl 3 4 lawI Tryd.underlying52 tokR w.heap.size (2 * j) D rfl HM.out HN.out _ (.bool true) (.int .i64 (-2)) rfl rfl (keyOf_int_mk Tryd.underlying3 (by decide)) (tok (.bool true)) [] rfl ?_; intro W2 hM2 hg2)
              | (at_mapUpdate; refine wpList_mapUpdate_own _ rfl _ _ _ 52 rfl 3 4 lawI Tryd.underlying52 tokR w.heap.size (2 * j + 1) _ rfl hM2 HN2.out _ (.bool true) (.int .i64 ((k - 44) / 28)) rfl rfl (keyOf_int_mk Tryd.underlying3 HW.out) (tok (.bool true)) [] rfl ?_; intro W3 hM3 hg3)
              | go_in)
            have HB2 := Lib.hid ((HB.out.grown hg2 HB.out.size (fun k e => by cases e; exact Nat.le_refl _)).grown hg3 (Nat.le_trans HB.out.size hg2.size) (fun k e => by cases e; exact Nat.le_refl _))
            go_roundw
            case rel => exact ⟨j + 1, _, by omega, by simp, hM3.mono (by omega), by rw [HP.out]; exact (HS.out.put _ _).put _ _, HB2⟩
            case measure => simp [intOf]; omega
    · obtain rfl : j = l.length := by omega
      rw [List.take_length] at HS
      have hsz := HS.out.size
      go_wp2_with (first
        | (at_len; refine wpList_len_own _ rfl _ 52 rfl 3 4 Tryd.underlying52 tokR w.heap.size (2 * l.length) D rfl HM.out ?_; rw [hsz])
        | go_in)
      go_ret
      exact ⟨rfl, HB.out⟩
set_option maxRecDepth 100000 in
set_option maxHeartbeats 4000000 in
theorem sum_D (p : Nat) (w : World) (hR : Root p w) : Calls Tryd.prog 24 #[treeV p, .func (.func 25) #[] #[]] w fun e w' => e = .returned (.int .i64 0) ∧ Below w.heap.size w w' := by
  have hb0 : Below w.heap.size w (w.alloc (.cells #[.slice (some ⟨p, 0, none⟩) 1 1] 34)) := (Below.refl _ w).alloc (Nat.le_refl _) _
  have hR0 := hR.below hb0
  have hT := Boxed.new w 34 (.slice (some ⟨p, 0, none⟩) 1 1)
  obtain ⟨W0, hW0⟩ : ∃ W0, w.alloc (.cells #[.slice (some ⟨p, 0, none⟩) 1 1] 34) = W0 := ⟨_, rfl⟩
  rw [hW0] at hb0 hR0 hT
  have ct := hT.cell
  have c0 : W0.cell? ⟨p, 0, none⟩ = some (.int .i64 2) := hR0.at_ 0 rfl
  have c1 : W0.cell? ⟨p, 1, none⟩ = some (.int .i64 2) := hR0.at_ 1 rfl
  have c2 : W0.cell? ⟨p, 2, none⟩ = some (.slice none 0 0) := hR0.at_ 2 rfl
  have c3 : W0.cell? ⟨p, 3, none⟩ = some (.slice none 0 0) := hR0.at_ 3 rfl
  go_enter Tryd.func24, Tryd.ntmps24
  go_wp2
  refine wp_loop_rounds 2 ?_
  rw [rounds_succ]
  go_wp2_with fail
  refine (says0_calls _).mono ?_
  rintro e W1 ⟨rfl, hb1⟩
  have hB1 : Below w.heap.size w W1 := (hb0.alloc hb0.size _).trans (hb1.mono (Nat.le_trans hb0.size (by simp)))
  go_wp2_with fail
  refine (there_calls none 0 [] W1 (by simp) (Nat.le_refl _) (Kd.C_nil _ _)).mono ?_
  rintro e W2 ⟨v, rfl, hrow, hb2⟩
  obtain ⟨A, cc, rfl, _, hC2⟩ := int_slice hrow
  have hB2 := hB1.trans (hb2.mono hB1.size)
  rw [show th [] (List.range (chN ([] : List Int).length)) = [] from rfl] at hC2 ⊢
  go_wp2_with fail
  refine (data1_calls A 0 cc _).mono ?_
  rintro e W3 ⟨rfl, rfl⟩
  go_wp2
  rw [rounds_succ]
  go_wp2
  go_ret
  exact ⟨rfl, hB2⟩
set_option maxRecDepth 100000 in
set_option maxHeartbeats 4000000 in
theorem sum_P (p : Nat) (w : World) (hR : Root p w) : Calls Tryd.prog 24 #[treeV p, .func (.func 13) #[] #[]] w fun e w' => e = .returned (.int .i64 0) ∧ Below w.heap.size w w' := by
  have hb0 : Below w.heap.size w (w.alloc (.cells #[.slice (some ⟨p, 0, none⟩) 1 1] 34)) := (Below.refl _ w).alloc (Nat.le_refl _) _
  have hR0 := hR.below hb0
  have hT := Boxed.new w 34 (.slice (some ⟨p, 0, none⟩) 1 1)
  obtain ⟨W0, hW0⟩ : ∃ W0, w.alloc (.cells #[.slice (some ⟨p, 0, none⟩) 1 1] 34) = W0 := ⟨_, rfl⟩
  rw [hW0] at hb0 hR0 hT
  have ct := hT.cell
  have c0 : W0.cell? ⟨p, 0, none⟩ = some (.int .i64 2) := hR0.at_ 0 rfl
  have c1 : W0.cell? ⟨p, 1, none⟩ = some (.int .i64 2) := hR0.at_ 1 rfl
  have c2 : W0.cell? ⟨p, 2, none⟩ = some (.slice none 0 0) := hR0.at_ 2 rfl
  have c3 : W0.cell? ⟨p, 3, none⟩ = some (.slice none 0 0) := hR0.at_ 3 rfl
  go_enter Tryd.func24, Tryd.ntmps24
  go_wp2
  refine wp_loop_rounds 2 ?_
  rw [rounds_succ]
  go_wp2_with fail
  refine (says0_calls _).mono ?_
  rintro e W1 ⟨rfl, hb1⟩
  have hB1 : Below w.heap.size w W1 := (hb0.alloc hb0.size _).trans (hb1.mono (Nat.le_trans hb0.size (by simp)))
  go_wp2_with fail
  refine (there_calls none 0 [] W1 (by simp) (Nat.le_refl _) (Kd.C_nil _ _)).mono ?_
  rintro e W2 ⟨v, rfl, hrow, hb2⟩
  obtain ⟨A, cc, rfl, _, hC2⟩ := int_slice hrow
  have hB2 := hB1.trans (hb2.mono hB1.size)
  rw [show th [] (List.range (chN ([] : List Int).length)) = [] from rfl] at hC2 ⊢
  go_wp2_with fail
  refine (pointing_calls A cc [] _ hC2 (by simp)).mono ?_
  rintro e W3 ⟨rfl, hb3⟩
  rw [show ((pset ([] : List Int)).length : Int) = 0 from rfl]
  have hB3 := hB2.trans (hb3.mono hB2.size)
  go_wp2
  rw [rounds_succ]
  go_wp2
  go_ret
  exact ⟨rfl, hB3⟩
set_option maxHeartbeats 2000000 in
theorem data0_calls (p : Nat) (w : World) (hR : Root p w) : Calls Tryd.prog 14 #[treeV p] w fun e w' => e = .returned (.int .i64 0) ∧ Below w.heap.size w w' := by
  have hb0 : Below w.heap.size w (w.alloc (.cells #[.slice (some ⟨p, 0, none⟩) 1 1] 34)) := (Below.refl _ w).alloc (Nat.le_refl _) _
  have hR0 := hR.below hb0
  go_enter Tryd.func14, Tryd.ntmps14
  go_wp2_with fail
  refine (sum_D p _ hR0).mono ?_
  rintro e W1 ⟨rfl, hb1⟩
  go_wp2
  go_ret
  exact ⟨rfl, hb0.trans (hb1.mono hb0.size)⟩
set_option maxHeartbeats 2000000 in
theorem more0_calls (p : Nat) (w : World) (hR : Root p w) : Calls Tryd.prog 15 #[treeV p] w fun e w' => e = .returned (.int .i64 4) ∧ Below w.heap.size w w' := by
  have hb0 : Below w.heap.size w (w.alloc (.cells #[.slice (some ⟨p, 0, none⟩) 1 1] 34)) := (Below.refl _ w).alloc (Nat.le_refl _) _
  have hR0 := hR.below hb0
  have hT := Boxed.new w 34 (.slice (some ⟨p, 0, none⟩) 1 1)
  obtain ⟨W0, hW0⟩ : ∃ W0, w.alloc (.cells #[.slice (some ⟨p, 0, none⟩) 1 1] 34) = W0 := ⟨_, rfl⟩
  rw [hW0] at hb0 hR0 hT
  have ct := hT.cell
  go_enter Tryd.func15, Tryd.ntmps15
  go_wp2_with fail
  go_region_held3 (fun w' => Below w.heap.size w w' ∧ w'.cell? ⟨w.heap.size, 0, none⟩ = some (.slice (some ⟨p, 0, none⟩) 1 1) ∧ Root p w') ((repeat' apply And.intro) <;> first | assumption | exact below_drew hb0 | exact hR0.below (below_drew (Below.refl _ _)) | (simp only [World.cell?_drew]; assumption))
    (first | (go_at_call 24; obtain ⟨Z0, Z1, Z2⟩ := ‹Below w.heap.size w _ ∧ _›; refine (sum_P p _ Z2).mono ?_; rintro e w7 ⟨rfl, hb⟩; have Y0 := Z0.trans (hb.mono Z0.size); have Y1 := pw_cell_below hb Z1; have Y2 := Z2.below hb))
  have HBF := (‹Below w.heap.size w _ ∧ _›).1
  go_wp2
  go_ret
  exact ⟨rfl, HBF⟩
end Go.Proofs.YtfkkhobbmcepmaaDoor.Given
