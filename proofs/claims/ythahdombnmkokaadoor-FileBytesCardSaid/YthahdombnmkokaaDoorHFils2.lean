/- HFils2: HivFil6, HivFil7, HivFil8, HivFil9, HivFil10, HivFil11, HivFil12. -/
import Derived.Test.YthahdombnmkokaaDoorHFils1
import Derived.Lib.SliceRun
import Derived.Test.YthahdombnmkokaaDoorGivRecs
/- file.File: Trunc; by hand (genfil6.py). -/
namespace Go.Proofs.YthahdombnmkokaaDoor.Given
open Go.RowKit Go.Maps Go.Sort Go.Shelf Go.Proofs.YthahdombnmkokaaDoorW.PrintWords Go.Proofs.YthahdombnmkokaaDoorW.PrintLast Go.Proofs.YthahdombnmkokaaDoorW.PrintMore Go.Proofs.YthahdombnmkokaaDoor.Base
set_option linter.unusedVariables false
set_option linter.unusedSimpArgs false
variable {G : Nat → Prop}
theorem nb_f (n : Nat) (hn : n ≤ 46368) : inode_Blocks.f (n : Int) = some (((n + 55) / 56 : Nat) : Int) := by
  unfold inode_Blocks.f
  rw [if_neg (by omega), if_neg (by omega), w64 (n := (n : Int) + 56) (by omega) (by omega), w64 (n := (n : Int) + 56 - 1) (by omega) (by omega), Int.tdiv_eq_ediv_of_nonneg (by omega), w64 (by omega) (by omega)]
  congr 1
  omega
theorem nb_calls (n nb : Nat) (hn : n ≤ 46368) (e : nb = (n + 55) / 56) (w : World) : Calls Tryd.prog 24 #[.int .i64 (n : Int)] w fun e w' => e = .returned (.int .i64 (nb : Int)) ∧ Below w.heap.size w w' := by
  refine (inode_Blocks.calls _ _ w (nb_f n hn)).mono ?_
  rintro e w' ⟨rfl, nd, rfl⟩
  subst e
  exact ⟨rfl, pw_below_drewN (Below.refl _ _) nd⟩
theorem contains_at (A : Option Addr) (c : Nat) (M : List Int) (x : Int) (w : World) (h : Kd.C (Kd.int .i64) w A M.length M) :
    Calls Tryd.prog 29 #[.slice A M.length c, .int .i64 x] w fun e w' => e = .returned (.bool (M.contains x)) ∧ w' = w := by
  rcases Nat.eq_zero_or_pos M.length with h0 | h0
  · obtain rfl : M = [] := List.eq_nil_of_length_eq_zero h0
    exact Tryd.slices_Contains_int_empty A c x w
  · obtain ⟨b, off, rfl, hc⟩ := addr_of_C8 h h0
    have := Tryd.slices_Contains_int b off M.length c M x w (Nat.le_refl _) h.2.1 hc
    rwa [List.take_length] at this
theorem setCells_heap {g : Nat} {t : TypeId} : ∀ (vs : List Value) (o : Nat) (w : World) (cur : List Value), w.heap[g]? = some (.cells cur.toArray t (0, 0)) → o + vs.length ≤ cur.length → (w.setCells g o vs).heap[g]? = some (.cells (splice cur o vs).toArray t (0, 0))
  | [], o, w, cur, h, _ => by
    have e : splice cur o [] = cur := by simp [splice]
    rw [e]; exact h
  | v :: vs, o, w, cur, h, hl => by
    have h1 := blk_set h o v
    have e1 : cur.toArray.setIfInBounds o v = (cur.set o v).toArray := by simp
    rw [e1] at h1
    have h2 := setCells_heap vs (o + 1) (w.setCell ⟨g, o, none⟩ v) (cur.set o v) h1 (by rw [List.length_set]; simp at hl; omega)
    have e2 : splice (cur.set o v) (o + 1) vs = splice cur o (v :: vs) := by
      simp at hl
      refine List.ext_getElem? fun i => ?_
      rw [splice_get _ _ _ (by rw [List.length_set]; omega), splice_get _ _ _ (by simp; omega), List.length_cons]
      by_cases a1 : i < o
      · rw [if_pos (by omega), if_pos a1, List.getElem?_set, if_neg (by omega)]
      · rw [if_neg a1]
        by_cases a2 : i = o
        · subst a2
          rw [if_pos (by omega), if_pos (by omega), List.getElem?_set, if_pos rfl, if_pos (by omega), Nat.sub_self]
          rfl
        · rw [if_neg (by omega)]
          by_cases a3 : i < o + 1 + vs.length
          · rw [if_pos a3, if_pos (by omega), show i - o = (i - (o + 1)) + 1 by omega, List.getElem?_cons_succ]
          · rw [if_neg a3, if_neg (by omega), List.getElem?_set, if_neg (by omega)]
    rw [← e2]
    exact h2
theorem setCells_below {g base : Nat} {w0 : World} (hg : base ≤ g) : ∀ (vs : List Value) (o : Nat) (w : World), Below base w0 w → base ≤ w.heap.size → Below base w0 (w.setCells g o vs)
  | [], _, w, h, _ => h
  | v :: vs, o, w, h, hs => setCells_below hg vs (o + 1) (w.setCell ⟨g, o, none⟩ v) (h.grown (grown_set _ _ _ _) hs (fun q e => by cases e; exact hg)) (Nat.le_trans hs (grown_set w g o v).size)
/-- A row cut short, noughts behind it. -/
def trow (r : List Int) (rest : Nat) : List Int := splice r rest (List.replicate (56 - rest) 0)
theorem trow_len (r : List Int) (rest : Nat) (h : r.length = 56) (hr : rest ≤ 56) : (trow r rest).length = 56 := by
  unfold trow
  rw [splice_len _ _ _ (by rw [List.length_replicate]; omega), h]
theorem zeroU (w : World) : (zeroValue 5).run Tryd.prog w = .ok (.int .u8 0) w := by kernel_rfl
/-- What a Trunc leaves. -/
def Trunced (G : Nat → Prop) (q p bA bF N : Nat) (size : Int) (a : Int → Option Int) (f : Int → Option (List Int)) (fr : Value) (o : Int → Option (List Int)) (n : Nat) (w w' : World) (e : Ending) : Prop :=
  (e = .returned (.int .i64 14) ∧ (∃ k : Nat, o (k : Int) = none) ∧ Below w.heap.size w w') ∨
  (e = .returned (.int .i64 0) ∧ FT q bA bF w w' ∧
    ((¬ ((n : Int) < size ∧ n % 56 ≠ 0 ∧ (a ((n / 56 : Nat) : Int) ≠ none ∨ f ((n / 56 : Nat) : Int) ≠ none)) ∧ FX G w' q p bA bF (N + 1) n (cutF (((n + 55) / 56 : Nat) : Int) a) (cutF (((n + 55) / 56 : Nat) : Int) f) fr) ∨
     ((n : Int) < size ∧ n % 56 ≠ 0 ∧ FX G w' q p bA bF (N + 1) n (cutF (((n + 55) / 56 : Nat) : Int) (setF a ((n / 56 : Nat) : Int) none)) (cutF (((n + 55) / 56 : Nat) : Int) (setF f ((n / 56 : Nat) : Int) (nrm (trow ((o ((n / 56 : Nat) : Int)).getD zrow) (n % 56))))) fr)))
theorem trunc_bad (q : Nat) (n : Int) (w : World) (h : n < 0 ∨ 46368 < n) : Calls Tryd.prog 11 #[.pointer (some ⟨q, 0, none⟩), .int .i64 n] w fun e w' => e = .returned (.int .i64 28) ∧ w = w' := by
  by_cases h1 : n < 0
  · have d0 : decide (n < 0) = true := decide_eq_true h1
    clear h h1
    go_enter Tryd.func11, Tryd.ntmps11
    go_wp2
    go_ret
    exact ⟨rfl, rfl⟩
  · have d0 : decide (n < 0) = false := decide_eq_false h1
    have d1 : decide (46368 < n) = true := decide_eq_true (by omega)
    clear h h1
    go_enter Tryd.func11, Tryd.ntmps11
    go_wp2
    go_ret
    exact ⟨rfl, rfl⟩
set_option maxRecDepth 100000 in
set_option maxHeartbeats 16000000 in
theorem trunc_good {w : World} {q p bA bF N : Nat} {size : Int} {a : Int → Option Int} {f : Int → Option (List Int)} {fr : Value} (h : FX G w q p bA bF N size a f fr) (hN : N < 900000) (hd : ∀ k, f k ≠ none → a k = none) {o : Int → Option (List Int)} (hT : Tells w q o) (n : Nat) (hn : n ≤ 46368) (hG : ∀ b, w.heap.size ≤ b → G b) :
    Calls Tryd.prog 11 #[.pointer (some ⟨q, 0, none⟩), .int .i64 (n : Int)] w fun e w' => Trunced G q p bA bF N size a f fr o n w w' e := by
  have d0 : decide ((n : Int) < 0) = false := decide_eq_false (by omega)
  have d1 : decide (46368 < (n : Int)) = false := decide_eq_false (by omega)
  have hu := Tryd.underlying61
  have c00 : w.cell? ⟨q, 0, none⟩ = some (.int .i64 size) := (blk_cell h.hq 0).trans rfl
  obtain ⟨kk, hkk⟩ : ∃ kk : Nat, kk = n / 56 := ⟨_, rfl⟩
  obtain ⟨rest, hrest⟩ : ∃ rest : Nat, rest = n % 56 := ⟨_, rfl⟩
  obtain ⟨nb, hnb⟩ : ∃ nb : Nat, nb = (n + 55) / 56 := ⟨_, rfl⟩
  have eQ : Int.tdiv (n : Int) 56 = (kk : Int) := by rw [Int.tdiv_eq_ediv_of_nonneg (by omega)]; omega
  have eM : Int.tmod (n : Int) 56 = (rest : Int) := by rw [Int.tmod_eq_emod_of_nonneg (by omega)]; omega
  have hr56 : (rest : Int) ≤ 55 := by omega
  have hk8 : (kk : Int) ≤ 828 := by omega
  have hnn : (n : Int) ≤ 46368 := by omega
  have HX := Lib.hid h
  have HGG := Lib.hid hG
  have HT := Lib.hid hT
  have HD := Lib.hid hd
  have HNN := Lib.hid hn
  have HKK := Lib.hid hkk
  have HRE := Lib.hid hrest
  have HNB := Lib.hid hnb
  have HW0 : Hid (w.heap.size ≤ w.heap.size) := Nat.le_refl _
  unfold Trunced
  rw [← hkk, ← hrest, ← hnb]
  clear h hT hd hkk hrest hnb hn hG
  by_cases hp : (n : Int) < size ∧ rest ≠ 0
  · have d2 : decide ((n : Int) < size) = true := decide_eq_true hp.1
    have d4 : decide (0 < rest) = true := decide_eq_true (by have := hp.2; omega)
    have d3 : decide (0 < (rest : Int)) = true := decide_eq_true (by have := hp.2; omega)
    have HP := Lib.hid hp
    have HKW : Hid ((Lit.int .i64 (kk : Int)).wf = true) := wf_i (by omega) (by omega)
    clear hp
    go_enter Tryd.func11, Tryd.ntmps11
    go_wp2_with fail
    refine (HT.out w (Below.refl _ _) (kk : Int) HKW.out).mono ?_
    rintro e w1 ⟨hB, hG⟩
    have HB1 := Lib.hid hB
    clear hB
    cases ho : o (kk : Int) with
    | none =>
      rw [ho] at hG
      obtain rfl := hG
      have HNO := Lib.hid ho
      clear ho
      go_wp2
      go_ret
      exact Or.inl ⟨rfl, ⟨kk, HNO.out⟩, HB1.out⟩
    | some r =>
      rw [ho] at hG
      obtain ⟨h56, A6, c6, rfl, hc6, hC6⟩ := hG
      have H56 := Lib.hid h56
      have HC6 := Lib.hid hC6
      have HC66 := Lib.hid hc6
      have HX1 := Lib.hid (HX.out.below HB1.out)
      have c10 : w1.cell? ⟨q, 1, none⟩ = some (.pointer (some ⟨p, 0, none⟩)) := (blk_cell HX1.out.hq 1).trans rfl
      have HRO : Hid ((o (kk : Int)).getD zrow = r) := by show _ = _; rw [ho]; rfl
      clear ho h56 hC6 hc6
      go_wp2_with fail
      refine (there_calls HX1.out.bx.bm (by omega) HD.out).mono ?_
      rintro e w2 ⟨v2, M, rfl, hM, hrow, hB2⟩
      obtain ⟨Am, cm, rfl, hcm, hCm⟩ := int_slice hrow
      have HX2 := Lib.hid (HX1.out.below hB2)
      have HB2 : Hid (Below w.heap.size w w2) := HB1.out.trans (hB2.mono HB1.out.size)
      have HCM := Lib.hid hCm
      have HM := Lib.hid hM
      have HC62 := Lib.hid (Kd.C_below HC6.out hB2)
      clear hM hrow hB2 hcm hCm
      go_wp2_with fail
      refine (contains_at Am cm M (kk : Int) w2 HCM.out).mono ?_
      rintro e w3 ⟨rfl, rfl⟩
      have HFt2 : Hid (FT q bA bF w w3) := FT.below HB2.out
      cases hcc : M.contains (kk : Int) with
      | false =>
        have HNO : Hid (¬ ((n : Int) < size ∧ rest ≠ 0 ∧ (a (kk : Int) ≠ none ∨ f (kk : Int) ≠ none))) := fun hq => by
          have := (HM.out.2 (kk : Int)).2 hq.2.2
          rw [← List.contains_iff_mem] at this
          rw [hcc] at this
          cases this
        clear hcc
        have hdr := below_drew (Below.refl w3.heap.size w3)
        have HXd := Lib.hid (HX2.out.below hdr)
        have HFd := Lib.hid (HFt2.out.trans (FT.below (q := q) (bA := bA) (bF := bF) hdr))
        have c4 : w3.drew.cell? ⟨q, 1, none⟩ = some (.pointer (some ⟨p, 0, none⟩)) := (blk_cell HXd.out.hq 1).trans rfl
        clear hdr
        go_wp2_with fail
        go_region_held3 (fun w' => w'.cell? ⟨q, 1, none⟩ = some (.pointer (some ⟨p, 0, none⟩))) (first | exact c4 | exact c5 | exact c6 | go_keep) (first | (go_at_call 24; refine (nb_calls n nb HNN.out HNB.out _).mono ?_; rintro e w5 ⟨rfl, hb5⟩; have HX5b := Lib.hid (HXd.out.below hb5); have HF5b := Lib.hid (HFd.out.trans (FT.below hb5)); have c5 : w5.cell? ⟨q, 1, none⟩ = some (.pointer (some ⟨p, 0, none⟩)) := (blk_cell HX5b.out.hq 1).trans rfl; clear hb5) | (go_at_call 31; refine (cut_callsT HX5b.out.bx _).mono ?_; rintro e w6b ⟨rfl, hX6, hT6⟩; have HX6b := Lib.hid (HX5b.out.map hT6 hX6); have HF6b := Lib.hid (HF5b.out.trans (FT.map HX5b.out.bx hT6)); have c6 : w6b.cell? ⟨q, 1, none⟩ = some (.pointer (some ⟨p, 0, none⟩)) := (blk_cell HX6b.out.hq 1).trans rfl; clear hX6 hT6))
        all_goals
          have z0 := blk_thaw HX6b.out.hq 0
          have c06 : w6b.cell? ⟨q, 0, none⟩ = some (.int .i64 size) := (blk_cell HX6b.out.hq 0).trans rfl
          have HX7 := Lib.hid (HX6b.out.sized (n : Int))
          have HF7 := Lib.hid (HF6b.out.trans (FT.set HX6b.out (n1 := (n : Int))))
          go_wp2
          go_ret
          exact Or.inr ⟨rfl, HF7.out, Or.inl ⟨HNO.out, HX7.out.mono (Nat.le_succ _)⟩⟩
      | true =>
        clear hcc
        obtain ⟨ad6, rfl, _⟩ := HC62.out.2.2 (by decide)
        have hcl := clone_some ad6 c6 r w3 (by rw [H56.out]; exact HC62.out) (by have := H56.out; omega)
        rw [H56.out] at hcl
        have HCL := Lib.hid hcl
        clear hcl
        go_wp2_with fail
        refine HCL.out.mono ?_
        clear HCL
        rintro e w4 ⟨v4, rfl, hR4, hB4⟩
        obtain ⟨A7, c7, rfl⟩ := Kd.R_slice hR4
        obtain ⟨g, cur, rfl, _, hc7, hg, hheap, hcurl, hshut⟩ := R_open hR4 (by rw [H56.out]; decide)
        rw [H56.out] at hc7 hshut ⊢
        have HX4 := Lib.hid (HX2.out.below hB4)
        have HB4 : Hid (Below w.heap.size w w4) := HB2.out.trans (hB4.mono HB2.out.size)
        have hcutb := cut_own g 56 c7 rest (by omega) (by omega)
        have hcl : ∀ ty, (Builtin.clear_ #[34] ty #[.slice (some ⟨g, rest, none⟩) (56 - rest) (c7 - rest)]).run Tryd.prog w4 = .ok (.tuple #[]) (w4.setCells g rest (List.replicate (56 - rest) (.int .u8 0))) :=
          fun ty => Lib.run_clear_slice w4 _ _ ty _ Tryd.underlying34 zeroU rfl rfl g rest _ _ (by omega) (fun j hj => by rw [blk_cell hheap]; simp; omega) (fun j hj => blk_thaw hheap _)
        have hB5 : Below w3.heap.size w3 (w4.setCells g rest (List.replicate (56 - rest) (.int .u8 0))) := setCells_below hg _ _ _ hB4 hB4.size
        have HX5 := Lib.hid (HX2.out.below hB5)
        have HB5 : Hid (Below w.heap.size w (w4.setCells g rest (List.replicate (56 - rest) (.int .u8 0)))) := HB2.out.trans (hB5.mono HB2.out.size)
        have hR5 := hshut (w4.setCells g rest (List.replicate (56 - rest) (.int .u8 0))) rest (List.replicate (56 - rest) 0) (by
          have e1 : encs (Value.int .u8) (List.replicate (56 - rest) 0) = List.replicate (56 - rest) (.int .u8 0) := by simp [encs]
          rw [e1]
          exact setCells_heap _ _ _ _ hheap (by rw [List.length_replicate]; omega)) (by rw [List.length_replicate]; omega)
        have HR5 := Lib.hid (show Kd.R (Kd.int .u8) 5 _ _ _ _ (trow r rest) from hR5)
        have HT56 : Hid ((trow r rest).length = 56) := trow_len r rest H56.out (by omega)
        have hC5 := (Kd.R_reads' HR5.out).2.2
        have HC5 := Lib.hid hC5
        obtain ⟨W5, hW5⟩ : ∃ W5, W5 = w4.setCells g rest (List.replicate (56 - rest) (.int .u8 0)) := ⟨_, rfl⟩
        rw [← hW5] at HX5 HB5 HC5 hcl
        have c51 : W5.cell? ⟨q, 1, none⟩ = some (.pointer (some ⟨p, 0, none⟩)) := (blk_cell HX5.out.hq 1).trans rfl
        have HC7 := Lib.hid hc7
        clear hR4 hB4 hg hheap hcurl hshut hB5 hR5 HR5 hC5 hW5 hc7
        go_wp2_with fail
        refine (put_allT HX5.out.bx (by omega) (kk : Int) (by omega) (by have := HNN.out; have := HKK.out; have := HP.out.2; have := HRE.out; omega) (some ⟨g, 0, none⟩) c7 (trow r rest) HT56.out HC7.out HC5.out (fun b hb => HGG.out b (Nat.le_trans HB5.out.size hb))).mono ?_
        rintro e w6 ⟨rfl, hX, hTt⟩
        have HX6 := Lib.hid (HX5.out.map hTt hX)
        have HFt6 : Hid (FT q bA bF w w6) := (FT.below HB5.out).trans (FT.map HX5.out.bx hTt)
        clear hX hTt
        have hdr := below_drew (Below.refl w6.heap.size w6)
        have HXd := Lib.hid (HX6.out.below hdr)
        have HFd := Lib.hid (HFt6.out.trans (FT.below (q := q) (bA := bA) (bF := bF) hdr))
        have c4 : w6.drew.cell? ⟨q, 1, none⟩ = some (.pointer (some ⟨p, 0, none⟩)) := (blk_cell HXd.out.hq 1).trans rfl
        clear hdr
        go_wp2_with fail
        go_region_held3 (fun w' => w'.cell? ⟨q, 1, none⟩ = some (.pointer (some ⟨p, 0, none⟩))) (first | exact c4 | exact c5 | exact c6 | go_keep) (first | (go_at_call 24; refine (nb_calls n nb HNN.out HNB.out _).mono ?_; rintro e w5 ⟨rfl, hb5⟩; have HX5b := Lib.hid (HXd.out.below hb5); have HF5b := Lib.hid (HFd.out.trans (FT.below hb5)); have c5 : w5.cell? ⟨q, 1, none⟩ = some (.pointer (some ⟨p, 0, none⟩)) := (blk_cell HX5b.out.hq 1).trans rfl; clear hb5) | (go_at_call 31; refine (cut_callsT HX5b.out.bx _).mono ?_; rintro e w6b ⟨rfl, hX6, hT6⟩; have HX6b := Lib.hid (HX5b.out.map hT6 hX6); have HF6b := Lib.hid (HF5b.out.trans (FT.map HX5b.out.bx hT6)); have c6 : w6b.cell? ⟨q, 1, none⟩ = some (.pointer (some ⟨p, 0, none⟩)) := (blk_cell HX6b.out.hq 1).trans rfl; clear hX6 hT6))
        all_goals
          have z0 := blk_thaw HX6b.out.hq 0
          have c06 : w6b.cell? ⟨q, 0, none⟩ = some (.int .i64 size) := (blk_cell HX6b.out.hq 0).trans rfl
          have HX7 := Lib.hid (HX6b.out.sized (n : Int))
          have HF7 := Lib.hid (HF6b.out.trans (FT.set HX6b.out (n1 := (n : Int))))
          go_wp2
          go_ret
          exact Or.inr ⟨rfl, HF7.out, Or.inr ⟨HP.out.1, HP.out.2, by rw [HRO.out]; exact HX7.out⟩⟩
  · have hnot : ¬ ((n : Int) < size ∧ rest ≠ 0 ∧ (a (kk : Int) ≠ none ∨ f (kk : Int) ≠ none)) := fun hq => hp ⟨hq.1, hq.2.1⟩
    have HNO := Lib.hid hnot
    have HFt := Lib.hid (FT.refl q bA bF w)
    by_cases hs : (n : Int) < size
    · have d2 : decide ((n : Int) < size) = true := decide_eq_true hs
      have d3 : decide (0 < (rest : Int)) = false := decide_eq_false (fun hq => hp ⟨hs, by omega⟩)
      have d4 : decide (0 < rest) = false := decide_eq_false (fun hq => hp ⟨hs, by omega⟩)
      clear hp hs hnot
      go_enter Tryd.func11, Tryd.ntmps11
      have hdr := below_drew (Below.refl w.heap.size w)
      have HXd := Lib.hid (HX.out.below hdr)
      have HFd := Lib.hid (HFt.out.trans (FT.below (q := q) (bA := bA) (bF := bF) hdr))
      have c4 : w.drew.cell? ⟨q, 1, none⟩ = some (.pointer (some ⟨p, 0, none⟩)) := (blk_cell HXd.out.hq 1).trans rfl
      clear hdr
      go_wp2_with fail
      go_region_held3 (fun w' => w'.cell? ⟨q, 1, none⟩ = some (.pointer (some ⟨p, 0, none⟩))) (first | exact c4 | exact c5 | exact c6 | go_keep) (first | (go_at_call 24; refine (nb_calls n nb HNN.out HNB.out _).mono ?_; rintro e w5 ⟨rfl, hb5⟩; have HX5b := Lib.hid (HXd.out.below hb5); have HF5b := Lib.hid (HFd.out.trans (FT.below hb5)); have c5 : w5.cell? ⟨q, 1, none⟩ = some (.pointer (some ⟨p, 0, none⟩)) := (blk_cell HX5b.out.hq 1).trans rfl; clear hb5) | (go_at_call 31; refine (cut_callsT HX5b.out.bx _).mono ?_; rintro e w6b ⟨rfl, hX6, hT6⟩; have HX6b := Lib.hid (HX5b.out.map hT6 hX6); have HF6b := Lib.hid (HF5b.out.trans (FT.map HX5b.out.bx hT6)); have c6 : w6b.cell? ⟨q, 1, none⟩ = some (.pointer (some ⟨p, 0, none⟩)) := (blk_cell HX6b.out.hq 1).trans rfl; clear hX6 hT6))
      all_goals
        have z0 := blk_thaw HX6b.out.hq 0
        have c06 : w6b.cell? ⟨q, 0, none⟩ = some (.int .i64 size) := (blk_cell HX6b.out.hq 0).trans rfl
        have HX7 := Lib.hid (HX6b.out.sized (n : Int))
        have HF7 := Lib.hid (HF6b.out.trans (FT.set HX6b.out (n1 := (n : Int))))
        go_wp2
        go_ret
        exact Or.inr ⟨rfl, HF7.out, Or.inl ⟨HNO.out, HX7.out.mono (Nat.le_succ _)⟩⟩
    · have d2 : decide ((n : Int) < size) = false := decide_eq_false hs
      clear hp hs hnot
      go_enter Tryd.func11, Tryd.ntmps11
      have hdr := below_drew (Below.refl w.heap.size w)
      have HXd := Lib.hid (HX.out.below hdr)
      have HFd := Lib.hid (HFt.out.trans (FT.below (q := q) (bA := bA) (bF := bF) hdr))
      have c4 : w.drew.cell? ⟨q, 1, none⟩ = some (.pointer (some ⟨p, 0, none⟩)) := (blk_cell HXd.out.hq 1).trans rfl
      clear hdr
      go_wp2_with fail
      go_region_held3 (fun w' => w'.cell? ⟨q, 1, none⟩ = some (.pointer (some ⟨p, 0, none⟩))) (first | exact c4 | exact c5 | exact c6 | go_keep) (first | (go_at_call 24; refine (nb_calls n nb HNN.out HNB.out _).mono ?_; rintro e w5 ⟨rfl, hb5⟩; have HX5b := Lib.hid (HXd.out.below hb5); have HF5b := Lib.hid (HFd.out.trans (FT.below hb5)); have c5 : w5.cell? ⟨q, 1, none⟩ = some (.pointer (some ⟨p, 0, none⟩)) := (blk_cell HX5b.out.hq 1).trans rfl; clear hb5) | (go_at_call 31; refine (cut_callsT HX5b.out.bx _).mono ?_; rintro e w6b ⟨rfl, hX6, hT6⟩; have HX6b := Lib.hid (HX5b.out.map hT6 hX6); have HF6b := Lib.hid (HF5b.out.trans (FT.map HX5b.out.bx hT6)); have c6 : w6b.cell? ⟨q, 1, none⟩ = some (.pointer (some ⟨p, 0, none⟩)) := (blk_cell HX6b.out.hq 1).trans rfl; clear hX6 hT6))
      all_goals
        have z0 := blk_thaw HX6b.out.hq 0
        have c06 : w6b.cell? ⟨q, 0, none⟩ = some (.int .i64 size) := (blk_cell HX6b.out.hq 0).trans rfl
        have HX7 := Lib.hid (HX6b.out.sized (n : Int))
        have HF7 := Lib.hid (HF6b.out.trans (FT.set HX6b.out (n1 := (n : Int))))
        go_wp2
        go_ret
        exact Or.inr ⟨rfl, HF7.out, Or.inl ⟨HNO.out, HX7.out.mono (Nat.le_succ _)⟩⟩
end Go.Proofs.YthahdombnmkokaaDoor.Given

/- file.File: Read, where every block can be read; by hand. -/
namespace Go.Proofs.YthahdombnmkokaaDoor.Given
open Go.RowKit Go.Maps Go.Sort Go.Shelf Go.Proofs.YthahdombnmkokaaDoorW.PrintWords Go.Proofs.YthahdombnmkokaaDoorW.PrintLast Go.Proofs.YthahdombnmkokaaDoorW.PrintMore Go.Proofs.YthahdombnmkokaaDoor.Base
set_option linter.unusedVariables false
set_option linter.unusedSimpArgs false
variable {G : Nat → Prop}
def bytO (o : Int → Option (List Int)) (i : Nat) : Int := ((o ((i / 56 : Nat) : Int)).getD zrow).getD (i % 56) 0
/-- cnt bytes of a file from a place on. -/
def readL (o : Int → Option (List Int)) (A0 cnt : Nat) : List Int := (List.range cnt).map fun i => bytO o (A0 + i)
theorem readL_len (o : Int → Option (List Int)) (A0 cnt : Nat) : (readL o A0 cnt).length = cnt := by simp [readL]
theorem readL_get (o : Int → Option (List Int)) (A0 cnt i : Nat) (h : i < cnt) : (readL o A0 cnt)[i]? = some (bytO o (A0 + i)) := by simp [readL, h]
theorem readL_add (o : Int → Option (List Int)) (A0 m n : Nat) : readL o A0 (m + n) = readL o A0 m ++ readL o (A0 + m) n := by
  refine List.ext_getElem? fun i => ?_
  by_cases h1 : i < m
  · rw [List.getElem?_append_left (by rw [readL_len]; exact h1), readL_get _ _ _ _ h1, readL_get _ _ _ _ (by omega)]
  · rw [List.getElem?_append_right (by rw [readL_len]; omega), readL_len]
    by_cases h2 : i < m + n
    · rw [readL_get _ _ _ _ h2, readL_get _ _ _ _ (by omega), show A0 + m + (i - m) = A0 + i by omega]
    · rw [List.getElem?_eq_none (by rw [readL_len]; omega), List.getElem?_eq_none (by rw [readL_len]; omega)]
theorem part_row (o : Int → Option (List Int)) (t k fo hi : Nat) (r : List Int) (ho : o (k : Int) = some r) (h56 : r.length = 56) (e : t = k * 56 + fo) (hf : fo ≤ hi) (hh : hi ≤ 56) : (r.take hi).drop fo = readL o t (hi - fo) := by
  refine List.ext_getElem? fun i => ?_
  rw [List.getElem?_drop, List.getElem?_take]
  by_cases h : i < hi - fo
  · rw [if_pos (by omega), readL_get _ _ _ _ h]
    unfold bytO
    rw [show (t + i) / 56 = k by omega, ho, show (t + i) % 56 = fo + i by omega, Option.getD_some, List.getD_eq_getElem?_getD, List.getElem?_eq_getElem (by omega)]
    rfl
  · rw [if_neg (by omega), List.getElem?_eq_none (by rw [readL_len]; omega)]
theorem mid_read {w : World} {A : Option Addr} {c : Nat} {xs : List Int} (h : Kd.C (Kd.int .u8) w A 56 xs) (h56 : xs.length = 56) (hc : 56 ≤ c) (lo hi : Nat) (h1 : lo ≤ hi) (h2 : hi ≤ 56) :
    ∃ A', (∀ W : World, (Instr.slice 34 (.slice A 56 c) (some (.int .i64 (lo : Int))) (some (.int .i64 (hi : Int))) none).run Tryd.prog W = .ok (.slice A' (hi - lo) (c - lo)) W) ∧ Kd.C (Kd.int .u8) w A' (hi - lo) ((xs.take hi).drop lo) := by
  obtain ⟨i, hi', hsz⟩ := info8
  have hl : ((xs.take hi).drop lo).length = hi - lo := by rw [List.length_drop, List.length_take]; omega
  have hC := Kd.C_mid (k := Kd.int .u8) (lo := lo) (hi := hi) (c := c) (by rw [h56]; exact h) h1 (by omega) (by omega)
  rw [hl] at hC
  refine ⟨_, fun W => ?_, hC⟩
  have := cut_mid (P := Tryd.prog) 34 5 .i64 .i64 Tryd.underlying34 hi' 1 hsz A 56 c (lo : Int) (hi : Int) (by omega) (by omega) (by omega) hc W
  rw [Int.toNat_natCast, Int.toNat_natCast] at this
  exact this
theorem read_bad (q : Nat) (at_ n : Int) (w : World) (h : at_ < 0 ∨ n < 0) : Calls Tryd.prog 12 #[.pointer (some ⟨q, 0, none⟩), .int .i64 at_, .int .i64 n] w fun e w' => e = .returned (.tuple #[.slice none 0 0, .int .i64 28]) ∧ w = w' := by
  by_cases h1 : at_ < 0
  · have d0 : decide (at_ < 0) = true := decide_eq_true h1
    clear h h1
    go_enter Tryd.func12, Tryd.ntmps12
    go_wp2
    go_ret2
    exact ⟨rfl, rfl⟩
  · have d0 : decide (at_ < 0) = false := decide_eq_false h1
    have d1 : decide (n < 0) = true := decide_eq_true (by omega)
    clear h h1
    go_enter Tryd.func12, Tryd.ntmps12
    go_wp2
    go_ret2
    exact ⟨rfl, rfl⟩
set_option maxRecDepth 100000 in
set_option maxHeartbeats 8000000 in
theorem read_good {w : World} {q p bA bF N size : Nat} {a : Int → Option Int} {f : Int → Option (List Int)} {fr : Value} (h : FX G w q p bA bF N size a f fr) (hsz : size ≤ 46368) {o : Int → Option (List Int)} (hT : Tells w q o) (hall : ∀ k : Nat, o (k : Int) ≠ none) (at0 n : Nat) (ha : at0 ≤ 4611686018427387904) (hn : n ≤ 4611686018427387904) (A0 cnt : Nat) (hA0 : A0 = min at0 size) (hcnt : cnt = min n (size - A0)) :
    Calls Tryd.prog 12 #[.pointer (some ⟨q, 0, none⟩), .int .i64 (at0 : Int), .int .i64 (n : Int)] w fun e w' => ∃ A c, e = .returned (.tuple #[.slice A (readL o A0 cnt).length c, .int .i64 0]) ∧ (readL o A0 cnt).length ≤ c ∧ Kd.C (Kd.int .u8) w' A (readL o A0 cnt).length (readL o A0 cnt) ∧ Below w.heap.size w w' := by
  have d0 : decide ((at0 : Int) < 0) = false := decide_eq_false (by omega)
  have d1 : decide ((n : Int) < 0) = false := decide_eq_false (by omega)
  have hu := Tryd.underlying61
  have c0 : w.cell? ⟨q, 0, none⟩ = some (.int .i64 (size : Int)) := (blk_cell h.hq 0).trans rfl
  have e1 : min (at0 : Int) (size : Int) = (A0 : Int) := by omega
  have e3 : min (n : Int) ((size : Int) - (A0 : Int)) = (cnt : Int) := by omega
  have hs2 : (size : Int) ≤ 46368 := by omega
  have hA2 : (A0 : Int) ≤ (size : Int) := by omega
  have hE : (A0 : Int) + (cnt : Int) ≤ 46368 := by omega
  have hat : (at0 : Int) ≤ 4611686018427387904 := by omega
  have hnn : (n : Int) ≤ 4611686018427387904 := by omega
  have HX := Lib.hid h
  have HT := Lib.hid hT
  have HAL := Lib.hid hall
  have HB0 := Lib.hid (Below.refl w.heap.size w)
  clear h hT hall hA0 hcnt hsz ha hn
  go_enter Tryd.func12, Tryd.ntmps12
  go_wp2
  go_loopw [1, 9] (fun t v wr => ∃ m : Nat, m ≤ cnt ∧ t = .int .i64 ((A0 + m : Nat) : Int) ∧ Hid (Kd.R (Kd.int .u8) 5 wr w.heap.size (fun _ => True) v (readL o A0 m)) ∧ Hid (Below w.heap.size w wr)) (fun t _ _ => (100000 - intOf t).toNat)
  case atStart => exact ⟨0, Nat.zero_le _, rfl, Lib.hid (Kd.R_nil _ _ _ _ _), HB0⟩
  case round =>
    obtain ⟨m, hm, rfl, HO, HB⟩ := hrel
    rcases Nat.lt_or_ge m cnt with hlt | hge
    · obtain ⟨t, ht⟩ : ∃ t : Nat, t = A0 + m := ⟨_, rfl⟩
      obtain ⟨k, hk⟩ : ∃ k : Nat, k = t / 56 := ⟨_, rfl⟩
      obtain ⟨fo, hfo⟩ : ∃ fo : Nat, fo = t % 56 := ⟨_, rfl⟩
      obtain ⟨hi, hhi⟩ : ∃ hi : Nat, hi = min 56 (fo + (A0 + cnt - t)) := ⟨_, rfl⟩
      have dl : decide ((t : Int) < (A0 : Int) + (cnt : Int)) = true := decide_eq_true (by omega)
      have eQ : Int.tdiv (t : Int) 56 = (k : Int) := by rw [Int.tdiv_eq_ediv_of_nonneg (by omega)]; omega
      have eM : Int.tmod (t : Int) 56 = (fo : Int) := by rw [Int.tmod_eq_emod_of_nonneg (by omega)]; omega
      have emn : min (56 : Int) ((fo : Int) + ((A0 : Int) + (cnt : Int)) - (t : Int)) = (hi : Int) := by omega
      have htm : (t : Int) ≤ 46368 := by omega
      have hkm : (k : Int) ≤ 829 := by omega
      have hff : (fo : Int) ≤ 55 := by omega
      have hml : (readL o A0 m).length ≤ 46368 := by rw [readL_len]; omega
      have HML := Lib.hid hml
      have HTK : Hid (t = k * 56 + fo) := by show _ = _; omega
      have HFH : Hid (fo < hi ∧ hi ≤ 56) := by show _ ∧ _; omega
      have HTM : Hid (t = A0 + m) := ht
      have HMH : Hid (m + (hi - fo) ≤ cnt) := by show _ ≤ _; omega
      have HKW : Hid ((Lit.int .i64 (k : Int)).wf = true) := wf_i (by omega) (by omega)
      rw [← ht]
      clear ht hk hfo hhi hlt hm hml
      go_wp2_with fail
      refine (HT.out wr HB.out (k : Int) HKW.out).mono ?_
      rintro e w1 ⟨hB, hG⟩
      have HB1 := Lib.hid hB
      clear hB
      cases ho : o (k : Int) with
      | none => exact absurd ho (HAL.out k)
      | some r =>
        rw [ho] at hG
        obtain ⟨h56, A6, c6, rfl, hc6, hC6⟩ := hG
        obtain ⟨A7, hcut, hC7⟩ := mid_read hC6 h56 hc6 fo hi (by have := HFH.out; omega) HFH.out.2
        rw [part_row o t k fo hi r ho h56 HTK.out (by have := HFH.out; omega) HFH.out.2] at hC7
        have HC7 := Lib.hid hC7
        have HO1 := Lib.hid (Kd.R_below HO.out HB1.out)
        have HBB : Hid (Below w.heap.size w w1) := HB.out.trans (HB1.out.mono HB.out.size)
        obtain ⟨mm, hmm⟩ : ∃ mm : Nat, mm = hi - fo := ⟨_, rfl⟩
        rw [← hmm] at HC7 hcut HMH
        have HMM : Hid (0 < mm ∧ mm ≤ 56) := by have := HFH.out; show _ ∧ _; omega
        have hm56 : (mm : Int) ≤ 56 := by have := HMM.out; omega
        clear ho h56 hc6 hC6 hC7 hmm
        go_wp2_with ((with_reducible refine gate_builtin (b := .append) (xs := #[.tmp 60, .tmp 61]) rfl ?_); at_builtin; refine Kd.R_append_rows (Kd.int .u8) (w0 := w) w.heap.size rfl (.tmp 60) (.tmp 61) 34 5 (.int .u8 0) 1 rfl Tryd.underlying34 infoB rfl (by decide) (by omega) _ (readL o A0 m) (readL o t mm) _ _ _ (fun _ => True) (fun _ => False) rfl rfl ?aO ?aR (fun _ _ h => h) (fun _ h => h.elim) ?aF ?aB ?aS ?aL ?_; (case aR => exact HC7.out); (case aB => exact HBB.out); (case aF => exact (fun _ _ => trivial)); (case aO => exact HO1.out); (case aS => exact HBB.out.size); (case aL => have := HML.out; have := HMM.out; omega); intro v5 w5 ho hb hg hat; have HB5 := Lib.hid hb; have HO5 := Lib.hid ho; clear ho hb hg hat)
        go_roundw
        case rel => exact ⟨m + mm, HMH.out, by rw [HTM.out]; go_num, by rw [readL_add, ← HTM.out]; exact HO5, HB5⟩
        case measure => have := HMM.out; simp [intOf]; omega
    · obtain rfl : m = cnt := by omega
      have dl : decide (((A0 + m : Nat) : Int) < (A0 : Int) + (m : Int)) = false := decide_eq_false (by omega)
      obtain ⟨A', c', rfl⟩ := Kd.R_slice HO.out
      have HRR := Lib.hid (Kd.R_reads' HO.out)
      go_wp2
      go_ret2
      exact ⟨A', c', rfl, HRR.out.2.1, HRR.out.2.2, HB.out⟩
end Go.Proofs.YthahdombnmkokaaDoor.Given

/- A file that is at no address, told as its bytes: plain laws; by hand. -/
namespace Go.Proofs.YthahdombnmkokaaDoor.Given
open Go.RowKit Go.Maps Go.Sort Go.Shelf Go.Proofs.YthahdombnmkokaaDoorW.PrintWords Go.Proofs.YthahdombnmkokaaDoorW.PrintLast Go.Proofs.YthahdombnmkokaaDoorW.PrintMore Go.Proofs.YthahdombnmkokaaDoor.Base
set_option linter.unusedVariables false
set_option linter.unusedSimpArgs false
variable {G : Nat → Prop}
def blkS (f : Int → Option (List Int)) : Int → Option (List Int) := fun k => some ((f k).getD zrow)
def cnone : Int → Option Int := fun _ => none
theorem cuts_none (F n : Nat) : cutsA F n cnone = cnone := by funext k; unfold cutsA cnone; split <;> rfl
theorem cut_none (n : Int) : cutF n cnone = cnone := by funext k; unfold cutF cnone; split <;> rfl
theorem set_none (k : Int) : setF cnone k none = cnone := by funext j; unfold setF cnone; split <;> rfl
/-- A map's new blocks are the bytes c, n of them. -/
structure Is (f : Int → Option (List Int)) (n : Nat) (c : Nat → Int) : Prop where
  bd : ∀ k, f k ≠ none → 0 ≤ k ∧ k < 828
  len : ∀ k r, f k = some r → r.length = 56 ∧ someB r 56 = true
  cont : ∀ i, bytO (blkS f) i = c i
  zero : ∀ i, n ≤ i → c i = 0
  le : n ≤ 46368
theorem bytS (f : Int → Option (List Int)) (i : Nat) : bytO (blkS f) i = ((f ((i / 56 : Nat) : Int)).getD zrow).getD (i % 56) 0 := rfl
theorem zrow_get (i : Nat) : zrow.getD i 0 = 0 := by
  unfold zrow
  rw [List.getD_eq_getElem?_getD, List.getElem?_replicate]
  split <;> rfl
theorem someB_iff (r : List Int) : someB r 56 = true ↔ ∃ i, i < 56 ∧ r.getD i 0 ≠ 0 := by
  unfold someB
  rw [Bool.not_eq_true', decide_eq_false_iff_not, tl_zero]
  constructor
  · intro h
    refine Classical.byContradiction fun hn => h fun j hj => Classical.byContradiction fun hz => hn ⟨j, hj, hz⟩
  · rintro ⟨i, hi, hz⟩ h
    exact hz (h i hi)
theorem nrm_get (r : List Int) (i : Nat) (hi : i < 56) : ((nrm r).getD zrow).getD i 0 = r.getD i 0 := by
  unfold nrm
  cases hs : someB r 56 with
  | true => rfl
  | false =>
    have hz : r.getD i 0 = 0 := Classical.byContradiction fun hn => by
      have := (someB_iff r).2 ⟨i, hi, hn⟩
      rw [hs] at this
      cases this
    rw [hz]
    exact zrow_get i
theorem nrm_len {r x : List Int} (h : nrm r = some x) (hl : r.length = 56) : x.length = 56 ∧ someB x 56 = true := by
  unfold nrm at h
  cases hs : someB r 56 with
  | true => rw [hs] at h; have := Option.some.inj h; subst this; exact ⟨hl, hs⟩
  | false => rw [hs] at h; cases h
theorem Is.start : Is (fun _ => none) 0 (fun _ => 0) := ⟨fun k h => absurd rfl h, fun k r h => (by cases h), fun i => zrow_get _, fun _ _ => rfl, by omega⟩
theorem Is.there {f : Int → Option (List Int)} {n : Nat} {c : Nat → Int} (h : Is f n c) (k : Nat) : f (k : Int) ≠ none ↔ ∃ i, i < 56 ∧ c (k * 56 + i) ≠ 0 := by
  have hg : ∀ i, i < 56 → c (k * 56 + i) = ((f (k : Int)).getD zrow).getD i 0 := fun i hi => by
    rw [← h.cont, bytS, show (k * 56 + i) / 56 = k by omega, show (k * 56 + i) % 56 = i by omega]
  constructor
  · intro hn
    cases hf : f (k : Int) with
    | none => exact absurd hf hn
    | some r =>
      obtain ⟨i, hi, hz⟩ := (someB_iff r).1 (h.len _ r hf).2
      refine ⟨i, hi, ?_⟩
      rw [hg i hi, hf]
      exact hz
  · rintro ⟨i, hi, hz⟩ hn
    rw [hg i hi, hn] at hz
    exact hz (zrow_get i)
/-- Bytes written. -/
def wrC (c : Nat → Int) (at0 : Nat) (d : List Int) : Nat → Int := fun i => if at0 ≤ i ∧ i < at0 + d.length then d.getD (i - at0) 0 else c i
theorem Is.write {f : Int → Option (List Int)} {n : Nat} {c : Nat → Int} (h : Is f n c) (at0 : Nat) (d : List Int) (h0 : 0 < d.length) (hl : at0 + d.length ≤ 46368) :
    Is (putsF (at0 / 56) (rowsF (blkS f) at0 d (cntF at0 d.length)) f) (max n (at0 + d.length)) (wrC c at0 d) := by
  have hlen : (rowsF (blkS f) at0 d (cntF at0 d.length)).length = cntF at0 d.length := rowsF_len _ _ _ _
  have hcn : at0 / 56 + cntF at0 d.length = (at0 + d.length - 1) / 56 + 1 := by unfold cntF; omega
  have hget : ∀ j, j < cntF at0 d.length → (rowsF (blkS f) at0 d (cntF at0 d.length)).getD j [] = rowF at0 d ((f ((at0 / 56 + j : Nat) : Int)).getD zrow) (at0 / 56 + j) := fun j hj => by
    unfold rowsF
    rw [List.getD_eq_getElem?_getD, List.getElem?_map, List.getElem?_range hj]
    rfl
  refine ⟨fun k hk => ?_, fun k r hk => ?_, fun i => ?_, fun i hi => ?_, ?_⟩
  · unfold putsF at hk
    rw [hlen] at hk
    by_cases e : ((at0 / 56 : Nat) : Int) ≤ k ∧ k < ((at0 / 56 : Nat) : Int) + (cntF at0 d.length : Int)
    · omega
    · rw [if_neg e] at hk; exact h.bd k hk
  · unfold putsF at hk
    rw [hlen] at hk
    by_cases e : ((at0 / 56 : Nat) : Int) ≤ k ∧ k < ((at0 / 56 : Nat) : Int) + (cntF at0 d.length : Int)
    · rw [if_pos e, hget _ (by omega)] at hk
      exact nrm_len hk (rowF_len _ _ _ _)
    · rw [if_neg e] at hk; exact h.len k r hk
  · rw [bytS]
    unfold putsF wrC
    rw [hlen]
    have hc := h.cont i
    rw [bytS] at hc
    by_cases e : ((at0 / 56 : Nat) : Int) ≤ ((i / 56 : Nat) : Int) ∧ ((i / 56 : Nat) : Int) < ((at0 / 56 : Nat) : Int) + (cntF at0 d.length : Int)
    · rw [if_pos e, hget _ (by omega), nrm_get _ _ (by omega), show at0 / 56 + (((i / 56 : Nat) : Int) - ((at0 / 56 : Nat) : Int)).toNat = i / 56 by omega, rowF_at _ _ _ _ _ (by omega), show i / 56 * 56 + i % 56 = i by omega, hc]
    · rw [if_neg e, if_neg (by omega)]
      exact hc
  · unfold wrC
    rw [if_neg (by omega)]
    exact h.zero i (by omega)
  · have := h.le
    omega
theorem trow_get (r : List Int) (rest i : Nat) (h : r.length = 56) (hr : rest ≤ 56) (hi : i < 56) : (trow r rest).getD i 0 = if i < rest then r.getD i 0 else 0 := by
  unfold trow
  rw [List.getD_eq_getElem?_getD, splice_get _ _ _ (by rw [List.length_replicate]; omega), List.length_replicate]
  by_cases e : i < rest
  · rw [if_pos e, if_pos e, List.getD_eq_getElem?_getD]
  · rw [if_neg e, if_neg e, if_pos (by omega), List.getElem?_replicate, if_pos (by omega)]
    rfl
/-- Bytes cut. -/
def cutC (c : Nat → Int) (m : Nat) : Nat → Int := fun i => if i < m then c i else 0
theorem Is.cut {f : Int → Option (List Int)} {n : Nat} {c : Nat → Int} (h : Is f n c) (m : Nat) (hm : m ≤ 46368) (hk : ¬ ((m : Int) < (n : Int) ∧ m % 56 ≠ 0 ∧ f ((m / 56 : Nat) : Int) ≠ none)) : Is (cutF (((m + 55) / 56 : Nat) : Int) f) m (cutC c m) := by
  refine ⟨fun k hk => ?_, fun k r hk => ?_, fun i => ?_, fun i hi => ?_, hm⟩
  · unfold cutF at hk
    split at hk
    · exact absurd rfl hk
    · exact h.bd k hk
  · unfold cutF at hk
    split at hk
    · cases hk
    · exact h.len k r hk
  · rw [bytS]
    unfold cutF cutC
    have hc := h.cont i
    rw [bytS] at hc
    by_cases e : (((m + 55) / 56 : Nat) : Int) ≤ ((i / 56 : Nat) : Int)
    · rw [if_pos e, if_neg (by omega)]
      exact zrow_get _
    · rw [if_neg e, hc]
      by_cases e2 : i < m
      · rw [if_pos e2]
      · rw [if_neg e2]
        by_cases e3 : n ≤ i
        · exact h.zero i e3
        · refine Classical.byContradiction fun hn => hk ⟨by omega, by omega, ?_⟩
          intro hq
          rw [show i / 56 = m / 56 by omega, hq] at hc
          exact hn (hc.symm.trans (zrow_get _))
  · unfold cutC
    rw [if_neg (by omega)]
theorem Is.trunc {f : Int → Option (List Int)} {n : Nat} {c : Nat → Int} (h : Is f n c) (m : Nat) (hm : m ≤ 46368) (hr : m % 56 ≠ 0) : Is (cutF (((m + 55) / 56 : Nat) : Int) (setF f ((m / 56 : Nat) : Int) (nrm (trow ((f ((m / 56 : Nat) : Int)).getD zrow) (m % 56))))) m (cutC c m) := by
  have hlr : ((f ((m / 56 : Nat) : Int)).getD zrow).length = 56 := by
    cases hf : f ((m / 56 : Nat) : Int) with
    | none => rfl
    | some r => exact (h.len _ r hf).1
  refine ⟨fun k hk => ?_, fun k r hk => ?_, fun i => ?_, fun i hi => ?_, hm⟩
  · unfold cutF setF at hk
    split at hk
    · exact absurd rfl hk
    · split at hk
      · omega
      · exact h.bd k hk
  · unfold cutF setF at hk
    split at hk
    · cases hk
    · split at hk
      · exact nrm_len hk (trow_len _ _ hlr (by omega))
      · exact h.len k r hk
  · rw [bytS]
    unfold cutF setF cutC
    have hc := h.cont i
    rw [bytS] at hc
    by_cases e : (((m + 55) / 56 : Nat) : Int) ≤ ((i / 56 : Nat) : Int)
    · rw [if_pos e, if_neg (by omega)]
      exact zrow_get _
    · rw [if_neg e]
      by_cases e1 : ((i / 56 : Nat) : Int) = ((m / 56 : Nat) : Int)
      · rw [if_pos e1, nrm_get _ _ (by omega), trow_get _ _ _ hlr (by omega) (by omega)]
        rw [e1] at hc
        by_cases e2 : i < m
        · rw [if_pos (by omega), if_pos e2, hc]
        · rw [if_neg (by omega), if_neg e2]
      · rw [if_neg e1, hc, if_pos (by omega)]
  · unfold cutC
    rw [if_neg (by omega)]
/-- The bytes themselves. -/
def listC (c : Nat → Int) (A0 cnt : Nat) : List Int := (List.range cnt).map fun i => c (A0 + i)
theorem Is.read {f : Int → Option (List Int)} {n : Nat} {c : Nat → Int} (h : Is f n c) (A0 cnt : Nat) : readL (blkS f) A0 cnt = listC c A0 cnt := List.map_congr_left fun i _ => h.cont _
theorem listC_len (c : Nat → Int) (A0 cnt : Nat) : (listC c A0 cnt).length = cnt := by simp [listC]
theorem listC_get (c : Nat → Int) (A0 cnt i : Nat) (h : i < cnt) : (listC c A0 cnt).getD i 0 = c (A0 + i) := by simp [listC, List.getD_eq_getElem?_getD, h]
theorem listC_add (c : Nat → Int) (A0 m n : Nat) : listC c A0 (m + n) = listC c A0 m ++ listC c (A0 + m) n := by
  unfold listC
  rw [List.range_add, List.map_append, List.map_map]
  congr 1
  exact List.map_congr_left fun i _ => by show c (A0 + (m + i)) = _; rw [Nat.add_assoc]
/-- The blocks that are there: counted up. -/
def selJ (p : Int → Bool) (j : Nat) : List Int := ((List.range j).filter fun (i : Nat) => p (i : Int)).map fun (i : Nat) => (i : Int)
theorem selJ_yes {p : Int → Bool} {j : Nat} (h : p (j : Int) = true) : selJ p (j + 1) = selJ p j ++ [(j : Int)] := by
  unfold selJ
  rw [List.range_succ, List.filter_append, List.map_append]
  simp [List.filter_cons, h]
theorem selJ_no {p : Int → Bool} {j : Nat} (h : p (j : Int) = false) : selJ p (j + 1) = selJ p j := by
  unfold selJ
  rw [List.range_succ, List.filter_append, List.map_append]
  simp [List.filter_cons, h]
theorem selJ_len (p : Int → Bool) (j : Nat) : (selJ p j).length ≤ j := by
  unfold selJ
  rw [List.length_map]
  exact Nat.le_trans (List.length_filter_le _ _) (by simp)
theorem selJ_rises {p : Int → Bool} {Q : Int → Prop} {nb : Nat} (hpq : ∀ k, p k = true ↔ Q k) (hb : ∀ k, Q k → 0 ≤ k ∧ k < nb) : Rises (selJ p nb) Q := by
  refine ⟨?_, fun x => ?_⟩
  · unfold selJ
    refine List.pairwise_map.2 ((List.pairwise_lt_range.filter _).imp ?_)
    intro i j h
    omega
  · unfold selJ
    rw [List.mem_map]
    constructor
    · rintro ⟨i, hi, rfl⟩
      rw [List.mem_filter] at hi
      exact (hpq _).1 hi.2
    · intro hq
      have := hb x hq
      refine ⟨x.toNat, List.mem_filter.2 ⟨List.mem_range.2 (by omega), ?_⟩, by omega⟩
      rw [show ((x.toNat : Nat) : Int) = x by omega]
      exact (hpq _).2 hq
end Go.Proofs.YthahdombnmkokaaDoor.Given

/- A file that is at no address: its calls, told by its bytes; New, Clone; by hand. -/
namespace Go.Proofs.YthahdombnmkokaaDoor.Given
open Go.RowKit Go.Maps Go.Sort Go.Shelf Go.Proofs.YthahdombnmkokaaDoorW.PrintWords Go.Proofs.YthahdombnmkokaaDoorW.PrintLast Go.Proofs.YthahdombnmkokaaDoorW.PrintMore Go.Proofs.YthahdombnmkokaaDoor.Base
set_option linter.unusedVariables false
set_option linter.unusedSimpArgs false
variable {G : Nat → Prop}
theorem tells_none {w : World} {q p bA bF N : Nat} {n : Int} {f : Int → Option (List Int)} {fr : Value} (h : FX G w q p bA bF N n cnone f fr) : Tells w q (blkS f) := by
  intro w' hb k hk
  have h' := h.below hb
  unfold blkS
  cases hf : f k with
  | none => exact block_zero h' k hk hf rfl
  | some r => exact block_fresh h' k hk r hf
/-- A file at no address: n bytes c. -/
def FS (G : Nat → Prop) (w : World) (q p bA bF N n : Nat) (c : Nat → Int) (fr : Value) : Prop := ∃ f, FX G w q p bA bF N n cnone f fr ∧ Is f n c
theorem FS.below {w w1 : World} {q p bA bF N n : Nat} {c : Nat → Int} {fr : Value} (h : FS G w q p bA bF N n c fr) (hb : Below w.heap.size w w1) : FS G w1 q p bA bF N n c fr := by
  obtain ⟨f, hx, hi⟩ := h
  exact ⟨f, hx.below hb, hi⟩
theorem FS.mono {w : World} {q p bA bF N N1 n : Nat} {c : Nat → Int} {fr : Value} (h : FS G w q p bA bF N n c fr) (hN : N ≤ N1) : FS G w q p bA bF N1 n c fr := by
  obtain ⟨f, hx, hi⟩ := h
  exact ⟨f, hx.mono hN, hi⟩
theorem FS.le {w : World} {q p bA bF N n : Nat} {c : Nat → Int} {fr : Value} (h : FS G w q p bA bF N n c fr) : n ≤ 46368 := by
  obtain ⟨f, hx, hi⟩ := h
  exact hi.le
theorem FS.lt {w : World} {q p bA bF N n : Nat} {c : Nat → Int} {fr : Value} (h : FS G w q p bA bF N n c fr) : q < w.heap.size ∧ p < w.heap.size ∧ bA < w.heap.size ∧ bF < w.heap.size := by
  obtain ⟨f, hx, hi⟩ := h
  obtain ⟨DA, DF, mF, hB⟩ := hx.bx
  exact ⟨hx.qlt, blk_lt hB.hp, hB.oA.lt, hB.oF.lt⟩
theorem FT.fs {w w1 : World} {q p bA bF N n : Nat} {c : Nat → Int} {fr : Value} (k : FT q bA bF w w1) (h : FS G w q p bA bF N n c fr) {q2 p2 bA2 bF2 N2 n2 : Nat} {c2 : Nat → Int} {fr2 : Value} (h2 : FS G w q2 p2 bA2 bF2 N2 n2 c2 fr2) (hq : q2 ≠ q) (hA : ¬ S3 q bA bF bA2) (hF : ¬ S3 q bA bF bF2) : FS G w1 q2 p2 bA2 bF2 N2 n2 c2 fr2 := by
  obtain ⟨f, hx, hi⟩ := h
  obtain ⟨f2, hx2, hi2⟩ := h2
  exact ⟨f2, k.other hx hx2 hq hA hF, hi2⟩
theorem FT.r8 {w w1 : World} {q p bA bF N n : Nat} {c : Nat → Int} {fr : Value} (k : FT q bA bF w w1) (h : FS G w q p bA bF N n c fr) {base : Nat} {ok : Nat → Prop} {v : Value} {xs : List Int} (hR : Kd.R (Kd.int .u8) 5 w base ok v xs) : Kd.R (Kd.int .u8) 5 w1 base ok v xs := by
  obtain ⟨f, hx, hi⟩ := h
  exact k.R8 hx hR
theorem FT.box {w w1 : World} {q p bA bF N n : Nat} {c : Nat → Int} {fr : Value} (k : FT q bA bF w w1) (h : FS G w q p bA bF N n c fr) {i : Nat} {cs : Array Value} {t : TypeId} {z : Nat × Nat} (hi : w.heap[i]? = some (.cells cs t z)) (ht : t ≠ 61) : w1.heap[i]? = some (.cells cs t z) := by
  obtain ⟨f, hx, hi'⟩ := h
  exact k.blk hx hi ht
/-- How much is at most written by a call. -/
def step_ : Nat := 829
/-- Write. -/
def WroteS (G : Nat → Prop) (q p bA bF N n : Nat) (c : Nat → Int) (fr : Value) (at_ : Int) (d : List Int) (w w' : World) (e : Ending) : Prop :=
  ((at_ < 0 ∨ 46368 < at_ ∨ 46368 - at_ < d.length) ∧ e = .returned (.int .i64 28) ∧ w = w') ∨
  (0 ≤ at_ ∧ at_ ≤ 46368 - d.length ∧ e = .returned (.int .i64 0) ∧ FT q bA bF w w' ∧
    FS G w' q p bA bF (N + 829) (if d.length = 0 then n else max n (at_.toNat + d.length)) (wrC c at_.toNat d) fr)
theorem wrC_nil (c : Nat → Int) (at0 : Nat) (d : List Int) (h : d.length = 0) : wrC c at0 d = c := by
  funext i
  unfold wrC
  rw [if_neg (by omega)]
theorem write_S {w : World} {q p bA bF N n : Nat} {c : Nat → Int} {fr : Value} (h : FS G w q p bA bF N n c fr) (hN : N < 900000) (at_ : Int) (A : Option Addr) (cp : Nat) (d : List Int) (hC : Kd.C (Kd.int .u8) w A d.length d) (hc : d.length ≤ cp) (hd : d.length ≤ 140737488355328) (hG : ∀ b, w.heap.size ≤ b → G b) :
    Calls Tryd.prog 10 #[.pointer (some ⟨q, 0, none⟩), .int .i64 at_, .slice A d.length cp] w fun e w' => WroteS G q p bA bF N n c fr at_ d w w' e := by
  by_cases hb : at_ < 0 ∨ 46368 < at_ ∨ 46368 - at_ < d.length
  · refine (write_bad q at_ A d.length cp w hd hb).mono ?_
    rintro e w' ⟨rfl, rfl⟩
    exact Or.inl ⟨hb, rfl, rfl⟩
  · have g0 : 0 ≤ at_ := by omega
    have g1 : at_ ≤ 46368 - (d.length : Int) := by omega
    rcases Nat.eq_zero_or_pos d.length with hz | hp
    · obtain rfl : d = [] := List.eq_nil_of_length_eq_zero hz
      refine (show Calls _ _ #[_, _, .slice A 0 cp] w _ from write_none q at_ A cp w g0 (by simp at g1; omega)).mono ?_
      rintro e w' ⟨rfl, rfl⟩
      refine Or.inr ⟨g0, g1, rfl, FT.refl _ _ _ _, ?_⟩
      rw [if_pos hz, wrC_nil _ _ _ hz]
      exact h.mono (by omega)
    · obtain ⟨f, hx, hi⟩ := h
      obtain ⟨at0, rfl⟩ : ∃ at0 : Nat, at_ = (at0 : Int) := ⟨at_.toNat, by omega⟩
      refine (write_some hx hN (by omega) (by have := hi.le; omega) (tells_none hx) at0 A cp d hC hc hp (by omega) hG).mono ?_
      rintro e w' (⟨rfl, ⟨k, hk⟩, hB⟩ | ⟨rfl, hx', hft⟩)
      · exact absurd hk (by unfold blkS; simp)
      · refine Or.inr ⟨g0, g1, rfl, hft, ?_⟩
        rw [if_neg (by omega), Int.toNat_natCast]
        have hx' := hx'
        rw [cuts_none] at hx'
        have e1 : (max (n : Int) ((at0 + d.length : Nat) : Int)) = ((max n (at0 + d.length) : Nat) : Int) := by omega
        rw [e1] at hx'
        exact ⟨_, hx', hi.write at0 d hp (by omega)⟩
/-- Trunc. -/
def TruncS (G : Nat → Prop) (q p bA bF N n : Nat) (c : Nat → Int) (fr : Value) (m : Int) (w w' : World) (e : Ending) : Prop :=
  ((m < 0 ∨ 46368 < m) ∧ e = .returned (.int .i64 28) ∧ w = w') ∨
  (0 ≤ m ∧ m ≤ 46368 ∧ e = .returned (.int .i64 0) ∧ FT q bA bF w w' ∧ FS G w' q p bA bF (N + 829) m.toNat (cutC c m.toNat) fr)
theorem trunc_S {w : World} {q p bA bF N n : Nat} {c : Nat → Int} {fr : Value} (h : FS G w q p bA bF N n c fr) (hN : N < 900000) (m : Int) (hG : ∀ b, w.heap.size ≤ b → G b) :
    Calls Tryd.prog 11 #[.pointer (some ⟨q, 0, none⟩), .int .i64 m] w fun e w' => TruncS G q p bA bF N n c fr m w w' e := by
  by_cases hb : m < 0 ∨ 46368 < m
  · refine (trunc_bad q m w hb).mono ?_
    rintro e w' ⟨rfl, rfl⟩
    exact Or.inl ⟨hb, rfl, rfl⟩
  · obtain ⟨f, hx, hi⟩ := h
    obtain ⟨k, rfl⟩ : ∃ k : Nat, m = (k : Int) := ⟨m.toNat, by omega⟩
    refine (trunc_good hx hN (fun _ _ => rfl) (tells_none hx) k (by omega) hG).mono ?_
    rintro e w' (⟨rfl, ⟨j, hj⟩, hB⟩ | ⟨rfl, hft, hx'⟩)
    · exact absurd hj (by unfold blkS; simp)
    · refine Or.inr ⟨by omega, by omega, rfl, hft, ?_⟩
      rw [Int.toNat_natCast]
      rcases hx' with ⟨hno, hx'⟩ | ⟨h1, h2, hx'⟩
      · rw [cut_none] at hx'
        exact ⟨_, hx'.mono (by omega), hi.cut k (by omega) (fun hq => hno ⟨hq.1, hq.2.1, Or.inr hq.2.2⟩)⟩
      · rw [set_none, cut_none] at hx'
        exact ⟨_, hx'.mono (by omega), hi.trunc k (by omega) h2⟩
/-- Read. -/
theorem read_S {w : World} {q p bA bF N n : Nat} {c : Nat → Int} {fr : Value} (h : FS G w q p bA bF N n c fr) (at0 k : Nat) (ha : at0 ≤ 4611686018427387904) (hk : k ≤ 4611686018427387904) (A0 cnt : Nat) (hA0 : A0 = min at0 n) (hcnt : cnt = min k (n - A0)) :
    Calls Tryd.prog 12 #[.pointer (some ⟨q, 0, none⟩), .int .i64 (at0 : Int), .int .i64 (k : Int)] w fun e w' => ∃ A cp, e = .returned (.tuple #[.slice A (listC c A0 cnt).length cp, .int .i64 0]) ∧ (listC c A0 cnt).length ≤ cp ∧ Kd.C (Kd.int .u8) w' A (listC c A0 cnt).length (listC c A0 cnt) ∧ Below w.heap.size w w' := by
  obtain ⟨f, hx, hi⟩ := h
  have := read_good hx hi.le (tells_none hx) (fun j => by unfold blkS; simp) at0 k ha hk A0 cnt hA0 hcnt
  rw [hi.read] at this
  exact this
theorem size_S {w : World} {q p bA bF N n : Nat} {c : Nat → Int} {fr : Value} (h : FS G w q p bA bF N n c fr) :
    Calls Tryd.prog 14 #[.pointer (some ⟨q, 0, none⟩)] w fun e w' => e = .returned (.int .i64 (n : Int)) ∧ w = w' := by
  obtain ⟨f, hx, hi⟩ := h
  exact size_calls hx
theorem blocks_S {w : World} {q p bA bF N n : Nat} {c : Nat → Int} {fr : Value} (h : FS G w q p bA bF N n c fr) :
    Calls Tryd.prog 15 #[.pointer (some ⟨q, 0, none⟩)] w fun e w' => e = .returned (.pointer (some ⟨p, 0, none⟩)) ∧ w = w' := by
  obtain ⟨f, hx, hi⟩ := h
  exact blocks_calls hx
/-- There, where P tells the blocks that have a byte. -/
theorem there_S {w : World} {q p bA bF N n : Nat} {c : Nat → Int} {fr : Value} (h : FS G w q p bA bF N n c fr) (hN : N ≤ 1000000) (P : Int → Bool) (hP : ∀ k : Nat, P (k : Int) = true ↔ ∃ i, i < 56 ∧ c (k * 56 + i) ≠ 0) (nb : Nat) (hnb : n ≤ nb * 56) :
    Calls Tryd.prog 16 #[.pointer (some ⟨p, 0, none⟩)] w fun e w' => ∃ A cp, e = .returned (.slice A (selJ P nb).length cp) ∧ (selJ P nb).length ≤ cp ∧ Kd.C (Kd.int .i64) w' A (selJ P nb).length (selJ P nb) ∧ Below w.heap.size w w' := by
  obtain ⟨f, hx, hi⟩ := h
  refine there_at hx.bx.bm hN (fun _ _ => rfl) ?_
  have hR : Rises (selJ P nb) (fun k => 0 ≤ k ∧ k < nb ∧ P k = true) := by
    have e : selJ P nb = selJ (fun k => decide (0 ≤ k ∧ k < nb ∧ P k = true)) nb := by
      unfold selJ
      congr 1
      refine List.filter_congr fun i hi => ?_
      have := List.mem_range.1 hi
      by_cases hp : P (i : Int) = true
      · exact hp.trans (decide_eq_true ⟨by omega, by omega, hp⟩).symm
      · exact (Bool.eq_false_iff.2 hp).trans (decide_eq_false (fun hq => hp hq.2.2)).symm
    rw [e]
    exact selJ_rises (fun k => by rw [decide_eq_true_iff]) (fun k hk => ⟨hk.1, hk.2.1⟩)
  refine ⟨hR.1, fun x => (hR.2 x).trans ?_⟩
  constructor
  · rintro ⟨h0, h1, h2⟩
    obtain ⟨k, rfl⟩ : ∃ k : Nat, x = (k : Int) := ⟨x.toNat, by omega⟩
    exact Or.inr ((hi.there k).2 ((hP k).1 h2))
  · rintro (hq | hq)
    · exact absurd rfl hq
    · have h0 := (hi.bd x hq).1
      obtain ⟨k, rfl⟩ : ∃ k : Nat, x = (k : Int) := ⟨x.toNat, by omega⟩
      have h2 := (hi.there k).1 hq
      refine ⟨by omega, ?_, (hP k).2 h2⟩
      obtain ⟨i, h3, h4⟩ := h2
      refine Classical.byContradiction fun hn => h4 (hi.zero _ ?_)
      omega
theorem adr_nil_none : adr [] = cnone := by
  funext k
  unfold adr cnone
  rw [if_neg]
  rintro ⟨_, h⟩
  exact h (by simp)
set_option maxRecDepth 100000 in
set_option maxHeartbeats 4000000 in
/-- New: a file at addresses. -/
theorem fnew_ok (w : World) (size : Nat) (hs : size ≤ 46368) (A : Option Addr) (c : Nat) (l : List Int) (hC : Kd.C (Kd.int .i64) w A l.length l) (hl : l.length ≤ (size + 55) / 56) (hok : ∀ x ∈ l, okA x) (ps : Nat) :
    Calls Tryd.prog 9 #[.int .i64 (size : Int), .slice A l.length c, .iface 29 (.pointer (some ⟨ps, 0, none⟩))] w fun e w' => ∃ q p bA bF, e = .returned (.tuple #[.pointer (some ⟨q, 0, none⟩), .int .i64 0]) ∧ FX G w' q p bA bF 828 size (adr l) (fun _ => none) (.iface 29 (.pointer (some ⟨ps, 0, none⟩))) ∧ w.heap.size ≤ q ∧ w.heap.size ≤ p ∧ w.heap.size ≤ bA ∧ w.heap.size ≤ bF ∧ Below w.heap.size w w' := by
  have d0 : decide ((size : Int) < 0) = false := decide_eq_false (by omega)
  have d1 : decide (46368 < (size : Int)) = false := decide_eq_false (by omega)
  obtain ⟨nb, hnb⟩ : ∃ nb : Nat, nb = (size + 55) / 56 := ⟨_, rfl⟩
  have d2 : decide ((nb : Int) < (l.length : Int)) = false := decide_eq_false (by omega)
  have d3 : decide (nb < l.length) = false := decide_eq_false (by omega)
  have hl8 : l.length ≤ 828 := by omega
  have hs2 : (size : Int) ≤ 46368 := by omega
  have hl2 : (l.length : Int) ≤ 828 := by omega
  have hnb2 : (nb : Int) ≤ 829 := by omega
  have HC := Lib.hid hC
  have HOK := Lib.hid hok
  have HNB := Lib.hid hnb
  have HS := Lib.hid hs
  have HL8 := Lib.hid hl8
  clear hC hok hnb hl hs hl8
  go_enter Tryd.func9, Tryd.ntmps9
  go_wp2_with fail
  refine (nb_calls size nb HS.out HNB.out w).mono ?_
  rintro e w1 ⟨rfl, hB⟩
  have HB1 := Lib.hid hB
  have HC1 := Lib.hid (Kd.C_below HC.out hB)
  clear hB
  go_wp2_with fail
  refine (new_p (G := G) A c l w1 HC1.out HL8.out HOK.out).mono ?_
  rintro e w2 ⟨p, rfl, hM, hB⟩
  obtain ⟨bA, bF, hX, hp0, hA0, hF0⟩ := BX.of hM
  have HB2 : Hid (Below w.heap.size w w2) := HB1.out.trans (hB.mono HB1.out.size)
  have HX2 := Lib.hid hX
  have HO : Hid (w.heap.size ≤ p ∧ w.heap.size ≤ bA ∧ w.heap.size ≤ bF) := by have := HB1.out.size; show _ ∧ _; omega
  have hb3 : Below w2.heap.size w2 (w2.alloc (.cells #[.int .i64 (size : Int), .pointer (some ⟨p, 0, none⟩), .iface 29 (.pointer (some ⟨ps, 0, none⟩))] 61)) := (Below.refl _ _).alloc (Nat.le_refl _) _
  have HX3 : Hid (FX G (w2.alloc (.cells #[.int .i64 (size : Int), .pointer (some ⟨p, 0, none⟩), .iface 29 (.pointer (some ⟨ps, 0, none⟩))] 61)) w2.heap.size p bA bF 828 size (adr l) (fun _ => none) (.iface 29 (.pointer (some ⟨ps, 0, none⟩)))) := ⟨heap_alloc_new w2 _, HX2.out.below hb3, fun x e => by cases e⟩
  have HB3 : Hid (Below w.heap.size w (w2.alloc (.cells #[.int .i64 (size : Int), .pointer (some ⟨p, 0, none⟩), .iface 29 (.pointer (some ⟨ps, 0, none⟩))] 61))) := HB2.out.trans (hb3.mono HB2.out.size)
  clear hM hB hX hp0 hA0 hF0 hb3
  go_wp2
  go_ret2
  exact ⟨_, p, bA, bF, rfl, HX3.out, HB2.out.size, HO.out.1, HO.out.2.1, HO.out.2.2, HB3.out⟩
theorem fnew_S (w : World) (ps : Nat) :
    Calls Tryd.prog 9 #[.int .i64 0, .slice none 0 0, .iface 29 (.pointer (some ⟨ps, 0, none⟩))] w fun e w' => ∃ q p bA bF, e = .returned (.tuple #[.pointer (some ⟨q, 0, none⟩), .int .i64 0]) ∧ FS G w' q p bA bF 828 0 (fun _ => 0) (.iface 29 (.pointer (some ⟨ps, 0, none⟩))) ∧ w.heap.size ≤ q ∧ w.heap.size ≤ p ∧ w.heap.size ≤ bA ∧ w.heap.size ≤ bF ∧ Below w.heap.size w w' := by
  refine (fnew_ok (G := G) w 0 (by omega) none 0 [] (Kd.C_nil _ _) (by simp) (fun x h => by cases h) ps).mono ?_
  rintro e w' ⟨q, p, bA, bF, rfl, hx, h1⟩
  rw [adr_nil_none] at hx
  exact ⟨q, p, bA, bF, rfl, ⟨_, hx, Is.start⟩, h1⟩
end Go.Proofs.YthahdombnmkokaaDoor.Given

/- great, alive; a file's Clone; by hand. -/
namespace Go.Proofs.YthahdombnmkokaaDoor.Given
open Go.RowKit Go.Maps Go.Sort Go.Shelf Go.Proofs.YthahdombnmkokaaDoorW.PrintWords Go.Proofs.YthahdombnmkokaaDoorW.PrintLast Go.Proofs.YthahdombnmkokaaDoorW.PrintMore Go.Proofs.YthahdombnmkokaaDoor.Base
set_option linter.unusedVariables false
set_option linter.unusedSimpArgs false
variable {G : Nat → Prop}
theorem weigh_loop (l : List (List Int)) (hs : ∀ b ∈ l, b.length ≤ 140737488351232) (hn : l.length ≤ 140737488351232) (M : Int) (hM : 0 ≤ M) (hM2 : M ≤ 1000000) (d : Nat) : ∀ (k i : Nat) (n : Int), i + d = l.length → d < k → 0 ≤ n → n ≤ M + 140737488351232 →
    ∃ r, moraineref00_Weigh.l0 k l M n (i : Int) = some r ∧ n ≤ r ∧ (r ≤ M → ∀ j, i ≤ j → j < l.length → ((l.getD j []).length : Int) ≤ r - n) := by
  induction d with
  | zero =>
    intro k i n hi hk h0 h1
    obtain ⟨k, rfl⟩ : ∃ m, k = m + 1 := ⟨k - 1, by omega⟩
    simp only [moraineref00_Weigh.l0]
    rw [if_neg (by omega)]
    exact ⟨n, rfl, Int.le_refl _, fun _ j h2 h3 => by omega⟩
  | succ d ih =>
    intro k i n hi hk h0 h1
    obtain ⟨k, rfl⟩ : ∃ m, k = m + 1 := ⟨k - 1, by omega⟩
    simp only [moraineref00_Weigh.l0]
    rw [if_pos (by omega)]
    by_cases hle : n ≤ M
    · have hb : (l.getD i []).length ≤ 140737488351232 := by
        rw [List.getD_eq_getElem?_getD, List.getElem?_eq_getElem (by omega)]
        exact hs _ (List.getElem_mem _)
      have e : rd_L1 l (i : Int) = l.getD i [] := rfl
      rw [if_pos hle, if_pos (by omega), e, w64 (n := n + ((l.getD i []).length : Int)) (by omega) (by omega), w64 (n := (i : Int) + 1) (by omega) (by omega)]
      obtain ⟨r, hr, h2, h3⟩ := ih k (i + 1) (n + ((l.getD i []).length : Int)) (by omega) (by omega) (by omega) (by omega)
      refine ⟨r, hr, by omega, fun hrM j hj hjl => ?_⟩
      rcases Nat.lt_or_ge i j with h | h
      · have := h3 hrM j (by omega) hjl; omega
      · have : j = i := by omega
        subst this; omega
    · rw [if_neg hle]
      exact ⟨n, rfl, Int.le_refl _, fun h => absurd h hle⟩
theorem weigh_eq (l : List (List Int)) (hs : ∀ b ∈ l, b.length ≤ 140737488351232) (hn : l.length ≤ 140737488351232) (M : Int) (hM : 0 ≤ M) (hM2 : M ≤ 1000000) (k : Nat) (hk : l.length < k) :
    ∃ r, moraineref00_Weigh.f k l M = some r ∧ (r ≤ M → (l.length : Int) ≤ M ∧ ∀ b ∈ l, (b.length : Int) ≤ M) := by
  unfold moraineref00_Weigh.f
  by_cases h : (l.length : Int) > M
  · rw [if_pos h, w64 (by omega) (by omega)]
    exact ⟨_, rfl, fun h => by omega⟩
  · rw [if_neg h]
    obtain ⟨r, hr, h1, h2⟩ := weigh_loop l hs hn M hM hM2 l.length k 0 (l.length : Int) (by omega) hk (by omega) (by omega)
    refine ⟨r, hr, fun hrM => ⟨by omega, fun b hb => ?_⟩⟩
    obtain ⟨j, hj, rfl⟩ := List.mem_iff_getElem.1 hb
    have := h2 hrM j (by omega) hj
    rw [List.getD_eq_getElem?_getD, List.getElem?_eq_getElem hj] at this
    simp only [Option.getD_some] at this
    omega
theorem copyb_eq (l : List Int) (h : l.length ≤ 140737488351232) : moraineref00_CopyBytes.f l = some l := by
  unfold moraineref00_CopyBytes.f
  simp only [Option.bind_some]
  rw [if_pos (by simp; omega)]
  rfl
theorem rec_of_C {q : TypeId} {w : World} {A : Option Addr} {n : Nat} {xs : List Rec3} (h : Kd.C (kRec q .u8) w A n xs) (h0 : 0 < n) :
    ∃ b off, A = some ⟨b, off, none⟩ ∧ ∀ (j : Nat) (r : Rec3), xs[j]? = some r → ∃ Ad c, w.cell? ⟨b, off + j * 4, none⟩ = some (.int .i64 r.1) ∧ w.cell? ⟨b, off + j * 4 + 1, none⟩ = some (.int .i64 r.2.1) ∧ w.cell? ⟨b, off + j * 4 + 2, none⟩ = some (.int .i64 r.2.2.1) ∧ w.cell? ⟨b, off + j * 4 + 3, none⟩ = some (.slice Ad r.2.2.2.length c) ∧ r.2.2.2.length ≤ c ∧ Kd.C (Kd.int .u8) w Ad r.2.2.2.length r.2.2.2 := by
  obtain ⟨hl, hm, hc⟩ := h
  obtain ⟨ad, e, hcl⟩ := hc h0
  have each : ∀ (j : Nat) (r : Rec3), xs[j]? = some r → ∃ Ad c, w.cell? (ad.add (j * 4)) = some (.int .i64 r.1) ∧ w.cell? (ad.add (j * 4 + 1)) = some (.int .i64 r.2.1) ∧ w.cell? (ad.add (j * 4 + 2)) = some (.int .i64 r.2.2.1) ∧ w.cell? (ad.add (j * 4 + 3)) = some (.slice Ad r.2.2.2.length c) ∧ r.2.2.2.length ≤ c ∧ Kd.C (Kd.int .u8) w Ad r.2.2.2.length r.2.2.2 := by
    intro j r hj
    obtain ⟨c, hs, hr, hcell⟩ := hcl j r hj
    obtain ⟨x0, x1, rfl, k0, y0, y1, rfl, k1, z0, z1, rfl, k2, Ad, c, k3, g1, g2⟩ := hr
    obtain rfl : x0 = [.int .i64 r.1] := k0
    obtain rfl : y0 = [.int .i64 r.2.1] := k1
    obtain rfl : z0 = [.int .i64 r.2.2.1] := k2
    subst k3
    exact ⟨Ad, c, hcell 0 _ rfl, hcell 1 _ rfl, hcell 2 _ rfl, hcell 3 _ rfl, g1, g2⟩
  have hs : ad.spot = none := by
    have hx : 0 < xs.length := by omega
    obtain ⟨_, _, h1, _⟩ := each 0 _ (List.getElem?_eq_getElem hx)
    have a0 : ad.add (0 * 4) = ad := by simp [Addr.add]
    rw [a0] at h1
    cases hsp : ad.spot with
    | none => rfl
    | some s =>
      exfalso
      unfold World.cell? at h1
      split at h1
      · rw [hsp] at h1; simp at h1
      · cases h1
  obtain ⟨b, off, sp⟩ := ad
  simp only at hs
  subst hs
  refine ⟨b, off, e, fun j r hj => ?_⟩
  obtain ⟨Ad, c, h1, h2, h3, h4, h5⟩ := each j r hj
  rw [addr_add] at h1 h2 h3 h4
  exact ⟨Ad, c, h1, h2, h3, h4, h5⟩
set_option maxRecDepth 100000 in
set_option maxHeartbeats 4000000 in
theorem great_calls {q : TypeId} (B : Option Addr) (cb : Nat) (R : List (List Int)) (A : Option Addr) (c : Nat) (l : List Rec3) (w : World) (hCR : Kd.C kRow w B R.length R) (hcb : R.length ≤ cb) (hsR : R.length ≤ 140737488351232) (hbR : ∀ b ∈ R, b.length ≤ 140737488351232) (hC : Kd.C (kRec q .u8) w A l.length l) (hs : l.length ≤ 140737488351232) (hb : ∀ r ∈ l, r.2.2.2.length ≤ 140737488351232) :
    Calls Tryd.prog 8 #[.slice B R.length cb, .slice A l.length c] w fun e w' => ∃ g, e = .returned (.bool g) ∧ (g = false → R.length ≤ 5000 ∧ (∀ b ∈ R, b.length ≤ 5000) ∧ l.length ≤ 60 ∧ ∀ r ∈ l, r.2.2.2.length ≤ 20000) ∧ Below w.heap.size w w' := by
  obtain ⟨wr, hwr, hwb⟩ := weigh_eq R hbR hsR 5000 (by omega) (by omega) (R.length + 1) (by omega)
  have HWC := Lib.hid (moraineref00_Weigh.calls (R.length + 1) B cb R 5000 wr w hCR hcb hwr)
  have HWB := Lib.hid hwb
  have HC := Lib.hid hC
  have HBB := Lib.hid hb
  have hl2 : (l.length : Int) ≤ 140737488351232 := by omega
  clear hC hb hwr hwb hCR hcb hsR hbR
  by_cases h5 : 5000 < wr
  · have d5 : decide ((5000 : Int) < wr) = true := decide_eq_true h5
    clear h5
    go_enter Tryd.func8, Tryd.ntmps8
    go_wp2_with fail
    refine HWC.out.mono ?_
    rintro e w1 ⟨rfl, nd, rfl⟩
    have HB1 := Lib.hid (pw_below_drewN (Below.refl w.heap.size w) nd)
    go_wp2
    go_ret
    exact ⟨true, rfl, (fun h => by cases h), HB1.out⟩
  have d5 : decide ((5000 : Int) < wr) = false := decide_eq_false h5
  have HW5 : Hid (wr ≤ 5000) := by show _ ≤ _; omega
  by_cases h0 : 60 < l.length
  · have d0 : decide ((60 : Int) < (l.length : Int)) = true := decide_eq_true (by omega)
    clear h5
    go_enter Tryd.func8, Tryd.ntmps8
    go_wp2_with fail
    refine HWC.out.mono ?_
    rintro e w1 ⟨rfl, nd, rfl⟩
    have HB1 := Lib.hid (pw_below_drewN (Below.refl w.heap.size w) nd)
    go_wp2
    go_ret
    exact ⟨true, rfl, (fun h => by cases h), HB1.out⟩
  have d0 : decide ((60 : Int) < (l.length : Int)) = false := decide_eq_false (by omega)
  have hl3 : (l.length : Int) ≤ 60 := by omega
  clear hs h0 h5 hl2
  go_enter Tryd.func8, Tryd.ntmps8
  go_wp2_with fail
  refine HWC.out.mono ?_
  rintro e w1 ⟨rfl, nd, rfl⟩
  have hb1 := pw_below_drewN (Below.refl w.heap.size w) nd
  have HB1 := Lib.hid hb1
  have HC1 := Lib.hid (Kd.C_below HC.out hb1)
  obtain ⟨w1, hw1⟩ : ∃ z, z = w.drewN nd := ⟨_, rfl⟩
  rw [← hw1] at HB1 HC1 ⊢
  clear hb1 hw1 HWC
  go_wp2
  go_loopw [5, 6] (fun n i wr => ∃ (s j : Nat), j ≤ l.length ∧ s ≤ 20000 ∧ n = .int .i64 s ∧ i = .int .i64 j ∧ Hid (∀ (p : Nat) (r : Rec3), p < j → l[p]? = some r → r.2.2.2.length ≤ 20000) ∧ w1 = wr) (fun _ i _ => (1000 - intOf i).toNat)
  case atStart => exact ⟨0, 0, by omega, by omega, rfl, rfl, (fun p r h => absurd h (by omega)), rfl⟩
  case round =>
    obtain ⟨s, j, hj, hs, rfl, rfl, HT, rfl⟩ := hrel
    rcases Nat.lt_or_ge j l.length with hlt | hge
    · have hlt2 : (j : Int) < (l.length : Int) := by omega
      obtain ⟨g0, o0, rfl, hcell⟩ := rec_of_C HC1.out (by omega)
      have hjl := List.getElem?_eq_getElem hlt
      obtain ⟨r, hr⟩ : ∃ r, l[j] = r := ⟨_, rfl⟩
      rw [hr] at hjl
      obtain ⟨Ad, cd, _, _, _, c3, _, _⟩ := hcell j r hjl
      have hbr := HBB.out r (hr ▸ List.getElem_mem hlt)
      obtain ⟨d, hd⟩ : ∃ d, r.2.2.2.length = d := ⟨_, rfl⟩
      rw [hd] at c3 hbr
      have hs2 : (s : Int) ≤ 20000 := by omega
      have hd2 : (d : Int) ≤ 140737488351232 := by omega
      have HT2 : Hid (d ≤ 20000 → ∀ (p : Nat) (r : Rec3), p < j + 1 → l[p]? = some r → r.2.2.2.length ≤ 20000) := fun hd3 p r' hp hr' => by
        by_cases e : p = j
        · subst e
          rw [hjl] at hr'
          cases hr'
          omega
        · exact HT.out p r' (by omega) hr'
      clear hcell hjl hr hd hbr
      by_cases hg : 20000 < s + d
      · have dg : decide ((20000 : Int) < (s : Int) + (d : Int)) = true := decide_eq_true (by omega)
        clear hg
        go_wp2
        go_ret
        exact ⟨true, rfl, (fun h => by cases h), HB1.out⟩
      · have dg : decide ((20000 : Int) < (s : Int) + (d : Int)) = false := decide_eq_false (by omega)
        have HG : Hid (s + d ≤ 20000) := by show _ ≤ _; omega
        clear hg
        go_wp2
        go_roundw
        case rel => exact ⟨s + d, j + 1, by omega, HG.out, by go_num, by go_num, HT2.out (by have := HG.out; omega), trivial⟩
        case measure => simp [intOf]; omega
    · obtain rfl : j = l.length := by omega
      go_wp2
      go_ret
      refine ⟨false, rfl, fun _ => ⟨by have := HWB.out HW5.out; omega, fun b hb => by have := (HWB.out HW5.out).2 b hb; omega, by omega, fun r hr => ?_⟩, HB1.out⟩
      obtain ⟨p, hp, rfl⟩ := List.getElem_of_mem hr
      exact HT.out p _ hp (List.getElem?_eq_getElem hp)
theorem great_nil {q : TypeId} (A : Option Addr) (c : Nat) (l : List Rec3) (w : World) (hC : Kd.C (kRec q .u8) w A l.length l) (hs : l.length ≤ 140737488351232) (hb : ∀ r ∈ l, r.2.2.2.length ≤ 140737488351232) :
    Calls Tryd.prog 8 #[.slice none 0 0, .slice A l.length c] w fun e w' => ∃ g, e = .returned (.bool g) ∧ (g = false → l.length ≤ 60 ∧ ∀ r ∈ l, r.2.2.2.length ≤ 20000) ∧ Below w.heap.size w w' := by
  refine (great_calls (q := q) none 0 [] A c l w (Kd.C_nil _ _) (Nat.le_refl _) (by simp) (fun b h => by cases h) hC hs hb).mono ?_
  rintro e w' ⟨g, rfl, hg, hB⟩
  exact ⟨g, rfl, fun h => (hg h).2.2, hB⟩
end Go.Proofs.YthahdombnmkokaaDoor.Given

/- alive; by hand. -/
namespace Go.Proofs.YthahdombnmkokaaDoor.Given
open Go.RowKit Go.Maps Go.Sort Go.Shelf Go.Proofs.YthahdombnmkokaaDoorW.PrintWords Go.Proofs.YthahdombnmkokaaDoorW.PrintLast Go.Proofs.YthahdombnmkokaaDoorW.PrintMore Go.Proofs.YthahdombnmkokaaDoor.Base
set_option linter.unusedVariables false
set_option linter.unusedSimpArgs false
variable {G : Nat → Prop}
theorem same1 : moraineref00_SameInts.f 3 [1] [1] = some true := by kernel_rfl
theorem same07 : moraineref00_SameBytes.f 3 [0, 7] [0, 7] = some true := by kernel_rfl
def c7 : Nat → Int := wrC (fun _ => 0) 100 [7]
def P1 : Int → Bool := fun k => decide (k = 1)
theorem c7_P (k : Nat) : P1 (k : Int) = true ↔ ∃ i, i < 56 ∧ c7 (k * 56 + i) ≠ 0 := by
  unfold P1 c7 wrC
  rw [decide_eq_true_iff]
  constructor
  · intro h
    exact ⟨44, by omega, by rw [if_pos (by simp; omega), show k * 56 + 44 - 100 = 0 by omega]; decide⟩
  · rintro ⟨i, hi, h⟩
    by_cases e : 100 ≤ k * 56 + i ∧ k * 56 + i < 100 + ([7] : List Int).length
    · simp at e; omega
    · rw [if_neg e] at h; exact absurd rfl h
theorem sel1 : selJ P1 2 = [1] := by decide
theorem list7 : listC c7 99 2 = [0, 7] := by decide
set_option maxHeartbeats 4000000 in
set_option maxRecDepth 100000 in
theorem alive_calls (w : World) : Calls Tryd.prog 7 #[] w fun e w' => e = .returned (.bool true) ∧ Below w.heap.size w w' := by
  go_enter Tryd.func7, Tryd.ntmps7
  go_wp2_with fail
  refine (fnew_S (G := fun _ => True) _ _).mono ?_
  rintro e w1 ⟨q, p, bA, bF, rfl, hS, g1, g2, g3, g4, hB⟩
  have HB1 : Hid (Below w.heap.size w w1) := ((Below.refl _ w).alloc (Nat.le_refl _) _).trans (hB.mono (by simp))
  have HS1 := Lib.hid hS
  have HG : Hid (w.heap.size ≤ q ∧ w.heap.size ≤ bA ∧ w.heap.size ≤ bF) := by simp at g1 g3 g4; show _ ∧ _; omega
  clear hS g1 g2 g3 g4 hB
  go_wp2_with fail
  have hba := (Below.refl w1.heap.size w1).alloc (Nat.le_refl _) (.cells #[.int .u8 7] 5)
  refine (write_S (HS1.out.below hba) (by omega) 100 (some ⟨w1.heap.size, 0, none⟩) 1 [7] (lit_CB [7] w1 _ 1 (by simp [encs]) rfl (by decide) _ rfl) (Nat.le_refl _) (by decide) (fun _ _ => trivial)).mono ?_
  rintro e w2 (⟨hbad, _, _⟩ | ⟨_, _, rfl, hft, hs⟩)
  · exact absurd hbad (by simp)
  have HS2 : Hid (FS (fun _ => True) w2 q p bA bF (828 + 829) 101 c7 _) := hs
  have HB2 : Hid (Below w.heap.size w w2) := (HB1.out.trans (hba.mono HB1.out.size)).trans (hft.tr.from_ (Nat.le_trans HB1.out.size hba.size) (by rintro b (rfl | rfl | rfl); exact HG.out.2.1; exact HG.out.2.2; exact HG.out.1))
  clear hft hs hba HS1 HB1
  go_wp2_with fail
  refine (size_S HS2.out).mono ?_
  rintro e w3 ⟨rfl, rfl⟩
  go_wp2_with fail
  refine (blocks_S HS2.out).mono ?_
  rintro e w3 ⟨rfl, rfl⟩
  go_wp2_with fail
  refine (blocks_S HS2.out).mono ?_
  rintro e w3 ⟨rfl, rfl⟩
  go_wp2_with fail
  refine (there_S HS2.out (by omega) P1 c7_P 2 (by omega)).mono ?_
  rintro e w3 ⟨A2, c2, rfl, hc2, hC2, hB⟩
  rw [sel1] at hc2 hC2 ⊢
  have HB3 : Hid (Below w.heap.size w w3) := HB2.out.trans (hB.mono HB2.out.size)
  have HS3 := Lib.hid (HS2.out.below hB)
  have HC2 := Lib.hid hC2
  clear hB HB2 HS2 hC2
  go_wp2_with fail
  refine (moraineref00_SameInts.calls 3 A2 c2 [1] (some ⟨w3.heap.size, 0, none⟩) 1 [1] true _ (Kd.C_below HC2.out ((Below.refl _ w3).alloc (Nat.le_refl _) _)) hc2 (lit_CI [1] w3 _ 1 (by simp [encs]) rfl (by decide) _ rfl) (by decide) same1).mono ?_
  rintro e w4 ⟨rfl, ⟨nd, rfl⟩⟩
  have hb4 := pw_below_drewN ((Below.refl w3.heap.size w3).alloc (Nat.le_refl _) (.cells #[.int .i64 1] 3)) nd
  have HB4 : Hid (Below w.heap.size w ((w3.alloc (.cells #[.int .i64 1] 3)).drewN nd)) := HB3.out.trans (hb4.mono HB3.out.size)
  have HS4 := Lib.hid (HS3.out.below hb4)
  obtain ⟨w4, hw4⟩ : ∃ z, z = (w3.alloc (.cells #[.int .i64 1] 3)).drewN nd := ⟨_, rfl⟩
  rw [← hw4] at HB4 HS4 ⊢
  clear hw4 hb4 HB3 HS3 HC2 hc2
  go_wp2_with fail
  refine (read_S HS4.out 99 5 (by omega) (by omega) 99 2 (by omega) (by omega)).mono ?_
  rintro e w5 ⟨A5, c5, rfl, hc5, hC5, hB⟩
  rw [list7] at hc5 hC5 ⊢
  have HB5 : Hid (Below w.heap.size w w5) := HB4.out.trans (hB.mono HB4.out.size)
  have HC5 := Lib.hid hC5
  clear hB HB4 HS4 hC5
  go_wp2_with fail
  refine (moraineref00_SameBytes.calls 3 A5 c5 [0, 7] (some ⟨w5.heap.size, 0, none⟩) 2 [0, 7] true _ (Kd.C_below HC5.out ((Below.refl _ w5).alloc (Nat.le_refl _) _)) hc5 (lit_CB [0, 7] w5 _ 2 (by simp [encs]) rfl (by decide) _ rfl) (by decide) same07).mono ?_
  rintro e w6 ⟨rfl, ⟨nd2, rfl⟩⟩
  have HB7 : Hid (Below w.heap.size w ((w5.alloc (.cells #[.int .u8 0, .int .u8 7] 5)).drewN nd2)) := pw_below_drewN (HB5.out.alloc HB5.out.size _) nd2
  go_wp2_with fail
  go_ret
  exact ⟨rfl, HB7.out⟩
end Go.Proofs.YthahdombnmkokaaDoor.Given

/- A file, and bytes of the caller's own beside it; by hand. -/
namespace Go.Proofs.YthahdombnmkokaaDoor.Given
open Go.RowKit Go.Maps Go.Sort Go.Shelf Go.Proofs.YthahdombnmkokaaDoorW.PrintWords Go.Proofs.YthahdombnmkokaaDoorW.PrintLast Go.Proofs.YthahdombnmkokaaDoorW.PrintMore Go.Proofs.YthahdombnmkokaaDoor.Base
set_option linter.unusedVariables false
set_option linter.unusedSimpArgs false
variable {G : Nat → Prop}
theorem C_other {w w1 : World} {o : Option Nat} {A : Option Addr} {n : Nat} {xs : List Int} (h : Kd.C (Kd.int .u8) w A n xs) (hA : ∀ ad, A = some ad → some ad.block ≠ o) (hg : w.grownBy w1 o) : Kd.C (Kd.int .u8) w1 A n xs := by
  rcases Nat.eq_zero_or_pos n with h0 | h0
  · subst h0
    exact ⟨h.1, h.2.1, fun hn => absurd hn (by omega)⟩
  · obtain ⟨b, off, rfl, hcl⟩ := addr_of_C8 h h0
    refine Kd.C_of_reads (d := (0 : Int)) (h1 := fun _ => rfl) ⟨h.1, h.2.1, fun _ => ⟨_, rfl, fun j hj => ?_⟩⟩
    rw [addr_add]
    have hj' := hcl j hj
    rw [← hj']
    refine cell_block (p := ⟨b, off + j, none⟩) ?_
    cases hb : w.heap[b]? with
    | none => unfold World.cell? at hj'; rw [hb] at hj'; simp at hj'
    | some x => rw [← hb]; exact hg.block b (Array.getElem?_eq_some_iff.1 hb).1 (hA _ rfl)
theorem FX.own {w w1 : World} {q p bA bF N : Nat} {n : Int} {a : Int → Option Int} {f : Int → Option (List Int)} {fr : Value} (h : FX G w q p bA bF N n a f fr) {o : Option Nat} (hg : w.grownBy w1 o) (hG : ∀ b, G b → some b ≠ o) (ho : ∀ g, o = some g → ∃ cs, w.heap[g]? = some (.cells cs 5 (0, 0))) : FX G w1 q p bA bF N n a f fr := by
  have hne : ∀ {i : Nat} {cs : Array Value} {t : TypeId}, w.heap[i]? = some (.cells cs t (0, 0)) → t ≠ 5 → some i ≠ o := fun {i cs t} hi ht e => by
    obtain ⟨cs', hc⟩ := ho i e.symm
    rw [hi] at hc
    injection hc with hc
    injection hc with _ hc
    exact ht hc
  have hm : ∀ {b m : Nat} {D : DataW Value}, w.ownsMap Tryd.prog 3 tokR b m D → some b ≠ o := fun {b m D} om e => by
    obtain ⟨es, ck, hb, _⟩ := om
    obtain ⟨cs', hc⟩ := ho b e.symm
    rw [hb] at hc
    cases hc
  refine ⟨(hg.block q (blk_lt h.hq) (hne h.hq (by decide))).trans h.hq, ?_, h.nf⟩
  obtain ⟨DA, DF, mF, hB⟩ := h.bx
  refine ⟨DA, DF, mF, ⟨(hg.block p (blk_lt hB.hp) (hne hB.hp (by decide))).trans hB.hp, hB.bp, hB.ba, hB.bf, hB.ne, hB.oA.kept hg (hm hB.oA), hB.hA, hB.oF.kept hg (hm hB.oF), hB.hF, fun k => ⟨(hB.el k).1, fun r hr => ?_⟩⟩⟩
  obtain ⟨u, hu, A, c, rfl, h1, h2, h3⟩ := (hB.el k).2 r hr
  exact ⟨_, hu, A, c, rfl, h1, h2, C_other h3.1 (fun ad e => hG _ (h3.2 ad e)) hg, h3.2⟩
theorem FX.reg {G' : Nat → Prop} {w : World} {q p bA bF N : Nat} {n : Int} {a : Int → Option Int} {f : Int → Option (List Int)} {fr : Value} (h : FX G w q p bA bF N n a f fr) (hG : ∀ b, b < w.heap.size → G b → G' b) : FX G' w q p bA bF N n a f fr := by
  refine ⟨h.hq, ?_, h.nf⟩
  obtain ⟨DA, DF, mF, hB⟩ := h.bx
  refine ⟨DA, DF, mF, ⟨hB.hp, hB.bp, hB.ba, hB.bf, hB.ne, hB.oA, hB.hA, hB.oF, hB.hF, fun k => ⟨(hB.el k).1, fun r hr => ?_⟩⟩⟩
  obtain ⟨u, hu, A, c, rfl, h1, h2, h3⟩ := (hB.el k).2 r hr
  refine ⟨_, hu, A, c, rfl, h1, h2, h3.1, fun ad e => hG _ ?_ (h3.2 ad e)⟩
  obtain ⟨b, off, e2, hcl⟩ := addr_of_C8 h3.1 (by omega)
  rw [e] at e2
  obtain rfl := Option.some.inj e2
  have h0 := hcl 0 (by omega)
  show b < w.heap.size
  cases hb : w.heap[b]? with
  | none => unfold World.cell? at h0; rw [show (⟨b, off + 0, none⟩ : Addr).block = b from rfl, hb] at h0; simp at h0
  | some x => exact (Array.getElem?_eq_some_iff.1 hb).1
theorem FS.own {w w1 : World} {q p bA bF N n : Nat} {c : Nat → Int} {fr : Value} (h : FS G w q p bA bF N n c fr) {o : Option Nat} (hg : w.grownBy w1 o) (hG : ∀ b, G b → some b ≠ o) (ho : ∀ g, o = some g → ∃ cs, w.heap[g]? = some (.cells cs 5 (0, 0))) : FS G w1 q p bA bF N n c fr := by
  obtain ⟨f, hx, hi⟩ := h
  exact ⟨f, hx.own hg hG ho, hi⟩
theorem FS.reg {G' : Nat → Prop} {w : World} {q p bA bF N n : Nat} {c : Nat → Int} {fr : Value} (h : FS G w q p bA bF N n c fr) (hG : ∀ b, b < w.heap.size → G b → G' b) : FS G' w q p bA bF N n c fr := by
  obtain ⟨f, hx, hi⟩ := h
  exact ⟨f, hx.reg hG, hi⟩
theorem own8_typed {w : World} {base : Nat} {ok : Nat → Prop} {v : Value} {xs : List Int} (h : Kd.R (Kd.int .u8) 5 w base ok v xs) : ∀ g, v.ownBlock = some g → ∃ cs, w.heap[g]? = some (.cells cs 5 (0, 0)) := fun g hg => own_typed (Kd.own_of_R h) g hg
theorem own8_lt {w : World} {base : Nat} {ok : Nat → Prop} {v : Value} {xs : List Int} (h : Kd.R (Kd.int .u8) 5 w base ok v xs) : ∀ g, v.ownBlock = some g → base ≤ g ∧ g < w.heap.size := fun g hg => ⟨((Kd.R_bound h).1 g hg).2.1, ((Kd.R_bound h).1 g hg).2.2.1⟩
/-- Blocks that are none of a slice's own. -/
def Off (v : Value) : Nat → Prop := fun b => some b ≠ v.ownBlock
theorem FS.append {w w1 : World} {q p bA bF N n : Nat} {c : Nat → Int} {fr v v1 : Value} (h : FS (Off v) w q p bA bF N n c fr) (ho : ∀ g, v.ownBlock = some g → ∃ cs, w.heap[g]? = some (.cells cs 5 (0, 0))) (hg : w.grownBy w1 v.ownBlock) (hat : v1.ownBlock = v.ownBlock ∨ ∃ b, v1.ownBlock = some b ∧ w.heap.size ≤ b) : FS (Off v1) w1 q p bA bF N n c fr := by
  have h1 : FS (fun b => some b ≠ v.ownBlock ∧ some b ≠ v1.ownBlock) w q p bA bF N n c fr := h.reg fun b hb hv => ⟨hv, by
    rcases hat with e | ⟨x, e, hx⟩
    · rw [e]; exact hv
    · rw [e]; intro e2; have := Option.some.inj e2; omega⟩
  exact (h1.own hg (fun b hb => hb.1) ho).reg (fun b _ hb => hb.2)
theorem FS.store {w : World} {q p bA bF N n : Nat} {c : Nat → Int} {fr : Value} {g k cp : Nat} (h : FS (Off (.slice (some ⟨g, 0, none⟩) k cp)) w q p bA bF N n c fr) (ho : ∃ cs, w.heap[g]? = some (.cells cs 5 (0, 0))) (i : Nat) (u : Value) : FS (Off (.slice (some ⟨g, 0, none⟩) k cp)) (w.setCell ⟨g, i, none⟩ u) q p bA bF N n c fr :=
  h.own (grown_set w g i u) (fun b hb => by simpa [Off, Value.ownBlock] using hb) (fun g' e => by cases e; exact ho)
/-- One byte of a slice of the call's own set. -/
theorem R_set1 {w : World} {base : Nat} {ok : Nat → Prop} {g n cp : Nat} {xs : List Int} (h : Kd.R (Kd.int .u8) 5 w base ok (.slice (some ⟨g, 0, none⟩) n cp) xs) (i : Nat) (hi : i < xs.length) (y : Int) : Kd.R (Kd.int .u8) 5 (w.setCell ⟨g, i, none⟩ (.int .u8 y)) base ok (.slice (some ⟨g, 0, none⟩) n cp) (splice xs i [y]) := by
  obtain ⟨g', cur, e, hn, hc, _, hheap, hcl, hsh⟩ := R_open h (by omega)
  obtain rfl : g = g' := by injection e with e; injection e
  exact hsh _ i [y] (setCells_heap [.int .u8 y] i w cur hheap (by simp; omega)) (by simp; omega)
/-- A list, and noughts behind it. -/
def padz (c : Nat → Int) (n z : Nat) : List Int := listC c 0 n ++ List.replicate z 0
theorem padz_len (c : Nat → Int) (n z : Nat) : (padz c n z).length = n + z := by simp [padz, listC_len]
theorem padz_zero (c : Nat → Int) (n : Nat) : padz c n 0 = listC c 0 n := by simp [padz]
theorem padz_succ (c : Nat → Int) (n z : Nat) : padz c n (z + 1) = padz c n z ++ [0] := by
  unfold padz
  rw [List.append_assoc, List.replicate_succ']
theorem padz_get (c : Nat → Int) (n z i : Nat) (hz : ∀ j, n ≤ j → c j = 0) (hi : i < n + z) : (padz c n z)[i]? = some (c i) := by
  unfold padz
  by_cases h : i < n
  · rw [List.getElem?_append_left (by rw [listC_len]; exact h)]
    simp [listC, h]
  · rw [List.getElem?_append_right (by rw [listC_len]; omega), listC_len, List.getElem?_replicate, if_pos (by omega), hz i (by omega)]
theorem padz_trunc (c : Nat → Int) (n z m : Nat) (hz : ∀ j, n ≤ j → c j = 0) (hm : m ≤ n + z) : (padz c n z).take m = listC (cutC c m) 0 m := by
  refine List.ext_getElem? fun i => ?_
  rw [List.getElem?_take]
  by_cases h : i < m
  · rw [if_pos h, padz_get c n z i hz (by omega)]
    simp [listC, h, cutC]
  · rw [if_neg h, List.getElem?_eq_none (by rw [listC_len]; omega)]
theorem splice_step (xs : List Int) (o : Nat) (D : List Int) (k : Nat) (hk : k < D.length) (h : o + D.length ≤ xs.length) : splice (splice xs o (D.take k)) (o + k) [D.getD k 0] = splice xs o (D.take (k + 1)) := by
  have h1 : (D.take k).length = k := by rw [List.length_take]; omega
  have h2 : (D.take (k + 1)).length = k + 1 := by rw [List.length_take]; omega
  have hl : (splice xs o (D.take k)).length = xs.length := splice_len _ _ _ (by omega)
  refine List.ext_getElem? fun i => ?_
  rw [splice_get _ _ _ (by rw [hl]; simp; omega), splice_get _ _ _ (by omega), splice_get _ _ _ (by omega), h1, h2]
  simp only [List.length_singleton]
  by_cases a1 : i < o
  · rw [if_pos (by omega), if_pos a1, if_pos a1]
  · rw [if_neg a1, if_neg a1]
    by_cases a2 : i < o + k
    · rw [if_pos a2, if_pos a2, if_pos (by omega), List.getElem?_take, List.getElem?_take, if_pos (by omega), if_pos (by omega)]
    · rw [if_neg a2]
      by_cases a3 : i = o + k
      · rw [if_pos (by omega), if_pos (by omega), a3, Nat.sub_self, show o + k - o = k by omega, List.getElem?_take, if_pos (by omega), List.getD_eq_getElem?_getD, List.getElem?_eq_getElem hk]
        rfl
      · rw [if_neg (by omega), if_neg a2, if_neg (by omega)]
theorem splice_zero (xs : List Int) (o : Nat) (D : List Int) : splice xs o (D.take 0) = xs := by simp [splice]
theorem splice_all (c : Nat → Int) (n z at0 : Nat) (D : List Int) (hz : ∀ j, n ≤ j → c j = 0) (hn : n + z = max n (at0 + D.length)) : splice (padz c n z) at0 (D.take D.length) = listC (wrC c at0 D) 0 (max n (at0 + D.length)) := by
  refine List.ext_getElem? fun i => ?_
  rw [List.take_length, splice_get _ _ _ (by rw [padz_len]; omega)]
  by_cases h : i < n + z
  · have hr : (listC (wrC c at0 D) 0 (max n (at0 + D.length)))[i]? = some (wrC c at0 D i) := by
      rw [← hn]; simp [listC, h]
    rw [hr]
    unfold wrC
    by_cases a1 : i < at0
    · rw [if_pos a1, if_neg (by omega), padz_get c n z i hz h]
    · rw [if_neg a1]
      by_cases a2 : i < at0 + D.length
      · rw [if_pos a2, if_pos (by omega), List.getD_eq_getElem?_getD, List.getElem?_eq_getElem (by omega)]
        rfl
      · rw [if_neg a2, if_neg (by omega), padz_get c n z i hz h]
  · rw [if_neg (by omega), if_neg (by omega), List.getElem?_eq_none (by rw [padz_len]; omega), List.getElem?_eq_none (by rw [listC_len]; omega)]
end Go.Proofs.YthahdombnmkokaaDoor.Given
