/- The reference's Store: Block; by hand. -/
import Derived.Test.YthahdombnmkokaaDoorFils2
namespace Go.Proofs.YthahdombnmkokaaDoor.Given
open Go.RowKit Go.Maps Go.Sort Go.Shelf Go.Proofs.YthahdombnmkokaaDoorW.PrintWords Go.Proofs.YthahdombnmkokaaDoorW.PrintLast Go.Proofs.YthahdombnmkokaaDoorW.PrintMore Go.Proofs.YthahdombnmkokaaDoor.Base
set_option linter.unusedVariables false
set_option linter.unusedSimpArgs false
/-- A store: blocks' numbers, and their bytes. -/
def SX (w : World) (ps : Nat) (At : List Int) (L : List (List Int)) : Prop := ∃ (A B : Option Addr) (c c' : Nat), w.heap[ps]? = some (.cells #[.slice A At.length c, .slice B L.length c'] 33 (0, 0)) ∧ At.length ≤ c ∧ Kd.C (Kd.int .i64) w A At.length At ∧ L.length ≤ c' ∧ Kd.C kRow w B L.length L
theorem SX.below {w w1 : World} {ps : Nat} {At : List Int} {L : List (List Int)} (h : SX w ps At L) (hb : Below w.heap.size w w1) : SX w1 ps At L := by
  obtain ⟨A, B, c, c', h1, h2, h3, h4, h5⟩ := h
  exact ⟨A, B, c, c', blk_below h1 hb, h2, Kd.C_below h3 hb, h4, Kd.C_below h5 hb⟩
def sto : List Int → List (List Int) → Int → Option (List Int)
  | a :: As, r :: Ls, x => if a = x then some r else sto As Ls x
  | _, _, _ => none
theorem sto_at : ∀ (At : List Int) (L : List (List Int)) (x : Int) (j : Nat), (∀ i, i < j → At.getD i 0 ≠ x) → At.getD j 0 = x → j < At.length → At.length ≤ L.length → sto At L x = some (L.getD j [])
  | [], _, _, _, _, _, h, _ => absurd h (by simp)
  | _ :: _, [], _, _, _, _, _, h => absurd h (by simp)
  | a :: As, r :: Ls, x, 0, _, h, _, _ => by
    have h : a = x := by simpa using h
    simp [sto, h]
  | a :: As, r :: Ls, x, j + 1, h1, h2, h3, h4 => by
    have h0 : a ≠ x := by simpa using h1 0 (by omega)
    simp only [sto]
    rw [if_neg h0, sto_at As Ls x j (fun i hi => by simpa using h1 (i + 1) (by omega)) (by simpa using h2) (by simpa using h3) (by simpa using h4)]
    simp
theorem sto_none : ∀ (At : List Int) (L : List (List Int)) (x : Int), (∀ i, i < At.length → At.getD i 0 ≠ x) → sto At L x = none
  | [], L, _, _ => by cases L <;> rfl
  | _ :: _, [], _, _ => rfl
  | a :: As, r :: Ls, x, h => by
    have h0 : a ≠ x := by simpa using h 0 (by simp)
    simp only [sto]
    rw [if_neg h0]
    exact sto_none As Ls x (fun i hi => by simpa using h (i + 1) (by simpa using hi))
/-- What was got of a store. -/
def GotR (o : Option (List Int)) (w w' : World) (e : Ending) : Prop := Below w.heap.size w w' ∧
  match o with
  | some r => ∃ A c, e = .returned (.tuple #[.slice A r.length c, .int .i64 0]) ∧ r.length ≤ c ∧ Kd.C (Kd.int .u8) w' A r.length r
  | none => e = .returned (.tuple #[.slice none 0 0, .int .i64 14])
set_option maxRecDepth 100000 in
set_option maxHeartbeats 4000000 in
theorem sblock_calls {w : World} {ps : Nat} {At : List Int} {L : List (List Int)} (h : SX w ps At L) (hl : At.length ≤ L.length) (hr : ∀ r ∈ L, r.length ≤ 1000000) (hA : At.length ≤ 1000000) (x : Int) :
    Calls Tryd.prog 102 #[.pointer (some ⟨ps, 0, none⟩), .int .i64 x] w fun e w' => GotR (sto At L x) w w' e := by
  obtain ⟨A, B, c, c', h1, h2, h3, h4, h5⟩ := h
  have c0 : w.cell? ⟨ps, 0, none⟩ = some (.slice A At.length c) := (blk_cell h1 0).trans rfl
  have c1 : w.cell? ⟨ps, 1, none⟩ = some (.slice B L.length c') := (blk_cell h1 1).trans rfl
  have hu := Tryd.underlying33
  have hA2 : (At.length : Int) ≤ 1000000 := by omega
  have H3 := Lib.hid h3
  have H5 := Lib.hid h5
  have HL := Lib.hid hl
  have HR := Lib.hid hr
  have HB0 := Lib.hid (Below.refl w.heap.size w)
  clear h1 h2 h3 h4 h5 hl hr
  go_enter Tryd.func102, Tryd.ntmps102
  go_wp2
  go_loopw [6] (fun i wr => ∃ j : Nat, j ≤ At.length ∧ i = .int .i64 j ∧ Hid (∀ i, i < j → At.getD i 0 ≠ x) ∧ w = wr) (fun i _ => At.length - (intOf i).toNat)
  case atStart => exact ⟨0, Nat.zero_le _, rfl, (fun i hi => absurd hi (by omega)), rfl⟩
  case round =>
    obtain ⟨j, hj, rfl, HN, rfl⟩ := hrel
    rcases Nat.lt_or_ge j At.length with hlt | hge
    · have hlt2 : (j : Int) < (At.length : Int) := by omega
      obtain ⟨b, off, rfl, hcl⟩ := addr_of_C8 H3.out (by omega)
      have hcell := hcl j hlt
      obtain ⟨y, hy⟩ : ∃ y, At.getD j 0 = y := ⟨_, rfl⟩
      rw [hy] at hcell
      have hjL : j < L.length := by have := HL.out; omega
      have hjL2 : (j : Int) < (L.length : Int) := by omega
      obtain ⟨b2, off2, rfl, hrow⟩ := row_of_C H5.out (by omega)
      have hjl := List.getElem?_eq_getElem hjL
      obtain ⟨r, hr⟩ : ∃ r, L[j] = r := ⟨_, rfl⟩
      rw [hr] at hjl
      obtain ⟨Ad, cd, hcell2, hcd, hCd⟩ := hrow j r hjl
      have hrl := HR.out r (hr ▸ List.getElem_mem hjL)
      have HLT := Lib.hid hlt
      have HY := Lib.hid hy
      have HJL := Lib.hid hjl
      have HCD := Lib.hid hCd
      have HRL := Lib.hid hrl
      clear hcl hjl hr hrow hcd hCd hrl hlt hy
      by_cases hq : y = x
      · have dq : (y == x) = true := beq_iff_eq.2 hq
        have HST : Hid (sto At L x = some r) := by
          show _ = _
          rw [sto_at At L x j HN.out (HY.out.trans hq) HLT.out HL.out, List.getD_eq_getElem?_getD, HJL.out]
          rfl
        clear hq
        go_wp2_with (first | ((with_reducible refine gate_dst (N := 26) rfl ?_); refine Kd.R_lit (Kd.int .u8) _ 5 ?hg (N := 26) ?hd (xs := ([] : List Int)) (inner := []) (ok := fun _ => True) (okp := fun _ => True) ?hr ?hp (fun _ hk => hk) trivial (Below.refl _ _) (Nat.le_refl _) (by simp) ?_; (case hd => rfl); (case hg => rfl); (case hr => first | (go_simp; done) | (go_simp; rfl)); (case hp => exact (Reps.none _ _)); intro v3 w3 ho hb hg_ hnew_; have HB3 := Lib.hid hb; have HO3 := Lib.hid ho; have c13 := pw_cell_below HB3.out c1; have c23 := pw_cell_below HB3.out hcell2; clear ho hb hg_ hnew_) | ((with_reducible refine gate_builtin (b := .append) (xs := #[.tmp 27, .tmp 34]) rfl ?_); at_builtin; refine Kd.R_append_rows (Kd.int .u8) (w0 := w) w.heap.size rfl (.tmp 27) (.tmp 34) 34 5 (.int .u8 0) 1 rfl Tryd.underlying34 infoB rfl (by decide) (by omega) v3 [] r _ _ _ (fun _ => True) (fun _ => False) rfl rfl ?aO ?aR (fun _ _ h => h) (fun _ h => h.elim) ?aF ?aB ?aS ?aL ?_; (case aR => exact Kd.C_below HCD.out HB3.out); (case aB => exact HB3.out); (case aF => exact (fun _ _ => trivial)); (case aO => exact HO3.out); (case aS => exact HB3.out.size); (case aL => have := HRL.out; simp only [List.length_nil]; omega); intro v5 w5 ho hb hg hat; have HB5 := Lib.hid hb; have HO5 := Lib.hid ho; clear ho hb hg hat))
        obtain ⟨A9, c9, rfl⟩ := Kd.R_slice HO5.out
        go_ret2
        refine ⟨HB5.out, ?_⟩
        rw [HST.out]
        exact ⟨A9, c9, rfl, (Kd.R_reads' HO5.out).2.1, (Kd.R_reads' HO5.out).2.2⟩
      · have dq : (y == x) = false := beq_eq_false_iff_ne.2 hq
        have HN2 : Hid (∀ i, i < j + 1 → At.getD i 0 ≠ x) := fun i hi => by
          by_cases e : i = j
          · subst e; rw [HY.out]; exact hq
          · exact HN.out i (by omega)
        clear hq
        go_wp2
        go_roundw
        case rel => exact ⟨j + 1, HLT.out, by go_num, HN2, trivial⟩
        case measure => have := HLT.out; simp [intOf]; omega
    · obtain rfl : j = At.length := by omega
      have HST : Hid (sto At L x = none) := sto_none At L x HN.out
      go_wp2
      go_ret2
      refine ⟨HB0.out, ?_⟩
      rw [HST.out]
      rfl
end Go.Proofs.YthahdombnmkokaaDoor.Given
