/- super.told at members: by hand. -/
import Derived.Test.YtkpipmhcjjncdaaDoorGivNewest
import Derived.WalkKit
import Derived.OwnWalk
import Derived.LoopTactic
import Derived.Outline
import Derived.Lib.Hide
import Derived.Deep.DeepMust
namespace Go.Proofs.YtkpipmhcjjncdaaDoor.Given
open Go.RowKit Go.Proofs.YtkpipmhcjjncdaaDoorW.PrintWords Go.Proofs.YtkpipmhcjjncdaaDoorW.PrintLast Go.Proofs.YtkpipmhcjjncdaaDoorW.PrintMore Go.Proofs.YtkpipmhcjjncdaaDoor.Base
set_option linter.unusedVariables false
set_option linter.unusedSimpArgs false
theorem infoE : (Tryd.prog.info? 25).map (fun i => (i.zero, i.size, i.bytes)) = some (some (.agg #[(.int .i64 0), (.int .i64 0), (.int .i64 0)]), 3, 24) := by kernel_rfl
/-- What those of some rows tell that tell something. -/
def toldE (g : List Int → S25 × Bool) (l : List (List Int)) : List S25 := l.filterMap fun b => if (g b).2 = true then some (g b).1 else none
theorem toldE_snoc (g : List Int → S25 × Bool) (l : List (List Int)) (b : List Int) : toldE g (l ++ [b]) = toldE g l ++ if (g b).2 = true then [(g b).1] else [] := by
  unfold toldE
  rw [List.filterMap_append]
  congr 1
  by_cases h : (g b).2 = true
  · rw [if_pos h]; simp [h]
  · rw [if_neg h]; simp [h]
theorem toldE_len (g : List Int → S25 × Bool) (l : List (List Int)) : (toldE g l).length ≤ l.length := List.length_filterMap_le _ _
set_option maxHeartbeats 4000000 in
set_option maxRecDepth 100000 in
theorem told_mem (g : List Int → S25 × Bool) (A : Option Addr) (c : Nat) (l : List (List Int)) (w : World) (hC : Kd.C (Kd.slice 5 (Kd.int .u8)) w A l.length l) (hl : l.length ≤ 1000000)
    (hg : ∀ b ∈ l, ∀ A0 c0 w0, Kd.C (Kd.int .u8) w0 A0 b.length b → b.length ≤ c0 → Calls Tryd.prog 13 #[.slice A0 b.length c0] w0 fun e w' => e = .returned (.tuple #[.agg #[.int .i64 (g b).1.f0, .int .i64 (g b).1.f1, .int .i64 (g b).1.f2], .bool (g b).2]) ∧ Below w0.heap.size w0 w') :
    Calls Tryd.prog 42 #[.slice A l.length c, .func (.func 13) #[] #[]] w fun e w' => ∃ v0 : Value, e = .returned v0 ∧ Kd.R k25 25 w' w.heap.size (fun _ => True) v0 (toldE g l) ∧ Below w.heap.size w w' := by
  have HC := Lib.hid hC
  have HG := Lib.hid hg
  clear hC hg
  go_enter Tryd.func42, Tryd.ntmps42
  go_wp2
  go_loopw [5, 12] (fun v5 v12 wr => ∃ j : Nat, j ≤ l.length ∧ v12 = .int .i64 j ∧ Hid (Kd.R k25 25 wr w.heap.size (fun _ => True) v5 (toldE g (l.take j))) ∧ Hid (Below w.heap.size w wr)) (fun _ i _ => l.length - (intOf i).toNat)
  case atStart => exact ⟨0, Nat.zero_le _, rfl, Lib.hid (Kd.R_nil _ _ _ _ _), Lib.hid (Below.refl _ _)⟩
  case round =>
    obtain ⟨j, hj, rfl, HR, HB⟩ := hrel
    by_cases hlt : j < l.length
    · have hlt' : (j : Int) < (l.length : Int) := by omega
      have h0 : (0 : Int) ≤ (j : Int) := by omega
      obtain ⟨ad, A0, c0, rfl, hcell0, hl0, hC0⟩ := at_L2 HC.out (j : Int) h0 hlt'
      obtain ⟨b, hb⟩ : ∃ b, rd_L2 l (j : Int) = b := ⟨_, rfl⟩
      have hb' : l[j]'hlt = b := by rw [← hb]; simp [rd_L2, hlt]
      rw [hb] at hcell0 hl0 hC0
      rw [Int.toNat_natCast] at hcell0
      have hmem : b ∈ l := hb' ▸ List.getElem_mem _
      have hcell := (HB.out.cell (World.block_lt_of_cell? w _ hcell0)).trans hcell0
      have HTK : Hid (toldE g (l.take (j + 1)) = toldE g (l.take j) ++ if (g b).2 = true then [(g b).1] else []) := by
        show _ = _
        rw [List.take_succ_eq_append_getElem hlt, toldE_snoc, hb']
      have hcall := HG.out b hmem A0 c0 wr (Kd.C_below hC0 HB.out) hl0
      have hlen : Hid ((toldE g (l.take j)).length ≤ 1000000) := by have := toldE_len g (l.take j); have h2 := List.length_take_le j l; show _ ≤ _; omega
      obtain ⟨⟨⟨n0, n1, n2⟩, ok⟩, hq⟩ : ∃ q, g b = q := ⟨_, rfl⟩
      rw [hq] at hcall HTK
      dsimp only at hcall HTK
      have HCALL := Lib.hid hcall
      clear hb hb' hmem hcell0 hcall hq hC0 hl0
      cases ok with
      | false =>
        have HT2 : Hid (toldE g (l.take (j + 1)) = toldE g (l.take j)) := by have := HTK.out; show _ = _; simpa using this
        go_wp2_with (go_at_call 13; refine HCALL.out.mono ?_; rintro e w1 ⟨rfl, hB⟩; have HB1 := Lib.hid hB; clear hB)
        go_roundw
        case rel =>
          have hb2 := HB1.out.trans (((Below.refl w1.heap.size w1).alloc (Nat.le_refl _) (.cells #[.int .i64 n0, .int .i64 n1, .int .i64 n2] 25)).mono HB1.out.size)
          exact ⟨j + 1, by omega, by go_num, by rw [HT2.out]; exact Lib.hid (Kd.R_below HR.out hb2), Lib.hid (below_step HB.out hb2)⟩
        case measure => simp [intOf]; omega
      | true =>
        have HT2 : Hid (toldE g (l.take (j + 1)) = toldE g (l.take j) ++ [⟨n0, n1, n2⟩]) := by have := HTK.out; show _ = _; simpa using this
        go_wp2_with (first | (go_at_call 13; refine HCALL.out.mono ?_; rintro e w1 ⟨rfl, hB⟩; have HB1 := Lib.hid (hB.trans (((Below.refl w1.heap.size w1).alloc (Nat.le_refl _) (.cells #[.int .i64 n0, .int .i64 n1, .int .i64 n2] 25)).mono hB.size)); clear hB) | ((with_reducible refine gate_builtin (b := .append) (xs := #[.tmp 23, .tmp 25]) rfl ?_); at_builtin; refine Kd.R_append k25 (w0 := w) w.heap.size rfl (.tmp 23) (.tmp 25) 69 25 (.agg #[.int .i64 0, .int .i64 0, .int .i64 0]) 24 rfl Tryd.underlying69 infoE rfl (by decide) (by omega) u5 (toldE g (l.take j)) ⟨n0, n1, n2⟩ [.int .i64 n0, .int .i64 n1, .int .i64 n2] (fun _ => True) (fun _ => False) rfl ?aX ?aP (fun _ hk => hk.elim) ?aF ?aO ?aB ?aS ?aL ?_; (case aX => first | rfl | (rw [World.size_alloc]; rfl) | (simp only [World.size_alloc]; rfl) | (go_simp; done) | (go_simp; rfl)); (case aP => exact k25_mkM _ _ _ _); (case aB => exact below_step HB.out HB1.out); (case aF => exact (fun _ _ => trivial)); (case aO => exact Kd.R_below HR.out HB1.out); (case aS => exact Nat.le_trans HB.out.size HB1.out.size); (case aL => have := hlen.out; omega); intro v18 w18 ho hb hg hat))
        go_roundw
        case rel => exact ⟨j + 1, by omega, by go_num, by rw [HT2.out]; exact Lib.hid ho, Lib.hid hb⟩
        case measure => simp [intOf]; omega
    · obtain rfl : j = l.length := by omega
      rw [List.take_length] at HR
      go_wp2
      go_ret
      exact ⟨_, rfl, HR.out, HB.out⟩
end Go.Proofs.YtkpipmhcjjncdaaDoor.Given
