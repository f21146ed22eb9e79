/- The contracts of super.NewestMark and super.NewestMember, as the print asks for them. -/
import Derived.Test.YtkpipmhcjjncdaaDoorGivNewestE
import Derived.Test.YtkpipmhcjjncdaaDoorPureDec
namespace Go.Proofs.YtkpipmhcjjncdaaDoor.Given
open Go.RowKit Go.Proofs.YtkpipmhcjjncdaaDoorW.PrintWords Go.Proofs.YtkpipmhcjjncdaaDoorW.PrintLast Go.Proofs.YtkpipmhcjjncdaaDoorW.PrintMore Go.Proofs.YtkpipmhcjjncdaaDoor.Base Go.Proofs.YtkpipmhcjjncdaaDoor.Pure
set_option linter.unusedVariables false
set_option linter.unusedSimpArgs false
/-- What a record tells as a member. -/
noncomputable def memS (l : List Int) : S25 × Bool := (⟨(memG l).1, (memG l).2.1, (memG l).2.2.1⟩, (memG l).2.2.2)
def okRows (l : List (List Int)) : Prop := l.length ≤ 1000000 ∧ ∀ b ∈ l, Byt b
theorem markV_bd {b : List Int} (hb : Byt b) : 0 ≤ (markV b).1 ∧ (markV b).1 ≤ 4294967296 := by
  unfold markV
  by_cases h : recOf 2 b ∧ zeros (b.drop 8)
  · rw [if_pos h]
    have := getL_bd (sub_byt hb 4 4) 4
    simp only [Nat.reduceMul] at this
    show 0 ≤ getL _ 4 ∧ getL _ 4 ≤ _
    omega
  · rw [if_neg h]; simp
theorem memS_bd {b : List Int} (hb : Byt b) : 0 ≤ (memS b).1.f0 ∧ (memS b).1.f0 ≤ 4294967296 := by
  unfold memS memG
  split
  · have := getL_bd (sub_byt hb 4 4) 4
    simp only [Nat.reduceMul] at this
    show 0 ≤ getL _ 4 ∧ getL _ 4 ≤ _
    omega
  · simp
noncomputable def super_NewestMark.f (l : List (List Int)) : Option Int := open Classical in if okRows l then some (newM markV l) else none
theorem super_NewestMark.calls (A0 : Option Addr) (c0 : Nat) (l0 : List (List Int)) (r : Int) (w : World) (hr0 : Kd.C (Kd.slice 5 (Kd.int .u8)) w A0 l0.length l0) (hc0 : l0.length ≤ c0) (h : super_NewestMark.f l0 = some r) :
    Calls Tryd.prog 26 #[.slice A0 l0.length c0] w fun e w' => e = .returned (.agg #[.int .i64 r]) ∧ Below w.heap.size w w' := by
  unfold super_NewestMark.f at h
  split at h
  · rename_i hok
    cases h
    exact newest_mark markV A0 c0 l0 w hr0 hok.1 (fun b hb A1 c1 w0 hC hc => super_GetMark.calls 20 A1 c1 b _ _ w0 hC hc (getMark_eq b (hok.2 b hb) 20 (Nat.le_refl _))) (fun b hb _ => markV_bd (hok.2 b hb))
  · cases h
noncomputable def super_NewestMember.f (l : List (List Int)) : Option (Int × Int × Int) := open Classical in if okRows l then some ((newE memS l).f0, (newE memS l).f1, (newE memS l).f2) else none
theorem super_NewestMember.calls (A0 : Option Addr) (c0 : Nat) (l0 : List (List Int)) (r1 r2 r3 : Int) (w : World) (hr0 : Kd.C (Kd.slice 5 (Kd.int .u8)) w A0 l0.length l0) (hc0 : l0.length ≤ c0) (h : super_NewestMember.f l0 = some (r1, r2, r3)) :
    Calls Tryd.prog 28 #[.slice A0 l0.length c0] w fun e w' => e = .returned (.agg #[.int .i64 r1, .int .i64 r2, .int .i64 r3]) ∧ Below w.heap.size w w' := by
  unfold super_NewestMember.f at h
  split at h
  · rename_i hok
    cases h
    exact newest_mem memS A0 c0 l0 w hr0 hok.1 (fun b hb A1 c1 w0 hC hc => super_GetMember.calls 20 A1 c1 b _ _ _ _ w0 hC hc (getMember_eq b (hok.2 b hb) 20 (Nat.le_refl _))) (fun b hb _ => memS_bd (hok.2 b hb))
  · cases h
end Go.Proofs.YtkpipmhcjjncdaaDoor.Given
