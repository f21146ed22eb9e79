/- A file's block at an address of its store; by hand. -/
import Derived.Test.YthahdombnmkokaaDoorGivSto2
namespace Go.Proofs.YthahdombnmkokaaDoor.Given
open Go.RowKit Go.Maps Go.Sort Go.Shelf Go.Proofs.YthahdombnmkokaaDoorW.PrintWords Go.Proofs.YthahdombnmkokaaDoorW.PrintLast Go.Proofs.YthahdombnmkokaaDoorW.PrintMore Go.Proofs.YthahdombnmkokaaDoor.Base
set_option linter.unusedVariables false
set_option linter.unusedSimpArgs false
theorem sto_mem : ∀ (At : List Int) (L : List (List Int)) (x : Int) (r : List Int), sto At L x = some r → r ∈ L
  | [], L, _, _, h => by cases L <;> cases h
  | _ :: _, [], _, _, h => by cases h
  | a :: As, r :: Ls, x, y, h => by
    simp only [sto] at h
    split at h
    · rw [Option.some.inj h]; exact List.mem_cons_self
    · exact List.mem_cons_of_mem _ (sto_mem As Ls x y h)
theorem method_block (a : Addr) (W : World) : (method 245 29 (.pointer (some a)) "Block").run Tryd.prog W = .ok (102, .pointer (some a)) W := by kernel_rfl
set_option maxRecDepth 100000 in
set_option maxHeartbeats 2000000 in
theorem block_at {w : World} {q p bA bF N ps : Nat} {n : Int} {a : Int → Option Int} {f : Int → Option (List Int)} (h : FX w q p bA bF N n a f (.iface 29 (.pointer (some ⟨ps, 0, none⟩)))) (k : Int) (hk : (Lit.int .i64 k).wf = true) (hf : f k = none) (x : Int) (ha : a k = some x) (hx : 0 < x) {At : List Int} {L : List (List Int)} (hs : SX w ps At L) (hl : At.length ≤ L.length) (hL : ∀ r ∈ L, r.length = 56) (hA : At.length ≤ 1000000) :
    Calls Tryd.prog 28 #[.pointer (some ⟨q, 0, none⟩), .int .i64 k] w fun e w' => Got (sto At L x) w w' e := by
  have c0 : w.cell? ⟨q, 1, none⟩ = some (.pointer (some ⟨p, 0, none⟩)) := (blk_cell h.hq 1).trans rfl
  have c2 : w.cell? ⟨q, 2, none⟩ = some (.iface 29 (.pointer (some ⟨ps, 0, none⟩))) := (blk_cell h.hq 2).trans rfl
  have hu := Tryd.underlying61
  have dx : decide ((0 : Int) < x) = true := decide_eq_true hx
  have HX := Lib.hid (sblock_calls hs hl (fun r hr => by have := hL r hr; omega) hA x)
  have HB := Lib.hid h.bx
  have HK := Lib.hid hk
  have HF := Lib.hid hf
  have HA := Lib.hid ha
  have HL := Lib.hid hL
  have HS := Lib.hid hl
  clear h hk hf ha hs hl hL hA hx
  go_enter Tryd.func28, Tryd.ntmps28
  go_wp2_with fail
  refine (bytes_none HB.out.bm k HK.out HF.out).mono ?_
  rintro e w1 ⟨rfl, rfl⟩
  go_wp2_with fail
  refine (at_calls HB.out.bm k HK.out).mono ?_
  rintro e w1 ⟨rfl, rfl⟩
  rw [HA.out, Option.getD_some]
  have hm := fun W => method_block ⟨ps, 0, none⟩ W
  go_wp2_with fail
  refine HX.out.mono ?_
  clear HX
  rintro e w5 ⟨hB, hG⟩
  have HB5 := Lib.hid hB
  clear hB
  cases ho : sto At L x with
  | none =>
    rw [ho] at hG
    obtain rfl := hG
    have HO := Lib.hid ho
    clear ho
    go_wp2
    go_ret2
    refine ⟨HB5.out, ?_⟩
    rw [HO.out]
    rfl
  | some r =>
    rw [ho] at hG
    have h56 := HL.out r (sto_mem At L x r ho)
    obtain ⟨A6, c6, rfl, hc6, hC6⟩ := hG
    rw [h56] at hc6 hC6 ⊢
    have H56 := Lib.hid h56
    have HC6 := Lib.hid hC6
    have HCC := Lib.hid hc6
    have HO := Lib.hid ho
    clear ho h56 hC6 hc6
    go_wp2
    go_ret2
    refine ⟨HB5.out, ?_⟩
    rw [HO.out]
    exact ⟨H56.out, A6, c6, rfl, HCC.out, HC6.out⟩
/-- What a file over a store tells. -/
def oS (a : Int → Option Int) (At : List Int) (L : List (List Int)) : Int → Option (List Int) := fun k => match a k with | none => some zrow | some x => sto At L x
theorem tells_store {w : World} {q p bA bF N ps : Nat} {n : Int} {a : Int → Option Int} (h : FX w q p bA bF N n a (fun _ => none) (.iface 29 (.pointer (some ⟨ps, 0, none⟩)))) (hpos : ∀ k x, a k = some x → 0 < x) {At : List Int} {L : List (List Int)} (hs : SX w ps At L) (hl : At.length ≤ L.length) (hL : ∀ r ∈ L, r.length = 56) (hA : At.length ≤ 1000000) : Tells w q (oS a At L) := by
  intro w' hb k hk
  have h' := h.below hb
  unfold oS
  cases ha : a k with
  | none => exact block_zero h' k hk rfl ha
  | some x => exact block_at h' k hk rfl x ha (hpos k x ha) (hs.below hb) hl hL hA
end Go.Proofs.YthahdombnmkokaaDoor.Given
