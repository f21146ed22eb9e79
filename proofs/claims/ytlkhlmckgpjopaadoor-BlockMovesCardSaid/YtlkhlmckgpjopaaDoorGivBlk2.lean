/- block.Map: Bytes, Place; slices.Clone of bytes: by hand. -/
import Derived.Test.YtlkhlmckgpjopaaDoorGivBlk
import Derived.Lib.SliceRun
namespace Go.Proofs.YtlkhlmckgpjopaaDoor.Given
open Go.RowKit Go.Maps Go.Proofs.YtlkhlmckgpjopaaDoorW.PrintWords Go.Proofs.YtlkhlmckgpjopaaDoorW.PrintLast Go.Proofs.YtlkhlmckgpjopaaDoorW.PrintMore Go.Proofs.YtlkhlmckgpjopaaDoor.Base
set_option linter.unusedVariables false
set_option linter.unusedSimpArgs false
theorem infoB : (Tryd.prog.info? 5).map (fun i => (i.zero, i.size, i.bytes)) = some (some (.int .u8 0), 1, 1) := by kernel_rfl
set_option maxRecDepth 100000 in
set_option maxHeartbeats 1000000 in
theorem clone_none (c : Nat) (w : World) : Calls Tryd.prog 28 #[.slice none 0 c] w fun e w' => e = .returned (.slice none 0 0) ∧ w = w' := by
  have q30 : ∀ (w : World) (a : Option Addr) (n c n' c' : Nat), (binOp .eql 30 (.slice a n c) (.slice none n' c')).run Tryd.prog w = .ok (.bool a.isNone) w := fun w a n c n' c' => Lib.run_eql_slice_nil w _ _ a n c n' c' Tryd.underlying30
  go_enter Tryd.func28, Tryd.ntmps28
  go_wp2
  go_ret
  exact ⟨rfl, rfl⟩
set_option maxRecDepth 100000 in
set_option maxHeartbeats 1000000 in
theorem clone_some (ad : Addr) (c : Nat) (l : List Int) (w : World) (hC : Kd.C (Kd.int .u8) w (some ad) l.length l) (hl : l.length ≤ 1000000) :
    Calls Tryd.prog 28 #[.slice (some ad) l.length c] w fun e w' => ∃ v0 : Value, e = .returned v0 ∧ Kd.R (Kd.int .u8) 5 w' w.heap.size (fun _ => True) v0 l ∧ Below w.heap.size w w' := by
  have HR0 := Lib.hid hC
  have HB := Lib.hid (Below.refl w.heap.size w)
  clear hC
  have q30 : ∀ (w : World) (a : Option Addr) (n c n' c' : Nat), (binOp .eql 30 (.slice a n c) (.slice none n' c')).run Tryd.prog w = .ok (.bool a.isNone) w := fun w a n c n' c' => Lib.run_eql_slice_nil w _ _ a n c n' c' Tryd.underlying30
  go_enter Tryd.func28, Tryd.ntmps28
  go_wp2_with (first | ((with_reducible refine gate_dst (N := 5) rfl ?_); refine Kd.R_lit (Kd.int .u8) _ 5 ?hg (N := 5) ?hd (xs := ([] : List Int)) (inner := []) (ok := fun _ => True) (okp := fun _ => True) ?hr ?hp (fun _ hk => hk) trivial (Below.refl _ _) (Nat.le_refl _) (by simp) ?_; (case hd => rfl); (case hg => rfl); (case hr => first | (go_simp; done) | (go_simp; rfl)); (case hp => exact (Reps.none _ _)); intro v3 w3 ho hb hg_ hnew_; have HB3 := Lib.hid hb; have HO3 := Lib.hid ho; clear ho hb hg_ hnew_) | ((with_reducible refine gate_builtin (b := .append) (xs := #[.tmp 5, .tmp 6]) rfl ?_); at_builtin; refine Kd.R_append_rows (Kd.int .u8) (w0 := w) w.heap.size rfl (.tmp 5) (.tmp 6) 30 5 (.int .u8 0) 1 rfl Tryd.underlying30 infoB rfl (by decide) (by omega) v3 [] l _ _ _ (fun _ => True) (fun _ => False) rfl rfl ?aO ?aR (fun _ _ h => h) (fun _ h => h.elim) ?aF ?aB ?aS ?aL ?_; (case aR => exact Kd.C_below HR0.out HB3.out); (case aB => exact HB3.out); (case aF => exact (fun _ _ => trivial)); (case aO => exact HO3.out); (case aS => exact HB3.out.size); (case aL => simp only [List.length_nil]; omega); intro v5 w5 ho hb hg hat; have HB5 := Lib.hid hb; have HO5 := Lib.hid ho; clear ho hb hg hat))
  go_ret
  exact ⟨_, rfl, HO5.out, HB5.out⟩
/-- A slice that was made is a block's bytes. -/
theorem byt_of_R {w : World} {base : Nat} {ok : Nat → Prop} {v : Value} {r : List Int} (h : Kd.R (Kd.int .u8) 5 w base ok v r) (hr : r.length = 56) : Byt56 w v r := by
  obtain ⟨A, c, rfl⟩ := Kd.R_slice h
  exact ⟨A, c, rfl, (Kd.R_reads' h).2.1, hr, (Kd.R_reads' h).2.2⟩
set_option maxHeartbeats 1000000 in
/-- Bytes: a new block's bytes. -/
theorem bytes_some {w : World} {base p N : Nat} {a : Int → Option Int} {f : Int → Option (List Int)} (h : BM w base p N a f) (k : Int) (hk : (Lit.int .i64 k).wf = true) (r : List Int) (hr : f k = some r) :
    Calls Tryd.prog 17 #[.pointer (some ⟨p, 0, none⟩), .int .i64 k] w fun e w' => ∃ v0 : Value, e = .returned (.tuple #[v0, .bool true]) ∧ Kd.R (Kd.int .u8) 5 w' w.heap.size (fun _ => True) v0 r ∧ Below w.heap.size w w' := by
  obtain ⟨bA, bF, DA, DF, mF, hB⟩ := h
  have c0 : w.cell? ⟨p, 1, none⟩ = some (.map (some bF)) := (blk_cell hB.hp 1).trans rfl
  have hu := Tryd.underlying61
  obtain ⟨u, hu1, A, c, rfl, hc, h56, hC⟩ := (hB.el k).2 r hr
  obtain ⟨ad, rfl, _⟩ := hC.2.2 (by omega)
  have HB := Lib.hid hB
  have HK := Lib.hid hk
  have HC := Lib.hid hC
  have HV : Hid ((mF k).getD (.slice none 0 0) = .slice (some ad) r.length c ∧ (mF k).isSome = true) := by show _ ∧ _; rw [hu1]; exact ⟨rfl, rfl⟩
  have H56 := Lib.hid h56
  clear hB hk hC hu1 hr h56
  go_enter Tryd.func17, Tryd.ntmps17
  go_wp2_with (at_lookup; refine wp_look_ok _ rfl _ _ 59 rfl 3 30 law3 Tryd.underlying59 (zeroS _) bF N DF _ rfl HB.out.oF HB.out.hF k rfl (keyOf_int_mk Tryd.underlying3 HK.out) ?_; rw [HV.out.1, HV.out.2])
  refine (clone_some ad c r _ HC.out (by rw [H56.out]; decide)).mono ?_
  rintro e w1 ⟨v0, rfl, hR, hb⟩
  have HR := Lib.hid hR
  have HBe := Lib.hid hb
  clear hR hb
  go_wp2
  go_ret2
  exact ⟨v0, rfl, HR.out, HBe.out⟩
set_option maxHeartbeats 1000000 in
theorem bytes_none {w : World} {base p N : Nat} {a : Int → Option Int} {f : Int → Option (List Int)} (h : BM w base p N a f) (k : Int) (hk : (Lit.int .i64 k).wf = true) (hr : f k = none) :
    Calls Tryd.prog 17 #[.pointer (some ⟨p, 0, none⟩), .int .i64 k] w fun e w' => e = .returned (.tuple #[.slice none 0 0, .bool false]) ∧ w = w' := by
  obtain ⟨bA, bF, DA, DF, mF, hB⟩ := h
  have c0 : w.cell? ⟨p, 1, none⟩ = some (.map (some bF)) := (blk_cell hB.hp 1).trans rfl
  have hu := Tryd.underlying61
  have hu1 := (hB.el k).1 hr
  have HB := Lib.hid hB
  have HK := Lib.hid hk
  have HV : Hid ((mF k).getD (.slice none 0 0) = .slice none 0 0 ∧ (mF k).isSome = false) := by show _ ∧ _; rw [hu1]; exact ⟨rfl, rfl⟩
  clear hB hk hu1 hr
  go_enter Tryd.func17, Tryd.ntmps17
  go_wp2_with (at_lookup; refine wp_look_ok _ rfl _ _ 59 rfl 3 30 law3 Tryd.underlying59 (zeroS _) bF N DF _ rfl HB.out.oF HB.out.hF k rfl (keyOf_int_mk Tryd.underlying3 HK.out) ?_; rw [HV.out.1, HV.out.2])
  refine (clone_none 0 _).mono ?_
  rintro e w1 ⟨rfl, rfl⟩
  go_wp2
  go_ret2
  exact ⟨rfl, rfl⟩
end Go.Proofs.YtlkhlmckgpjopaaDoor.Given
