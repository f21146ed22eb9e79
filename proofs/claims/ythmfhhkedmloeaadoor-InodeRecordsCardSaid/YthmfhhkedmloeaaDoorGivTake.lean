/- The contracts of (*inode.taker).take and inode.GetPointers: by hand. -/
import Derived.Test.YthmfhhkedmloeaaDoorGivGet
import Derived.Test.YthmfhhkedmloeaaDoorGivCommon
import Derived.Deep.QuietTactic
import Derived.BigQuiet
import Derived.Lib.Hide
namespace Go.Proofs.YthmfhhkedmloeaaDoor.Given
open Go.RowKit Go.Proofs.YthmfhhkedmloeaaDoorW.PrintWords Go.Proofs.YthmfhhkedmloeaaDoorW.PrintLast Go.Proofs.YthmfhhkedmloeaaDoorW.PrintMore
set_option linter.unusedVariables false
set_option linter.unusedSimpArgs false

/-- The number that a taker takes. -/
def tv (l : List Int) (at_ w : Int) : Int := if okGet l at_ w then getV (sub l at_ w) w.toNat else 0
theorem tv_f (l : List Int) (at_ w : Int) (h : l.length ≤ 140737488355328) : ∃ b, bits_Get.f l at_ w = some (tv l at_ w, b) := by
  unfold bits_Get.f tv
  rw [if_neg (by omega)]
  by_cases hk : okGet l at_ w
  · rw [if_pos hk, if_pos hk]; exact ⟨_, rfl⟩
  · rw [if_neg hk, if_neg hk]; exact ⟨_, rfl⟩
theorem get_quiet (A0 : Option Addr) (c0 : Nat) (l0 : List Int) (a1 a2 r1 : Int) (r2 : Bool) (w : World) (hr0 : Kd.C (Kd.int .u8) w A0 l0.length l0) (hc0 : l0.length ≤ c0) (h : bits_Get.f l0 a1 a2 = some (r1, r2)) (q : Nat) :
    Calls Tryd.prog 31 #[.slice A0 l0.length c0, .int .i64 a1, .int .i64 a2] (w.drewN q) fun e w' => e = .returned (.tuple #[.int .i64 r1, .bool r2]) ∧ ∃ m, w' = w.drewN m := by
  refine Calls.quiet_of ?_
  refine (bits_Get.calls0 A0 c0 l0 a1 a2 r1 r2 (w.drewN q) (Kd.C_drewN hr0 q) hc0 h).mono ?_
  rintro e w' ⟨rfl, ⟨m, rfl⟩⟩
  exact ⟨rfl, m, rfl⟩
def takeBox (A : Option Addr) (n c : Nat) (at_ : Int) : Obj := .cells #[.slice A n c, .int .i64 at_] 51 (0, 0)
set_option maxHeartbeats 1000000 in
theorem take_calls (g : Nat) (A : Option Addr) (c : Nat) (l : List Int) (at_ wd : Int) (W : World) (hb : W.heap[g]? = some (takeBox A l.length c at_)) (hC : Kd.C (Kd.int .u8) W A l.length l) (hc : l.length ≤ c) (hl : l.length ≤ 140737488355328)
    (ha0 : 0 ≤ at_) (ha1 : at_ ≤ 140737488355328) (hw0 : 0 ≤ wd) (hw1 : wd ≤ 4) :
    Calls Tryd.prog 24 #[.pointer (some ⟨g, 0, none⟩), .int .i64 wd] W fun e w' => e = .returned (.int .i64 (tv l at_ wd)) ∧ w'.heap[g]? = some (takeBox A l.length c (at_ + wd)) ∧ W.grownBy w' (some g) := by
  obtain ⟨b, hf⟩ := tv_f l at_ wd hl
  have HF := Lib.hid hf
  have HC := Lib.hid hC
  have HB := Lib.hid hb
  obtain ⟨n, hn⟩ : ∃ n, l.length = n := ⟨_, rfl⟩
  have HN := Lib.hid hn
  obtain ⟨v, hv⟩ : ∃ v, tv l at_ wd = v := ⟨_, rfl⟩
  rw [hn] at hb hc
  rw [hv] at HF ⊢
  rw [hn]
  have c0 : W.cell? ⟨g, 0, none⟩ = some (.slice A n c) := (blk_cell hb 0).trans rfl
  have c1 : W.cell? ⟨g, 1, none⟩ = some (.int .i64 at_) := (blk_cell hb 1).trans rfl
  have f1 : W.frozen? ⟨g, 1, none⟩ = false := blk_frozen hb 1
  clear hf hC hn hv hb hl
  go_enter Tryd.func24, Tryd.ntmps24
  go_wp2
  go_quiet ((go_at_call 31; rw [← HN.out]; exact get_quiet _ _ l _ _ v b W HC.out (by rw [HN.out]; exact hc) HF.out _))
  go_wp2
  go_ret
  refine ⟨rfl, ?_, ?_⟩
  · have hbn : W.heap[g]? = some (.cells #[.slice A n c, .int .i64 at_] 51 (0, 0)) := by rw [← HN.out]; exact HB.out
    exact heap_setCell_same (W.drewN nq) g 1 #[.slice A n c, .int .i64 at_] 51 (.int .i64 (at_ + wd)) hbn
  · exact ⟨rfl, rfl, rfl, by simp [World.setCell], fun j hj hne => by rw [heap_setCell_other _ _ _ _ (fun e => hne (by rw [e]))]; rfl⟩

def ptrs (l : List Int) (k : Nat) : List Int := (List.range k).map fun i => tv l ((2 * i : Nat) : Int) 2
theorem ptrs_succ (l : List Int) (k : Nat) : ptrs l (k + 1) = ptrs l k ++ [tv l ((2 * k : Nat) : Int) 2] := by simp [ptrs, List.range_succ]
theorem ptrs_length (l : List Int) (k : Nat) : (ptrs l k).length = k := by simp [ptrs]
theorem infoI64 : (Tryd.prog.info? 3).map (fun i => (i.zero, i.size, i.bytes)) = some (some (.int .i64 0), 1, 8) := by kernel_rfl
/-- What GetPointers keeps of the world. -/
structure GP (wd : World) (A : Option Addr) (c : Nat) (l : List Int) (k : Nat) (v : Value) (w : World) : Prop where
  box : w.heap[wd.heap.size]? = some (takeBox A l.length c ((2 * k : Nat) : Int))
  below : Below wd.heap.size wd w
  row : w.ownsRow (wd.heap.size + 1) 3 1 v (encs (Value.int .i64) (ptrs l k)).length (encs (Value.int .i64) (ptrs l k))
theorem gpNo (A : Option Addr) (n c : Nat) (w : World) (h : n ≠ 56) : Calls Tryd.prog 14 #[.slice A n c] w fun e w' => e = .returned (.tuple #[.slice none 0 0, .bool false]) ∧ w = w' := by
  have hb : ((n : Int) != 56) = true := by rw [bne_iff_ne]; omega
  go_enter Tryd.func14, Tryd.ntmps14
  go_wp2
  go_ret2
  exact ⟨rfl, rfl⟩
set_option maxHeartbeats 1000000 in
theorem gpYes (A : Option Addr) (c : Nat) (l : List Int) (wd : World) (hC : Kd.C (Kd.int .u8) wd A l.length l) (hc : l.length ≤ c) (hl : l.length = 56) :
    Calls Tryd.prog 14 #[.slice A l.length c] wd fun e w' => ∃ v0 : Value, e = .returned (.tuple #[v0, .bool true]) ∧ Kd.R (Kd.int .i64) 3 w' wd.heap.size (fun _ => True) v0 (ptrs l 28) ∧ Below wd.heap.size wd w' := by
  have HC := Lib.hid hC
  have HL := Lib.hid hl
  have HCC := Lib.hid hc
  rw [hl]
  clear hC hl hc
  go_enter Tryd.func14, Tryd.ntmps14
  go_wp2_with ((with_reducible refine gate_dst (N := 11) rfl ?_); refine box_event ?hg (N := 11) ?hd (cs := #[.slice A 56 c, .int .i64 0]) (t := 51) ?hr ?_; (case hd => rfl); (case hg => rfl); (case hr => first | (go_simp; done) | (go_simp; rfl)); intro gb hgb w0 hbox hb; subst hgb; have HG : Hid (GP wd A c l 0 (.slice none 0 0) w0) := ⟨by rw [HL.out]; exact hbox, hb, own_nil _ _ _ _⟩; clear hbox hb)
  go_loopw [5, 12] (fun v i wr => ∃ k : Nat, k ≤ 28 ∧ i = .int .i64 k ∧ Hid (GP wd A c l k v wr)) (fun _ i _ => 28 - (intOf i).toNat)
  case atStart => exact ⟨0, Nat.zero_le _, rfl, HG⟩
  case round =>
    clear HG
    obtain ⟨k, hk, rfl, HG⟩ := hrel
    by_cases hlt : k < 28
    · go_wp2_with fail
      have hlt2 : wd.heap.size < wr.heap.size := (Array.getElem?_eq_some_iff.1 HG.out.box).1
      refine (take_calls wd.heap.size A c l ((2 * k : Nat) : Int) 2 wr HG.out.box (Kd.C_below HC.out HG.out.below) HCC.out (by rw [HL.out]; decide) (by omega) (by omega) (by decide) (by decide)).mono ?_
      rintro e w5 ⟨rfl, hbox, hg⟩
      have HG5 : Hid (w5.heap[wd.heap.size]? = some (takeBox A l.length c ((2 * (k + 1) : Nat) : Int)) ∧ Below wd.heap.size wd w5 ∧ w5.ownsRow (wd.heap.size + 1) 3 1 _ (encs (Value.int .i64) (ptrs l k)).length (encs (Value.int .i64) (ptrs l k))) :=
        ⟨by rw [hbox]; rfl, HG.out.below.trans ((Below.refl wd.heap.size wr).grown hg (by omega) (fun j hj => by cases hj; exact Nat.le_refl _)), own_other HG.out.row hg (by
          rcases h : (_ : Value).ownBlock with _ | b
          · exact .inl rfl
          · refine .inr (fun e => ?_)
            have := own_base HG.out.row b h
            cases e
            omega)⟩
      obtain ⟨y, hy⟩ : ∃ y, tv l ((2 * k : Nat) : Int) 2 = y := ⟨_, rfl⟩
      have HY : Hid (encs (Value.int .i64) (ptrs l (k + 1)) = encs (Value.int .i64) (ptrs l k) ++ [.int .i64 y]) := by
        show encs (Value.int .i64) (ptrs l (k + 1)) = _
        rw [ptrs_succ, hy]; simp [encs]
      have HLE : Hid ((encs (Value.int .i64) (ptrs l k)).length = k) := by show _ = _; rw [encs_length, ptrs_length]
      rw [hy]
      clear hbox hg hy
      obtain ⟨xs, hxs⟩ : ∃ xs, encs (Value.int .i64) (ptrs l k) = xs := ⟨_, rfl⟩
      rw [hxs] at HG5 HY HLE
      clear hxs
      go_wp2_with (at_builtin; go_must (refine print_append (w0 := w5) (wd.heap.size + 1) rfl (.tmp 14) (.tmp 17) 35 3 (.int .i64 0) 8 rfl Tryd.underlying35 infoI64 rfl (by decide) _ xs (.int .i64 y) rfl rfl rfl HG5.out.2.2 (Below.refl _ _) (Array.getElem?_eq_some_iff.1 HG5.out.1).1 (by rw [HLE.out]; omega) ?_); intro v6 w6 hown hB6 hg hat; have HG6 : Hid (GP wd A c l (k + 1) v6 w6) := ⟨by rw [hB6.block _ (by omega)]; exact HG5.out.1, HG5.out.2.1.trans (hB6.mono (by omega)), by rw [HY.out]; exact hown⟩; clear hown hB6 hg hat)
      go_roundw
      case rel => exact ⟨k + 1, by omega, by go_num, HG6⟩
      case measure => simp [intOf]; omega
    · have hk28 : k = 28 := by omega
      subst hk28
      go_wp2
      go_ret2
      exact ⟨_, rfl, Kd.R_of_own (by rw [ptrs_length]; have h := HG.out.row; rw [encs_length, ptrs_length] at h; exact own_lower h (by omega)) (fun _ _ => trivial), HG.out.below⟩
def inode_GetPointers.f (l : List Int) : Option (List Int × Bool) := some (if l.length = 56 then (ptrs l 28, true) else ([], false))
theorem inode_GetPointers.calls (A0 : Option Addr) (c0 : Nat) (l0 : List Int) (r1 : List Int) (r2 : Bool) (w : World) (hr0 : Kd.C (Kd.int .u8) w A0 l0.length l0) (hc0 : l0.length ≤ c0) (h : inode_GetPointers.f l0 = some (r1, r2)) :
    Calls Tryd.prog 14 #[.slice A0 l0.length c0] w fun e w' => ∃ v0_ : Value, e = .returned (.tuple #[v0_, .bool r2]) ∧ Kd.R (Kd.int .i64) 3 w' w.heap.size (fun _ => True) v0_ r1 ∧ Below w.heap.size w w' := by
  have h := Option.some.inj h
  by_cases hl : l0.length = 56
  · rw [if_pos hl] at h
    cases h
    exact gpYes A0 c0 l0 w hr0 hc0 hl
  · rw [if_neg hl] at h
    cases h
    refine (gpNo A0 _ c0 w hl).mono ?_
    rintro e w' ⟨rfl, rfl⟩
    exact ⟨_, rfl, Kd.R_nil _ _ _ _ _, Below.refl _ _⟩
end Go.Proofs.YthmfhhkedmloeaaDoor.Given
