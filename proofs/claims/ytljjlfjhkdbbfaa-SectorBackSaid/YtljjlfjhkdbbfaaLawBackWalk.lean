/- The walk of morainelaw04.SectorBack: by hand, over the contracts of its callees and the plain laws. -/
import Derived.Test.YtljjlfjhkdbbfaaPureSectorCodes
namespace Go.Proofs.Ytljjlfjhkdbbfaa.Back
open Go.RowKit Go.Proofs.YtljjlfjhkdbbfaaW.PrintWords Go.Proofs.YtljjlfjhkdbbfaaW.PrintLast Go.Proofs.YtljjlfjhkdbbfaaW.PrintMore Go.Proofs.Ytljjlfjhkdbbfaa.Given Go.Proofs.Ytljjlfjhkdbbfaa.Base Go.Proofs.Ytljjlfjhkdbbfaa.Pure
set_option linter.unusedVariables false
set_option linter.unusedSimpArgs false

set_option maxHeartbeats 4000000 in
theorem back_neg (a0 a1 a2 : Int) (A : Option Addr) (c : Nat) (l : List Int) (w : World) (hr : Kd.C (Kd.int .u8) w A l.length l) (hc : l.length ≤ c) (he : Hid (sector_Encode.f a0 a1 a2 l = some ([], false)))
    (h : 56 < l.length ∨ a0 < 0 ∨ 4294967296 ≤ a0 ∨ a1 < 0 ∨ 65535 < a1 ∨ a2 < 0 ∨ 65535 < a2) :
    Calls Try.prog 7 #[.agg #[.int .i64 a0, .int .i64 a1, .int .i64 a2], .slice A l.length c] w fun e w' => e = .returned (.bool true) ∧ Below w.heap.size w w' := by
  have HC : Hid (Kd.C (Kd.int .u8) w A l.length l) := hr
  have HM : Hid (l.length ≤ c) := hc
  clear hr hc
  have h' : (56 < l.length) ∨ (¬ 56 < l.length ∧ a0 < 0) ∨ (¬ 56 < l.length ∧ ¬ a0 < 0 ∧ 4294967296 ≤ a0) ∨ (¬ 56 < l.length ∧ ¬ a0 < 0 ∧ ¬ 4294967296 ≤ a0 ∧ a1 < 0) ∨ (¬ 56 < l.length ∧ ¬ a0 < 0 ∧ ¬ 4294967296 ≤ a0 ∧ ¬ a1 < 0 ∧ 65535 < a1) ∨ (¬ 56 < l.length ∧ ¬ a0 < 0 ∧ ¬ 4294967296 ≤ a0 ∧ ¬ a1 < 0 ∧ ¬ 65535 < a1 ∧ a2 < 0) ∨ (¬ 56 < l.length ∧ ¬ a0 < 0 ∧ ¬ 4294967296 ≤ a0 ∧ ¬ a1 < 0 ∧ ¬ 65535 < a1 ∧ ¬ a2 < 0 ∧ 65535 < a2) := by omega
  clear h
  obtain ⟨m, hm⟩ : ∃ m, l.length = m := ⟨_, rfl⟩
  have HL : Hid (l.length = m) := hm
  rw [hm] at h'
  rw [hm]
  clear hm
  rcases h' with g0 | ⟨g0, g1⟩ | ⟨g0, g1, g2⟩ | ⟨g0, g1, g2, g3⟩ | ⟨g0, g1, g2, g3, g4⟩ | ⟨g0, g1, g2, g3, g4, g5⟩ | ⟨g0, g1, g2, g3, g4, g5, g6⟩
  all_goals (
    go_enter Try.func7, Try.ntmps7
    go_wp2_with (first | (go_at_call 8; refine (morainelaw04_alive.calls true _ rfl).mono ?_; rintro e w1 ⟨rfl, hB⟩; have HK : Hid (Keep w #[.int .i64 a0, .int .i64 a1, .int .i64 a2] 34 w1) := Keep.step ⟨blk_new _ _, (Below.refl _ _).alloc (Nat.le_refl _) _⟩ hB; have hz0 := Keep.c0 HK.out; have hz1 := Keep.c1 HK.out; have hz2 := Keep.c2 HK.out; clear hB) | (go_at_call 16; rw [← HL.out]; (with_reducible refine (sector_Encode.calls a0 a1 a2 A c l [] false _ ?s1 ?s2 he.out).mono ?_); (case s1 => exact Kd.C_below HC.out HK.out.2); (case s2 => exact HM.out); rintro e w2 ⟨v0, rfl, hR, hB⟩; obtain ⟨A0, c0, rfl⟩ := Kd.R_slice hR; have t_ : Hid (Keep w _ _ w2) := Keep.step HK.out hB; clear HK; have HK := t_; clear t_; have hz0 := Keep.c0 HK.out; have hz1 := Keep.c1 HK.out; have hz2 := Keep.c2 HK.out; clear hR hB; rw [HL.out]))
    go_ret
    exact ⟨rfl, HK.out.2⟩)

theorem same_at (k n n' : Nat) (A B : Option Addr) (c d : Nat) (x y : List Int) (w : World) (hx : x.length = n) (hy : y.length = n') (h1 : Kd.C (Kd.int .u8) w A n x) (c1 : n ≤ c) (h2 : Kd.C (Kd.int .u8) w B n' y) (c2 : n' ≤ d) (h : moraineref00_SameBytes.f k x y = some true) :
    Calls Try.prog 14 #[.slice A n c, .slice B n' d] w fun e w' => e = .returned (.bool true) ∧ Drawn0 w w' := by
  subst hx; subst hy
  exact moraineref00_SameBytes.calls k _ _ x _ _ y true w h1 c1 h2 c2 h
attribute [local go_sem high] PSectorCodes.eqA34
set_option maxHeartbeats 4000000 in
theorem back_pos (a0 a1 a2 : Int) (A : Option Addr) (c : Nat) (l : List Int) (w : World) (hr : Kd.C (Kd.int .u8) w A l.length l) (hc : l.length ≤ c) (h56 : l.length ≤ 56) (E P : List Int) (he : Hid (sector_Encode.f a0 a1 a2 l = some (E, true))) (hd : Hid (PSectorCodes.sector_Decode.f E = some (a0, a1, a2, P, true)))
    (hE : Hid (E.length = 64)) (hP : Hid (P.length = 56)) (hs : Hid (moraineref00_SameBytes.f 100 (P.take l.length) l = some true)) (hz : Hid (∀ i, l.length ≤ i → i < 56 → P.getD i 0 = 0)) :
    Calls Try.prog 7 #[.agg #[.int .i64 a0, .int .i64 a1, .int .i64 a2], .slice A l.length c] w fun e w' => e = .returned (.bool true) ∧ Below w.heap.size w w' := by
  have hu := Try.underlying34
  have HC : Hid (Kd.C (Kd.int .u8) w A l.length l) := hr
  have HM : Hid (l.length ≤ c) := hc
  clear hr hc
  obtain ⟨m, hm⟩ : ∃ m, l.length = m := ⟨_, rfl⟩
  have HL : Hid (l.length = m) := hm
  rw [hm] at h56
  rw [hm]
  clear hm
  go_enter Try.func7, Try.ntmps7
  go_wp2_with (first | (go_at_call 8; refine (morainelaw04_alive.calls true _ rfl).mono ?_; rintro e w1 ⟨rfl, hB⟩; have HK : Hid (Keep w #[.int .i64 a0, .int .i64 a1, .int .i64 a2] 34 w1) := Keep.step ⟨blk_new _ _, (Below.refl _ _).alloc (Nat.le_refl _) _⟩ hB; have hz0 := Keep.c0 HK.out; have hz1 := Keep.c1 HK.out; have hz2 := Keep.c2 HK.out; clear hB) | (go_at_call 16; rw [← HL.out]; (with_reducible refine (sector_Encode.calls a0 a1 a2 A c l E true _ ?s1 ?s2 he.out).mono ?_); (case s1 => exact Kd.C_below HC.out HK.out.2); (case s2 => exact HM.out); rintro e w2 ⟨v0, rfl, hR, hB⟩; obtain ⟨A0, c0, rfl⟩ := Kd.R_slice hR; have KE : Hid (RU w2 _ _ _) := hR; have t_ : Hid (Keep w _ _ w2) := Keep.step HK.out hB; clear HK; have HK := t_; clear t_; have hz0 := Keep.c0 HK.out; have hz1 := Keep.c1 HK.out; have hz2 := Keep.c2 HK.out; clear hR hB; rw [HL.out, hE.out]) | (go_at_call 19; rw [← hE.out]; (with_reducible refine (PSectorCodes.sector_Decode.calls A0 c0 E a0 a1 a2 P true _ ?s1 ?s2 hd.out).mono ?_); (case s1 => exact RU.C KE.out); (case s2 => exact (C_of_R KE.out).2.1); rintro e w3 ⟨v0, rfl, hR, hB⟩; obtain ⟨A3, c3, rfl⟩ := Kd.R_slice hR; have KP : Hid (RU w3 _ _ _) := hR; have t_ : Hid (Keep w _ _ w3) := Keep.step HK.out hB; clear HK; have HK := t_; clear t_; have hz0 := Keep.c0 HK.out; have hz1 := Keep.c1 HK.out; have hz2 := Keep.c2 HK.out; clear hR hB; have hy0 := Keep.c0 (Keep.alloc HK.out (.cells #[.int .i64 a0, .int .i64 a1, .int .i64 a2] 34)); have hy1 := Keep.c1 (Keep.alloc HK.out (.cells #[.int .i64 a0, .int .i64 a1, .int .i64 a2] 34)); have hy2 := Keep.c2 (Keep.alloc HK.out (.cells #[.int .i64 a0, .int .i64 a1, .int .i64 a2] 34)); obtain ⟨i0, hi0, _, hsz0, _⟩ := info_parts infoU8e; obtain ⟨hcut, hA, hC⟩ := print_take_of (P := Try.prog) (Value.int .u8) 0 26 5 .i64 Try.underlying26 hi0 hsz0 A3 c3 P (m : Int) (by omega) (by rw [hP.out]; omega) (C_of_R KP.out).2.1; have ht : (P.take ((m : Int)).toNat).length = m := (by rw [Int.toNat_natCast, List.length_take, hP.out]; omega); rw [hP.out, ht] at hcut; have HT : Hid (Kd.C (Kd.int .u8) w3 A3 m (P.take m)) := (by have t_ := Kd.C_of_reads (h1 := fun _ => rfl) (hA _ (Kd.reads_of_C (RU.C KP.out))); rw [ht] at t_; exact t_); have HTc : Hid (m ≤ c3) := (by have t_ := hC; rw [ht] at t_; exact t_); clear hA hC ht hi0 hsz0; rw [hE.out, hP.out]) | (go_at_call 14; (with_reducible refine (same_at 100 m m A3 A c3 c (P.take m) l _ ?s1 HL.out ?s2 HTc.out ?s3 ?s4 ?s5).mono ?_); (case s1 => rw [List.length_take, hP.out]; omega); (case s2 => exact Kd.C_below HT.out ((Below.refl _ _).alloc (Nat.le_refl _) _)); (case s3 => rw [← HL.out]; exact Kd.C_below HC.out (Keep.alloc HK.out _).2); (case s4 => rw [← HL.out]; exact HM.out); (case s5 => rw [← HL.out]; exact hs.out); rintro e w5 ⟨rfl, nd, rfl⟩; have HP5 : Hid (Kd.C (Kd.int .u8) (World.drewN (w3.alloc (.cells #[.int .i64 a0, .int .i64 a1, .int .i64 a2] 34)) nd) A3 P.length P) := Kd.C_drewN (Kd.C_below (RU.C KP.out) ((Below.refl _ _).alloc (Nat.le_refl _) _)) nd; have HB5 : Hid (Below w.heap.size w (World.drewN (w3.alloc (.cells #[.int .i64 a0, .int .i64 a1, .int .i64 a2] 34)) nd)) := pw_below_drewN (Keep.alloc HK.out _).2 nd; generalize World.drewN (w3.alloc (.cells #[.int .i64 a0, .int .i64 a1, .int .i64 a2] 34)) nd = W5 at HP5 HB5 ⊢))
  obtain ⟨ad, ead, hcl⟩ := (Kd.reads_of_C (d := (0 : Int)) HP5.out).2.2 (by rw [hP.out]; decide)
  subst ead
  have HCL : Hid (∀ j, j < 56 → W5.cell? (ad.add j) = some (.int .u8 (P.getD j 0))) := fun j hj => hcl j (by rw [hP.out]; exact hj)
  clear hcl hy0 hy1 hy2 hz0 hz1 hz2 hcut HT HTc KP KE HK
  go_loopg [10] 56 (fun g s10 wr => W5 = wr ∧ ∃ i : Nat, m ≤ i ∧ i ≤ 56 ∧ 56 - i ≤ g ∧ s10 = .int .i64 i)
  case atStart => exact ⟨rfl, m, Nat.le_refl _, h56, by omega, rfl⟩
  case round =>
    obtain ⟨rfl, i, hi0, hi1, hg, rfl⟩ := hrel
    by_cases hlt : i < 56
    · have hck : W5.cell? (ad.add i) = some (.int .u8 0) := (HCL.out i hlt).trans (by rw [hz.out i (by rw [HL.out]; exact hi0) hlt])
      go_wp2
      go_roundg (56 - (i + 1))
      case measure => omega
      case rel => exact ⟨rfl, i + 1, by omega, by omega, Nat.le_refl _, by go_num⟩
    · go_wp2
      go_ret
      exact ⟨rfl, HB5.out⟩
end Go.Proofs.Ytljjlfjhkdbbfaa.Back

namespace Go.Proofs.Ytljjlfjhkdbbfaa.Pure
open Go.RowKit Go.Proofs.YtljjlfjhkdbbfaaW.PrintWords Go.Proofs.YtljjlfjhkdbbfaaW.PrintLast Go.Proofs.YtljjlfjhkdbbfaaW.PrintMore Go.Proofs.Ytljjlfjhkdbbfaa.Given Go.Proofs.Ytljjlfjhkdbbfaa.Base
theorem sub_app (X Y R : List Int) (a b : Nat) (ha : X.length = a) (hb : Y.length = b) : sub (X ++ Y ++ R) (a : Int) (b : Int) = Y := by
  unfold sub
  rw [show ((a : Int) + (b : Int)).toNat = a + b by omega, Int.toNat_natCast, List.take_append_of_le_length (by rw [List.length_append]; omega), List.take_of_length_le (by rw [List.length_append]; omega), ← ha, List.drop_left]
theorem encB_dec {a0 a1 a2 : Int} {l : List Int} (h : okEnc a0 a1 a2 l) : decV (encB a0 a1 a2 l) = (a0, a1, a2, padL l 56, true) := by
  obtain ⟨hl, h0, h1, h2⟩ := h
  have l0 : (putAt a0 4 4).length = 4 := putAt_length _ _ _
  have l1 : (putAt a1 2 2).length = 2 := putAt_length _ _ _
  have l2 : (putAt a2 2 2).length = 2 := putAt_length _ _ _
  have e0 : sub (encB a0 a1 a2 l) 0 4 = putAt a0 4 4 := by
    have := sub_app [] (putAt a0 4 4) (putAt a1 2 2 ++ putAt a2 2 2 ++ padL l 56) 0 4 rfl l0
    simpa [encB, List.append_assoc] using this
  have e1 : sub (encB a0 a1 a2 l) 4 2 = putAt a1 2 2 := by
    have := sub_app (putAt a0 4 4) (putAt a1 2 2) (putAt a2 2 2 ++ padL l 56) 4 2 l0 l1
    simpa [encB, List.append_assoc] using this
  have e2 : sub (encB a0 a1 a2 l) 6 2 = putAt a2 2 2 := by
    have := sub_app (putAt a0 4 4 ++ putAt a1 2 2) (putAt a2 2 2) (padL l 56) 6 2 (by rw [List.length_append, l0, l1]) l2
    simpa [encB, List.append_assoc] using this
  have e3 : (encB a0 a1 a2 l).drop 8 = padL l 56 := by
    have hx : (putAt a0 4 4 ++ putAt a1 2 2 ++ putAt a2 2 2).length = 8 := by rw [List.length_append, List.length_append, l0, l1, l2]
    unfold encB
    rw [← hx, List.drop_left]
  unfold decV
  rw [if_pos (encB_len hl), e0, e1, e2, e3]
  have p0 := put_get h0
  have p1 := put_get h1
  have p2 := put_get h2
  rw [show (4 : Int).toNat = 4 from rfl] at p0
  rw [show (2 : Int).toNat = 2 from rfl] at p1 p2
  rw [p0, p1, p2]
def BackArgs (a0 a1 a2 : Int) (l : List Int) : Prop := a0 ≤ 9223372036854775807 ∧ a1 ≤ 9223372036854775807 ∧ a2 ≤ 9223372036854775807 ∧ Byt l
theorem SectorBack (a0 a1 a2 : Int) (l : List Int) (w0 : (Lit.int .i64 a0).wf = true) (w1 : (Lit.int .i64 a1).wf = true) (w2 : (Lit.int .i64 a2).wf = true) (hb : Byt l) : BackArgs a0 a1 a2 l := ⟨(i64_bd w0).2, (i64_bd w1).2, (i64_bd w2).2, hb⟩
end Go.Proofs.Ytljjlfjhkdbbfaa.Pure
namespace Go.Proofs.Ytljjlfjhkdbbfaa.PSectorBack
open Go.RowKit Go.Proofs.YtljjlfjhkdbbfaaW.PrintWords Go.Proofs.YtljjlfjhkdbbfaaW.PrintLast Go.Proofs.YtljjlfjhkdbbfaaW.PrintMore Go.Proofs.Ytljjlfjhkdbbfaa.Given Go.Proofs.Ytljjlfjhkdbbfaa.Base Go.Proofs.Ytljjlfjhkdbbfaa.Pure
theorem morainelaw04_SectorBack.calls (a0 a1 a2 : Int) (A : Option Addr) (c : Nat) (l : List Int) (r : Bool) (w : World) (hr : Kd.C (Kd.int .u8) w A l.length l) (hc : l.length ≤ c) (h : BackArgs a0 a1 a2 l) :
    Calls Try.prog 7 #[.agg #[.int .i64 a0, .int .i64 a1, .int .i64 a2], .slice A l.length c] w fun e w' => e = .returned (.bool true) ∧ Below w.heap.size w w' := by
  obtain ⟨b0, b1, b2, hb⟩ := h
  by_cases hk : okEnc a0 a1 a2 l
  · have hl := hk.1
    have hp : (padL l 56).take l.length = l := by unfold padL; rw [List.take_left]
    refine Back.back_pos a0 a1 a2 A c l w hr hc hl (encB a0 a1 a2 l) (padL l 56) (enc_pos hk) ?_ (encB_len hl) (padL_length l 56 hl) ?_ ?_
    · show PSectorCodes.sector_Decode.f _ = _
      rw [dec_eq (encB_byt hb), encB_dec hk]
    · show moraineref00_SameBytes.f 100 _ l = some true
      rw [hp, same_eq l l (by omega) 100 (by omega)]
      simp
    · intro i h0 h1
      unfold padL
      rw [List.getD_eq_getElem?_getD, List.getElem?_append_right h0, List.getElem?_replicate]
      split <;> rfl
  · refine Back.back_neg a0 a1 a2 A c l w hr hc (enc_neg b0 b1 b2 hk) ?_
    unfold okEnc okPut at hk
    omega
end Go.Proofs.Ytljjlfjhkdbbfaa.PSectorBack
