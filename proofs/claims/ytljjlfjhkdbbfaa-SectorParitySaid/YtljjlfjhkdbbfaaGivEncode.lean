/- The contract of sector.Encode, in the printed contracts' form: by hand. -/
import Derived.Test.YtljjlfjhkdbbfaaGivPut
import Derived.Test.YtljjlfjhkdbbfaaGivPad
import Derived.Test.YtljjlfjhkdbbfaaGivJoin
import Derived.Deep.RegionWith
import Derived.Deep.RegionHeld3
import Derived.ArgAppend
import Derived.Deep.DeepMust
import Derived.Deep.DeepCutAuto
namespace Go.Proofs.Ytljjlfjhkdbbfaa.Given
open Go.RowKit Go.Proofs.YtljjlfjhkdbbfaaW.PrintWords Go.Proofs.YtljjlfjhkdbbfaaW.PrintLast Go.Proofs.YtljjlfjhkdbbfaaW.PrintMore
set_option linter.unusedVariables false
set_option linter.unusedSimpArgs false

def pv (w n : Int) : List Int := if okPut w n then putAt n w.toNat w.toNat else []
theorem pv_some {w n : Int} (h : n ≤ 9223372036854775807) : bits_Put.f w n = some (pv w n) := by unfold bits_Put.f; rw [if_neg (by omega)]; rfl
theorem putAt_bd (n : Int) (w k : Nat) : ∀ x ∈ putAt n w k, 0 ≤ x ∧ x ≤ 255 := by
  intro x hx
  simp only [putAt, List.mem_map, List.mem_range] at hx
  obtain ⟨i, hi, rfl⟩ := hx
  split <;> omega
theorem pv_bd (w n : Int) : ∀ x ∈ pv w n, 0 ≤ x ∧ x ≤ 255 := by
  unfold pv; split
  · exact putAt_bd _ _ _
  · intro x hx; simp at hx
theorem pv_len (w n : Int) : (pv w n).length ≤ 4 := by
  unfold pv; split
  · rename_i h; rw [putAt_length]; unfold okPut at h; omega
  · simp
theorem u8_back {x : Int} (h : 0 ≤ x ∧ x ≤ 255) : ((UInt8.ofNat x.toNat).toNat : Int) = x := by
  have : (UInt8.ofNat x.toNat).toNat = x.toNat := by simp; omega
  rw [this]; omega
theorem bytesOf_get {xs : List Int} (hb : ∀ x ∈ xs, 0 ≤ x ∧ x ≤ 255) (i : Nat) (y : UInt8) (h : (Lib.bytesOf xs)[i]? = some y) : (y.toNat : Int) = xs.getD i 0 := by
  simp only [Lib.bytesOf, List.getElem?_map] at h
  obtain ⟨x, hx, rfl⟩ := Option.map_eq_some_iff.1 h
  rw [u8_back (hb x (List.mem_of_getElem? hx)), List.getD_eq_getElem?_getD, hx]; rfl
/-- A slice that is read, as the library tells it. -/
theorem holds_of_C {w : World} {A : Option Addr} {c : Nat} {xs : List Int} (h : Kd.C (Kd.int .u8) w A xs.length xs) (hb : ∀ x ∈ xs, 0 ≤ x ∧ x ≤ 255) : Lib.HoldsBytes w (.slice A xs.length c) (Lib.bytesOf xs) := by
  have hr := Kd.reads_of_C (d := (0 : Int)) h
  refine ⟨A, c, by rw [Lib.bytesOf_length], fun e => ?_, fun a e i y hy => ?_⟩
  · subst e
    rcases Nat.eq_zero_or_pos xs.length with h0 | h0
    · rw [List.eq_nil_of_length_eq_zero h0]; rfl
    · obtain ⟨ad, e, _⟩ := hr.2.2 h0; cases e
  · have hi : i < xs.length := by have := (List.getElem?_eq_some_iff.1 hy).1; rwa [Lib.bytesOf_length] at this
    obtain ⟨ad, e', hc⟩ := hr.2.2 (by omega)
    rw [e] at e'; cases e'
    rw [hc i hi, bytesOf_get hb i y hy]
theorem C_of_R {e : Nat} {w : World} {base : Nat} {ok : Nat → Prop} {A : Option Addr} {n c : Nat} {xs : List Int} (h : Kd.R (Kd.int .u8) e w base ok (.slice A n c) xs) : n = xs.length ∧ xs.length ≤ c ∧ Kd.C (Kd.int .u8) w A xs.length xs := by
  have := Kd.R_reads' h
  obtain ⟨h1, h2, h3⟩ := this
  subst h1
  exact ⟨rfl, h2, h3⟩

theorem parts3 {w : World} {b : Nat} {A0 A1 A2 : Option Addr} {c0 c1 c2 : Nat} {p0 p1 p2 : List Int}
    (e0 : w.cell? ⟨b, 0, none⟩ = some (.slice A0 p0.length c0)) (e1 : w.cell? ⟨b, 1, none⟩ = some (.slice A1 p1.length c1)) (e2 : w.cell? ⟨b, 2, none⟩ = some (.slice A2 p2.length c2))
    (h0 : Kd.C (Kd.int .u8) w A0 p0.length p0) (h1 : Kd.C (Kd.int .u8) w A1 p1.length p1) (h2 : Kd.C (Kd.int .u8) w A2 p2.length p2)
    (b0 : ∀ x ∈ p0, 0 ≤ x ∧ x ≤ 255) (b1 : ∀ x ∈ p1, 0 ≤ x ∧ x ≤ 255) (b2 : ∀ x ∈ p2, 0 ≤ x ∧ x ≤ 255) :
    PartsIn w b 0 [Lib.bytesOf p0, Lib.bytesOf p1, Lib.bytesOf p2] := by
  intro i l hl
  match i, hl with
  | 0, hl =>
    simp at hl; subst hl
    exact ⟨A0, c0, by rw [Lib.bytesOf_length]; exact e0, by rw [Lib.bytesOf_length]; exact holds_of_C h0 b0⟩
  | 1, hl =>
    simp at hl; subst hl
    exact ⟨A1, c1, by rw [Lib.bytesOf_length]; exact e1, by rw [Lib.bytesOf_length]; exact holds_of_C h1 b1⟩
  | 2, hl =>
    simp at hl; subst hl
    exact ⟨A2, c2, by rw [Lib.bytesOf_length]; exact e2, by rw [Lib.bytesOf_length]; exact holds_of_C h2 b2⟩
/-- What the walk keeps of the world: the box, and what lies below. -/
def Keep (wd : World) (cs : Array Value) (t : Nat) (w : World) : Prop := w.heap[wd.heap.size]? = some (.cells cs t (0, 0)) ∧ Below wd.heap.size wd w
theorem Keep.step {wd : World} {cs : Array Value} {t : Nat} {w w1 : World} (h : Keep wd cs t w) (hB : Below w.heap.size w w1) : Keep wd cs t w1 :=
  ⟨blk_below h.1 hB, h.2.trans (hB.mono h.2.size)⟩
theorem Keep.alloc {wd : World} {cs : Array Value} {t : Nat} {w : World} (h : Keep wd cs t w) (o : Obj) : Keep wd cs t (w.alloc o) := h.step ((Below.refl _ _).alloc (Nat.le_refl _) o)
theorem Keep.c0 {wd w : World} {x y z : Value} {t : Nat} (h : Keep wd #[x, y, z] t w) : w.cell? ⟨wd.heap.size, 0, none⟩ = some x := (blk_cell h.1 0).trans rfl
theorem Keep.c1 {wd w : World} {x y z : Value} {t : Nat} (h : Keep wd #[x, y, z] t w) : w.cell? ⟨wd.heap.size, 1, none⟩ = some y := (blk_cell h.1 1).trans rfl
theorem Keep.c2 {wd w : World} {x y z : Value} {t : Nat} (h : Keep wd #[x, y, z] t w) : w.cell? ⟨wd.heap.size, 2, none⟩ = some z := (blk_cell h.1 2).trans rfl
abbrev RU (w : World) (base : Nat) (v : Value) (xs : List Int) : Prop := Kd.R (Kd.int .u8) 5 w base (fun _ => True) v xs
theorem RU.step {w w1 : World} {base : Nat} {v : Value} {xs : List Int} (h : RU w base v xs) (hB : Below w.heap.size w w1) : RU w1 base v xs := Kd.R_below h hB
theorem RU.C {w : World} {base : Nat} {A : Option Addr} {c : Nat} {xs : List Int} (h : RU w base (.slice A xs.length c) xs) : Kd.C (Kd.int .u8) w A xs.length xs := (C_of_R h).2.2
theorem flat3 (p0 p1 p2 : List Int) : [Lib.bytesOf p0, Lib.bytesOf p1, Lib.bytesOf p2].flatten = Lib.bytesOf (p0 ++ p1 ++ p2) := by simp [Lib.bytesOf]
/-- What Encode makes of three numbers and a payload. -/
def EncPost (h p : List Int) (l : List Int) (wd : World) (e : Ending) (w' : World) : Prop :=
  ∃ v0 : Value, e = .returned (.tuple #[v0, .bool (decide (l.length ≤ 56 ∧ h.length = 8))]) ∧ RU w' wd.heap.size v0 (if l.length ≤ 56 ∧ h.length = 8 then h ++ p else []) ∧ Below wd.heap.size wd w'

theorem pad_some (l : List Int) (h : l.length ≤ 56) : bits_Pad.f l 56 = some (padL l 56, true) := by
  unfold bits_Pad.f; rw [if_neg (by omega)]; rfl
theorem pad_none (l : List Int) (h : ¬ l.length ≤ 56) : bits_Pad.f l 56 = some ([], false) := by
  unfold bits_Pad.f; rw [if_pos (by omega)]
theorem cells_of_buf {w0 w' : World} {g T : Nat} {H : List Int} (hb : ∀ x ∈ H, 0 ≤ x ∧ x ≤ 255) (h : Lib.Buf w0 w' g T (Lib.bytesOf H)) : ∀ (j : Nat) u, (encs (Value.int .u8) H)[j]? = some u → w'.cell? ⟨g, j, none⟩ = some u := by
  intro j u hu
  have hj : j < H.length := by have := (List.getElem?_eq_some_iff.1 hu).1; rwa [encs_length] at this
  rw [encs_get (d := (0 : Int)) H j hj] at hu
  cases hu
  have hjb : j < (Lib.bytesOf H).length := by rw [Lib.bytesOf_length]; exact hj
  have hy : (Lib.bytesOf H)[j]? = some ((Lib.bytesOf H)[j]'hjb) := List.getElem?_eq_getElem hjb
  rw [h.holds j _ hy, bytesOf_get hb j _ hy]
theorem encs_app (a b : List Int) : encs (Value.int .u8) (a ++ b) = encs (Value.int .u8) a ++ encs (Value.int .u8) b := by simp [encs]
theorem oneCells (P : List Int) : ∀ u ∈ encs (Value.int .u8) P, u.oneCell' = true := by
  intro u hu
  simp only [encs, List.mem_map] at hu
  obtain ⟨x, _, rfl⟩ := hu
  rfl
theorem read_row {w : World} {ad : Addr} {P : List Int} (h : ∀ j, j < P.length → w.cell? (ad.add j) = some (.int .u8 (P.getD j 0))) : ∀ (j : Nat) u, (encs (Value.int .u8) P)[j]? = some u → w.cell? (ad.add j) = some u := by
  intro j u hu
  have hj : j < P.length := by have := (List.getElem?_eq_some_iff.1 hu).1; rwa [encs_length] at this
  rw [encs_get (d := (0 : Int)) P j hj] at hu
  cases hu
  exact h j hj
theorem Addr.add_zero_off (g j : Nat) : (⟨g, 0, none⟩ : Addr).add j = ⟨g, j, none⟩ := by rw [add_two, Nat.zero_add]
theorem own_lower {w : World} {b b' : Nat} {e : TypeId} {size n : Nat} {v : Value} {xs : List Value} (h : w.ownsRow b e size v n xs) (hb : b' ≤ b) : w.ownsRow b' e size v n xs := by
  rcases h with ⟨h0, h1 | ⟨g, cap, cur, h1, h2, h3⟩⟩
  · exact ⟨h0, .inl h1⟩
  · exact ⟨h0, .inr ⟨g, cap, cur, h1, Nat.le_trans hb h2, h3⟩⟩
theorem infoU8e : (Try.prog.info? 5).map (fun i => (i.zero, i.size, i.bytes)) = some (some (.int .u8 0), 1, 1) := by kernel_rfl
/-- What stands behind the first statement. -/
structure AtHead (wd : World) (H : List Int) (A : Option Addr) (l : List Int) (g N : Nat) (w : World) : Prop where
  len : H.length = N
  cells : ∀ (j : Nat) u, (encs (Value.int .u8) H)[j]? = some u → w.cell? ⟨g, j, none⟩ = some u
  below : Below wd.heap.size wd w
  arg : Kd.C (Kd.int .u8) w A l.length l

/-- The first statement: three numbers' bytes joined; in whatever order the rest is done. -/
theorem join_of {w3 : World} {base base1 base2 : Nat} {A0 A1 A2 : Option Addr} {c0 c1 c2 : Nat} {p0 p1 p2 : List Int} (D0 : Hid ((∀ x ∈ p0, 0 ≤ x ∧ x ≤ 255) ∧ p0.length ≤ 4)) (D1 : Hid ((∀ x ∈ p1, 0 ≤ x ∧ x ≤ 255) ∧ p1.length ≤ 4)) (D2 : Hid ((∀ x ∈ p2, 0 ≤ x ∧ x ≤ 255) ∧ p2.length ≤ 4))
    (K0 : Hid (RU w3 base (.slice A0 p0.length c0) p0)) (K1 : Hid (RU w3 base1 (.slice A1 p1.length c1) p1)) (K2 : Hid (RU w3 base2 (.slice A2 p2.length c2) p2)) (W : World) (hW : w3.alloc (.cells #[.slice A0 p0.length c0, .slice A1 p1.length c1, .slice A2 p2.length c2] 26) = W) :
    Calls Try.prog 24 #[.slice (some ⟨w3.heap.size, 0, none⟩) 3 3, .slice none 0 0] W fun e w' => ∃ g N, e = .returned (.slice (some ⟨g, 0, none⟩) N N) ∧ (p0 ++ p1 ++ p2).length = N ∧ (∀ (j : Nat) u, (encs (Value.int .u8) (p0 ++ p1 ++ p2))[j]? = some u → w'.cell? ⟨g, j, none⟩ = some u) ∧ Below W.heap.size W w' := by
  have hb : Below w3.heap.size w3 W := by rw [← hW]; exact (Below.refl _ _).alloc (Nat.le_refl _) _
  have e := blk_new w3 (.cells #[.slice A0 p0.length c0, .slice A1 p1.length c1, .slice A2 p2.length c2] 26)
  rw [hW] at e
  refine (join_walk w3.heap.size 0 3 3 [Lib.bytesOf p0, Lib.bytesOf p1, Lib.bytesOf p2] W rfl (by omega) (by omega)
    (parts3 ((blk_cell e 0).trans rfl) ((blk_cell e 1).trans rfl) ((blk_cell e 2).trans rfl) (RU.step K0.out hb).C (RU.step K1.out hb).C (RU.step K2.out hb).C D0.out.1 D1.out.1 D2.out.1) (by omega) ?_).mono ?_
  · have h0 := D0.out.2; have h1 := D1.out.2; have h2 := D2.out.2
    simp only [Lib.lens, List.map_cons, List.map_nil, List.sum_cons, List.sum_nil, Lib.bytesOf_length]; omega
  · rintro e' w' ⟨T, rfl, hbuf, hT⟩
    rw [flat3] at hbuf hT
    have hby : ∀ x ∈ p0 ++ p1 ++ p2, 0 ≤ x ∧ x ≤ 255 := by
      intro x hx
      simp only [List.mem_append] at hx
      rcases hx with (hx | hx) | hx
      · exact D0.out.1 x hx
      · exact D1.out.1 x hx
      · exact D2.out.1 x hx
    exact ⟨W.heap.size, T, rfl, by rw [← hT, Lib.bytesOf_length], cells_of_buf hby hbuf, hbuf.below⟩

set_option maxHeartbeats 8000000 in
set_option maxRecDepth 1000000 in
theorem encode_walk (a0 a1 a2 : Int) (A : Option Addr) (c : Nat) (l : List Int) (wd : World) (hr : Kd.C (Kd.int .u8) wd A l.length l) (hc : l.length ≤ c) (b0 : a0 ≤ 9223372036854775807) (b1 : a1 ≤ 9223372036854775807) (b2 : a2 ≤ 9223372036854775807)
    (H P : List Int) (hH : Hid (pv 4 a0 ++ pv 2 a1 ++ pv 2 a2 = H)) (hP : Hid (padL l 56 = P)) :
    Calls Try.prog 16 #[.agg #[.int .i64 a0, .int .i64 a1, .int .i64 a2], .slice A l.length c] wd (EncPost H P l wd) := by
  obtain ⟨p0, hp0⟩ : ∃ p, pv 4 a0 = p := ⟨_, rfl⟩
  obtain ⟨p1, hp1⟩ : ∃ p, pv 2 a1 = p := ⟨_, rfl⟩
  obtain ⟨p2, hp2⟩ : ∃ p, pv 2 a2 = p := ⟨_, rfl⟩
  have P0 : Hid (bits_Put.f 4 a0 = some p0) := by rw [← hp0]; exact pv_some b0
  have P1 : Hid (bits_Put.f 2 a1 = some p1) := by rw [← hp1]; exact pv_some b1
  have P2 : Hid (bits_Put.f 2 a2 = some p2) := by rw [← hp2]; exact pv_some b2
  have D0 : Hid ((∀ x ∈ p0, 0 ≤ x ∧ x ≤ 255) ∧ p0.length ≤ 4) := by rw [← hp0]; exact ⟨pv_bd _ _, pv_len _ _⟩
  have D1 : Hid ((∀ x ∈ p1, 0 ≤ x ∧ x ≤ 255) ∧ p1.length ≤ 4) := by rw [← hp1]; exact ⟨pv_bd _ _, pv_len _ _⟩
  have D2 : Hid ((∀ x ∈ p2, 0 ≤ x ∧ x ≤ 255) ∧ p2.length ≤ 4) := by rw [← hp2]; exact ⟨pv_bd _ _, pv_len _ _⟩
  have EH : Hid (p0 ++ p1 ++ p2 = H) := by rw [← hp0, ← hp1, ← hp2]; exact hH
  have HC : Hid (Kd.C (Kd.int .u8) wd A l.length l) := hr
  clear hr b0 b1 b2 hp0 hp1 hp2 hH
  obtain ⟨i0, hi, hy0, hy1, hy2⟩ := info_parts infoU8e
  have HI : Hid (Try.prog.info? 5 = some i0) := hi
  have HY0 : Hid (i0.zero = some (.int .u8 0)) := hy0
  have HY1 : Hid (i0.size = 1) := hy1
  have HY2 : Hid (i0.bytes = 1) := hy2
  clear hi hy0 hy1 hy2
  obtain ⟨m, hm⟩ : ∃ m, l.length = m := ⟨_, rfl⟩
  have HM : Hid (l.length = m) := hm
  rw [hm] at hc
  go_enter Try.func16, Try.ntmps16
  rw [hm]
  clear hm
  go_upto_region 1 with fail
  go_cut [6] (fun s6 wx => ∃ g N : Nat, s6 = .slice (some ⟨g, 0, none⟩) N N ∧ Hid (AtHead wd H A l g N wx))
  case first =>
    have HK : Hid (Keep wd #[.int .i64 a0, .int .i64 a1, .int .i64 a2] 34 ((wd.alloc (Obj.cells #[Value.int IntKind.i64 a0, Value.int IntKind.i64 a1, Value.int IntKind.i64 a2] 34)).drew)) :=
      ⟨blk_new _ _, ((Below.refl _ _).alloc (Nat.le_refl _) _).drew⟩
    go_region_held3 (fun w' => w'.cell? ⟨wd.heap.size, 0, none⟩ = some (.int .i64 a0) ∧ w'.cell? ⟨wd.heap.size, 1, none⟩ = some (.int .i64 a1) ∧ w'.cell? ⟨wd.heap.size, 2, none⟩ = some (.int .i64 a2)) (first | exact ⟨hz0, hz1, hz2⟩ | go_keep) (first | (go_at_call_of 25 a0; refine (bits_Put.calls 4 a0 _ _ P0.out).mono ?_; rintro e w1 ⟨v0, rfl, hR, hB⟩; obtain ⟨A0, c0, rfl⟩ := Kd.R_slice hR; (try (have t_ : Hid (RU w1 _ _ _) := RU.step K1.out hB; clear K1; have K1 := t_; clear t_)); (try (have t_ : Hid (RU w1 _ _ _) := RU.step K2.out hB; clear K2; have K2 := t_; clear t_)); have K0 : Hid (RU w1 _ _ _) := hR; (have t_ : Hid (Keep wd _ _ w1) := Keep.step HK.out hB; clear HK; have HK := t_; clear t_); clear hR hB; have hz0 := Keep.c0 HK.out; have hz1 := Keep.c1 HK.out; have hz2 := Keep.c2 HK.out) | (go_at_call_of 25 a1; refine (bits_Put.calls 2 a1 _ _ P1.out).mono ?_; rintro e w2 ⟨v0, rfl, hR, hB⟩; obtain ⟨A1, c1, rfl⟩ := Kd.R_slice hR; (try (have t_ : Hid (RU w2 _ _ _) := RU.step K0.out hB; clear K0; have K0 := t_; clear t_)); (try (have t_ : Hid (RU w2 _ _ _) := RU.step K2.out hB; clear K2; have K2 := t_; clear t_)); have K1 : Hid (RU w2 _ _ _) := hR; (have t_ : Hid (Keep wd _ _ w2) := Keep.step HK.out hB; clear HK; have HK := t_; clear t_); clear hR hB; have hz0 := Keep.c0 HK.out; have hz1 := Keep.c1 HK.out; have hz2 := Keep.c2 HK.out) | (go_at_call_of 25 a2; refine (bits_Put.calls 2 a2 _ _ P2.out).mono ?_; rintro e w3 ⟨v0, rfl, hR, hB⟩; obtain ⟨A2, c2, rfl⟩ := Kd.R_slice hR; (try (have t_ : Hid (RU w3 _ _ _) := RU.step K0.out hB; clear K0; have K0 := t_; clear t_)); (try (have t_ : Hid (RU w3 _ _ _) := RU.step K1.out hB; clear K1; have K1 := t_; clear t_)); have K2 : Hid (RU w3 _ _ _) := hR; (have t_ : Hid (Keep wd _ _ w3) := Keep.step HK.out hB; clear HK; have HK := t_; clear t_); clear hR hB; have hz0 := Keep.c0 HK.out; have hz1 := Keep.c1 HK.out; have hz2 := Keep.c2 HK.out) | (go_at_call 24; go_must (refine (join_of D0 D1 D2 K0 K1 K2 _ rfl).mono ?_); go_must (rintro e w4 ⟨g, N, rfl, hN, hcells, hB⟩); have HA : Hid (AtHead wd H A l g N w4) := { len := by rw [← EH.out]; exact hN, cells := by rw [← EH.out]; exact hcells, below := (Keep.step (Keep.alloc HK.out _) hB).2, arg := Kd.C_below HC.out (Keep.step (Keep.alloc HK.out _) hB).2 }; (have t_ : Hid (Keep wd _ _ w4) := Keep.step (Keep.alloc HK.out _) hB; clear HK; have HK := t_; clear t_); have hz0 := Keep.c0 HK.out; have hz1 := Keep.c1 HK.out; have hz2 := Keep.c2 HK.out; clear hN hcells hB K0 K1 K2))
    all_goals (go_wp2_with fail; go_meet; exact ⟨_, _, rfl, HA⟩)
  case rest =>
    obtain ⟨g, N, rfl, HA⟩ := hcut
    have hN : (0 : Int) ≤ N := Int.natCast_nonneg N
    by_cases h56 : m ≤ 56
    · have PS : Hid (bits_Pad.f l 56 = some (P, true)) := by rw [← hP.out]; exact pad_some l (by rw [HM.out]; exact h56)
      have PL : Hid (P.length = 56) := by rw [← hP.out]; exact padL_length _ _ (by rw [HM.out]; exact h56)
      by_cases h8 : N = 8
      · subst h8
        go_wp2_with (first | (go_at_call 26; go_must (rw [← HM.out]; refine (bits_Pad.calls A c l 56 P true _ HA.out.arg (by rw [HM.out]; exact hc) PS.out).mono ?_); go_must (rintro e w5 ⟨v0, rfl, hR, hB⟩); obtain ⟨A5, c5, rfl⟩ := Kd.R_slice hR; have K5 : Hid (RU w5 _ _ _) := hR; have HB5 : Hid (Below wd.heap.size wd w5) := HA.out.below.trans (hB.mono HA.out.below.size); have HC5 : Hid (∀ (j : Nat) u, (encs (Value.int .u8) H)[j]? = some u → w5.cell? ⟨g, j, none⟩ = some u) := (fun j u hu => (hB.cell (World.block_lt_of_cell? _ _ (HA.out.cells j u hu))).trans (HA.out.cells j u hu)); obtain ⟨ad, e5, hc5⟩ := (Kd.reads_of_C (d := (0 : Int)) (C_of_R K5.out).2.2).2.2 (by rw [PL.out]; decide); subst e5; have HD5 : Hid (∀ j, j < P.length → w5.cell? (ad.add j) = some (.int .u8 (P.getD j 0))) := hc5; clear hR hB hc5) | (at_builtin; refine wpList_append_grows _ rfl (.tmp 32) (.tmp 33) 26 rfl 5 i0 (.int .u8 0) 1 1 Try.underlying26 HI.out HY0.out HY1.out HY2.out rfl (by decide) (some ⟨g, 0, none⟩) 8 8 (encs (Value.int .u8) H) rfl (fun h => by cases h) (by rw [encs_length, HA.out.len]) (by intro b hb j u hu; cases hb; rw [Addr.add_zero_off]; exact HC5.out j u hu) ad P.length c5 (encs (Value.int .u8) P) rfl (by rw [encs_length, Nat.mul_one]) (read_row HD5.out) (oneCells P) (by rw [PL.out]; decide) (by rw [PL.out]; decide) (by rw [PL.out]; decide) ?_; intro v6 w6 hown hgrow))
        go_ret2
        refine ⟨v6, ?_, ?_, ?_⟩
        · rw [decide_eq_true ⟨by rw [HM.out]; exact h56, HA.out.len⟩]; rfl
        · rw [if_pos ⟨by rw [HM.out]; exact h56, HA.out.len⟩]
          refine Kd.R_of_own ?_ (fun _ _ => trivial)
          rw [encs_app, List.length_append, HA.out.len]
          exact own_lower hown HB5.out.size
        · exact HB5.out.trans (((Below.refl _ _).grown hgrow (Nat.le_refl _) (fun k hk => by cases hk)).mono HB5.out.size)
      · go_wp2_with (first | (go_at_call 26; go_must (rw [← HM.out]; refine (bits_Pad.calls A c l 56 P true _ HA.out.arg (by rw [HM.out]; exact hc) PS.out).mono ?_); go_must (rintro e w5 ⟨v0, rfl, hR, hB⟩); obtain ⟨A5, c5, rfl⟩ := Kd.R_slice hR; have K5 : Hid (RU w5 _ _ _) := hR; have HB5 : Hid (Below wd.heap.size wd w5) := HA.out.below.trans (hB.mono HA.out.below.size); have HC5 : Hid (∀ (j : Nat) u, (encs (Value.int .u8) H)[j]? = some u → w5.cell? ⟨g, j, none⟩ = some u) := (fun j u hu => (hB.cell (World.block_lt_of_cell? _ _ (HA.out.cells j u hu))).trans (HA.out.cells j u hu)); obtain ⟨ad, e5, hc5⟩ := (Kd.reads_of_C (d := (0 : Int)) (C_of_R K5.out).2.2).2.2 (by rw [PL.out]; decide); subst e5; have HD5 : Hid (∀ j, j < P.length → w5.cell? (ad.add j) = some (.int .u8 (P.getD j 0))) := hc5; clear hR hB hc5))
        go_ret2
        have hn : ¬ (l.length ≤ 56 ∧ H.length = 8) := by rw [HA.out.len]; exact fun h => h8 h.2
        exact ⟨_, by rw [decide_eq_false hn]; rfl, by rw [if_neg hn]; exact Kd.R_nil _ _ _ _ _, HB5.out⟩
    · have PS : Hid (bits_Pad.f l 56 = some ([], false)) := pad_none l (by rw [HM.out]; exact h56)
      have hn : ¬ (l.length ≤ 56 ∧ H.length = 8) := by rw [HM.out]; exact fun h => h56 h.1
      go_wp2_with (first | (go_at_call 26; go_must (rw [← HM.out]; refine (bits_Pad.calls A c l 56 [] false _ HA.out.arg (by rw [HM.out]; exact hc) PS.out).mono ?_); go_must (rintro e w5 ⟨v0, rfl, hR, hB⟩); have HB5 : Hid (Below wd.heap.size wd w5) := HA.out.below.trans (hB.mono HA.out.below.size); clear hR hB))
      go_ret2
      exact ⟨_, by rw [decide_eq_false hn]; rfl, by rw [if_neg hn]; exact Kd.R_nil _ _ _ _ _, HB5.out⟩

/-- What Encode answers. -/
def sector_Encode.f (a0 a1 a2 : Int) (l : List Int) : Option (List Int × Bool) :=
  if 9223372036854775807 < a0 ∨ 9223372036854775807 < a1 ∨ 9223372036854775807 < a2 then none
  else some (if l.length ≤ 56 ∧ (pv 4 a0 ++ pv 2 a1 ++ pv 2 a2).length = 8 then (pv 4 a0 ++ pv 2 a1 ++ pv 2 a2 ++ padL l 56, true) else ([], false))
theorem sector_Encode.calls (a0_0 : Int) (a0_1 : Int) (a0_2 : Int) (A1 : Option Addr) (c1 : Nat) (l1 : List Int) (r1 : List Int) (r2 : Bool) (w : World) (hr1 : Kd.C (Kd.int .u8) w A1 l1.length l1) (hc1 : l1.length ≤ c1) (h : sector_Encode.f a0_0 a0_1 a0_2 l1 = some (r1, r2)) :
    Calls Try.prog 16 #[.agg #[.int .i64 a0_0, .int .i64 a0_1, .int .i64 a0_2], .slice A1 l1.length c1] w fun e w' => ∃ v0_ : Value, e = .returned (.tuple #[v0_, .bool r2]) ∧ Kd.R (Kd.int .u8) 5 w' w.heap.size (fun _ => True) v0_ r1 ∧ Below w.heap.size w w' := by
  unfold sector_Encode.f at h
  split at h
  · cases h
  · rename_i hb
    have h := Option.some.inj h
    refine (encode_walk a0_0 a0_1 a0_2 A1 c1 l1 w hr1 hc1 (by omega) (by omega) (by omega) _ _ rfl rfl).mono ?_
    rintro e w' ⟨v0, rfl, hR, hB⟩
    refine ⟨v0, ?_, ?_, hB⟩
    · split at h
      · rename_i hc
        rw [decide_eq_true hc]; cases h; rfl
      · rename_i hc
        rw [decide_eq_false hc]; cases h; rfl
    · split at h
      · rename_i hc
        rw [if_pos hc] at hR; cases h; exact hR
      · rename_i hc
        rw [if_neg hc] at hR; cases h; exact hR

end Go.Proofs.Ytljjlfjhkdbbfaa.Given
