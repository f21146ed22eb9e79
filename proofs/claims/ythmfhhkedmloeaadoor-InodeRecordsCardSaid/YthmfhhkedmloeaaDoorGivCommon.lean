/- Words that hand contracts share. -/
import Derived.Test.YthmfhhkedmloeaaDoorGivPut
import Derived.Test.YthmfhhkedmloeaaDoorGivPad
import Derived.Test.YthmfhhkedmloeaaDoorGivJoin
import Derived.Deep.RegionWith
import Derived.Deep.RegionHeld3
import Derived.ArgAppend
import Derived.Deep.DeepMust
import Derived.Deep.DeepCutAuto
namespace Go.Proofs.YthmfhhkedmloeaaDoor.Given
open Go.RowKit Go.Proofs.YthmfhhkedmloeaaDoorW.PrintWords Go.Proofs.YthmfhhkedmloeaaDoorW.PrintLast Go.Proofs.YthmfhhkedmloeaaDoorW.PrintMore
set_option linter.unusedVariables false
set_option linter.unusedSimpArgs false

def pv (w n : Int) : List Int := if okPut w n then putAt n w.toNat w.toNat else []
theorem pv_some {w n : Int} (h : n ≤ 9223372036854775807) : bits_Put.f w n = some (pv w n) := by unfold bits_Put.f; rw [if_neg (by omega)]; rfl
theorem putAt_bd (n : Int) (w k : Nat) : ∀ x ∈ putAt n w k, 0 ≤ x ∧ x ≤ 255 := by
  intro x hx
  simp only [putAt, List.mem_map, List.mem_range] at hx
  obtain ⟨i, hi, rfl⟩ := hx
  split <;> omega
theorem pv_bd (w n : Int) : ∀ x ∈ pv w n, 0 ≤ x ∧ x ≤ 255 := by
  unfold pv; split
  · exact putAt_bd _ _ _
  · intro x hx; simp at hx
theorem pv_len (w n : Int) : (pv w n).length ≤ 4 := by
  unfold pv; split
  · rename_i h; rw [putAt_length]; unfold okPut at h; omega
  · simp
theorem u8_back {x : Int} (h : 0 ≤ x ∧ x ≤ 255) : ((UInt8.ofNat x.toNat).toNat : Int) = x := by
  have : (UInt8.ofNat x.toNat).toNat = x.toNat := by simp; omega
  rw [this]; omega
theorem bytesOf_get {xs : List Int} (hb : ∀ x ∈ xs, 0 ≤ x ∧ x ≤ 255) (i : Nat) (y : UInt8) (h : (Lib.bytesOf xs)[i]? = some y) : (y.toNat : Int) = xs.getD i 0 := by
  simp only [Lib.bytesOf, List.getElem?_map] at h
  obtain ⟨x, hx, rfl⟩ := Option.map_eq_some_iff.1 h
  rw [u8_back (hb x (List.mem_of_getElem? hx)), List.getD_eq_getElem?_getD, hx]; rfl
/-- A slice that is read, as the library tells it. -/
theorem holds_of_C {w : World} {A : Option Addr} {c : Nat} {xs : List Int} (h : Kd.C (Kd.int .u8) w A xs.length xs) (hb : ∀ x ∈ xs, 0 ≤ x ∧ x ≤ 255) : Lib.HoldsBytes w (.slice A xs.length c) (Lib.bytesOf xs) := by
  have hr := Kd.reads_of_C (d := (0 : Int)) h
  refine ⟨A, c, by rw [Lib.bytesOf_length], fun e => ?_, fun a e i y hy => ?_⟩
  · subst e
    rcases Nat.eq_zero_or_pos xs.length with h0 | h0
    · rw [List.eq_nil_of_length_eq_zero h0]; rfl
    · obtain ⟨ad, e, _⟩ := hr.2.2 h0; cases e
  · have hi : i < xs.length := by have := (List.getElem?_eq_some_iff.1 hy).1; rwa [Lib.bytesOf_length] at this
    obtain ⟨ad, e', hc⟩ := hr.2.2 (by omega)
    rw [e] at e'; cases e'
    rw [hc i hi, bytesOf_get hb i y hy]
theorem C_of_R {e : Nat} {w : World} {base : Nat} {ok : Nat → Prop} {A : Option Addr} {n c : Nat} {xs : List Int} (h : Kd.R (Kd.int .u8) e w base ok (.slice A n c) xs) : n = xs.length ∧ xs.length ≤ c ∧ Kd.C (Kd.int .u8) w A xs.length xs := by
  have := Kd.R_reads' h
  obtain ⟨h1, h2, h3⟩ := this
  subst h1
  exact ⟨rfl, h2, h3⟩

/-- What the walk keeps of the world: the box, and what lies below. -/
def Keep (wd : World) (cs : Array Value) (t : Nat) (w : World) : Prop := w.heap[wd.heap.size]? = some (.cells cs t (0, 0)) ∧ Below wd.heap.size wd w
theorem Keep.step {wd : World} {cs : Array Value} {t : Nat} {w w1 : World} (h : Keep wd cs t w) (hB : Below w.heap.size w w1) : Keep wd cs t w1 :=
  ⟨blk_below h.1 hB, h.2.trans (hB.mono h.2.size)⟩
theorem Keep.alloc {wd : World} {cs : Array Value} {t : Nat} {w : World} (h : Keep wd cs t w) (o : Obj) : Keep wd cs t (w.alloc o) := h.step ((Below.refl _ _).alloc (Nat.le_refl _) o)
theorem Keep.c0 {wd w : World} {x y z : Value} {t : Nat} (h : Keep wd #[x, y, z] t w) : w.cell? ⟨wd.heap.size, 0, none⟩ = some x := (blk_cell h.1 0).trans rfl
theorem Keep.c1 {wd w : World} {x y z : Value} {t : Nat} (h : Keep wd #[x, y, z] t w) : w.cell? ⟨wd.heap.size, 1, none⟩ = some y := (blk_cell h.1 1).trans rfl
theorem Keep.c2 {wd w : World} {x y z : Value} {t : Nat} (h : Keep wd #[x, y, z] t w) : w.cell? ⟨wd.heap.size, 2, none⟩ = some z := (blk_cell h.1 2).trans rfl
abbrev RU (w : World) (base : Nat) (v : Value) (xs : List Int) : Prop := Kd.R (Kd.int .u8) 5 w base (fun _ => True) v xs
theorem RU.step {w w1 : World} {base : Nat} {v : Value} {xs : List Int} (h : RU w base v xs) (hB : Below w.heap.size w w1) : RU w1 base v xs := Kd.R_below h hB
theorem RU.C {w : World} {base : Nat} {A : Option Addr} {c : Nat} {xs : List Int} (h : RU w base (.slice A xs.length c) xs) : Kd.C (Kd.int .u8) w A xs.length xs := (C_of_R h).2.2
theorem pad_some (l : List Int) (h : l.length ≤ 56) : bits_Pad.f l 56 = some (padL l 56, true) := by
  unfold bits_Pad.f; rw [if_neg (by omega)]; rfl
theorem pad_none (l : List Int) (h : ¬ l.length ≤ 56) : bits_Pad.f l 56 = some ([], false) := by
  unfold bits_Pad.f; rw [if_pos (by omega)]
theorem cells_of_buf {w0 w' : World} {g T : Nat} {H : List Int} (hb : ∀ x ∈ H, 0 ≤ x ∧ x ≤ 255) (h : Lib.Buf w0 w' g T (Lib.bytesOf H)) : ∀ (j : Nat) u, (encs (Value.int .u8) H)[j]? = some u → w'.cell? ⟨g, j, none⟩ = some u := by
  intro j u hu
  have hj : j < H.length := by have := (List.getElem?_eq_some_iff.1 hu).1; rwa [encs_length] at this
  rw [encs_get (d := (0 : Int)) H j hj] at hu
  cases hu
  have hjb : j < (Lib.bytesOf H).length := by rw [Lib.bytesOf_length]; exact hj
  have hy : (Lib.bytesOf H)[j]? = some ((Lib.bytesOf H)[j]'hjb) := List.getElem?_eq_getElem hjb
  rw [h.holds j _ hy, bytesOf_get hb j _ hy]
theorem encs_app (a b : List Int) : encs (Value.int .u8) (a ++ b) = encs (Value.int .u8) a ++ encs (Value.int .u8) b := by simp [encs]
theorem oneCells (P : List Int) : ∀ u ∈ encs (Value.int .u8) P, u.oneCell' = true := by
  intro u hu
  simp only [encs, List.mem_map] at hu
  obtain ⟨x, _, rfl⟩ := hu
  rfl
theorem read_row {w : World} {ad : Addr} {P : List Int} (h : ∀ j, j < P.length → w.cell? (ad.add j) = some (.int .u8 (P.getD j 0))) : ∀ (j : Nat) u, (encs (Value.int .u8) P)[j]? = some u → w.cell? (ad.add j) = some u := by
  intro j u hu
  have hj : j < P.length := by have := (List.getElem?_eq_some_iff.1 hu).1; rwa [encs_length] at this
  rw [encs_get (d := (0 : Int)) P j hj] at hu
  cases hu
  exact h j hj
theorem Addr.add_zero_off (g j : Nat) : (⟨g, 0, none⟩ : Addr).add j = ⟨g, j, none⟩ := by rw [add_two, Nat.zero_add]
theorem own_lower {w : World} {b b' : Nat} {e : TypeId} {size n : Nat} {v : Value} {xs : List Value} (h : w.ownsRow b e size v n xs) (hb : b' ≤ b) : w.ownsRow b' e size v n xs := by
  rcases h with ⟨h0, h1 | ⟨g, cap, cur, h1, h2, h3⟩⟩
  · exact ⟨h0, .inl h1⟩
  · exact ⟨h0, .inr ⟨g, cap, cur, h1, Nat.le_trans hb h2, h3⟩⟩
theorem infoU8e : (Tryd.prog.info? 5).map (fun i => (i.zero, i.size, i.bytes)) = some (some (.int .u8 0), 1, 1) := by kernel_rfl
/-- The headers of parts, and their bytes. -/
def PartsAt (w : World) (base : Nat) (hs : List Value) (ps : List (List Int)) : Prop :=
  hs.length = ps.length ∧ ∀ (i : Nat) (h : Value) (p : List Int), hs[i]? = some h → ps[i]? = some p → ∃ A c, h = .slice A p.length c ∧ p.length ≤ c ∧ RU w base h p
theorem PartsAt.step {w w1 : World} {base : Nat} {hs : List Value} {ps : List (List Int)} (h : PartsAt w base hs ps) (hB : Below w.heap.size w w1) : PartsAt w1 base hs ps :=
  ⟨h.1, fun i x p hx hp => let ⟨A, c, e, hc, hr⟩ := h.2 i x p hx hp; ⟨A, c, e, hc, RU.step hr hB⟩⟩
theorem own_of_RU {w : World} {base : Nat} {v : Value} {xs : List Int} (h : RU w base v xs) : w.ownsRow base 5 1 v xs.length (encs (Value.int .u8) xs) := Kd.own_of_R h
theorem RU.grown {w w1 : World} {base b2 n : Nat} {v v2 : Value} {xs : List Int} {ys : List Value} (h : RU w base v xs) (h2 : w.ownsRow b2 25 1 v2 n ys) (hg : w.grownBy w1 v2.ownBlock) : RU w1 base v xs :=
  Kd.R_of_own (own_other (own_of_RU h) hg (own_type_ne (own_of_RU h) h2 (by decide))) (fun _ _ => trivial)
theorem RU.at_ {w : World} {base : Nat} {v : Value} {xs : List Int} (h : RU w base v xs) (h0 : 0 < xs.length) : ∃ g c, v = .slice (some ⟨g, 0, none⟩) xs.length c ∧ base ≤ g ∧ g < w.heap.size ∧ ∀ i, i < xs.length → w.cell? ⟨g, i, none⟩ = some (.int .u8 (xs.getD i 0)) ∧ w.frozen? ⟨g, i, none⟩ = false := by
  have ho := own_of_RU h
  obtain ⟨g, cap, rfl, hb, hl⟩ := ho.form h0
  refine ⟨g, cap, rfl, hb, hl, fun i hi => ?_⟩
  have := own_at_of (d := (0 : Int)) ho (i : Int) (by omega) (by omega)
  simpa [rdOf] using this
/-- .. behind an append to the row of the headers. -/
theorem PartsAt.grown {w w1 : World} {base b2 n : Nat} {v2 : Value} {ys : List Value} {hs : List Value} {ps : List (List Int)} (h : PartsAt w base hs ps) (h2 : w.ownsRow b2 25 1 v2 n ys) (hg : w.grownBy w1 v2.ownBlock) : PartsAt w1 base hs ps :=
  ⟨h.1, fun i x p hx hp => let ⟨A, c, e, hc, hr⟩ := h.2 i x p hx hp; ⟨A, c, e, hc, RU.grown hr h2 hg⟩⟩
theorem PartsAt.nil (w : World) (base : Nat) : PartsAt w base [] [] := ⟨rfl, fun i h p hx _ => by simp at hx⟩
theorem PartsAt.snoc {w : World} {base : Nat} {hs : List Value} {ps : List (List Int)} {x : Value} {p : List Int} (h : PartsAt w base hs ps) {A : Option Addr} {c : Nat} (e : x = .slice A p.length c) (hr : RU w base x p) : PartsAt w base (hs ++ [x]) (ps ++ [p]) := by
  have hc : p.length ≤ c := by subst e; exact (C_of_R hr).2.1
  refine ⟨by simp [h.1], fun i y q hy hq => ?_⟩
  rcases Nat.lt_or_ge i hs.length with hi | hi
  · rw [List.getElem?_append_left hi] at hy
    rw [List.getElem?_append_left (by rw [← h.1]; exact hi)] at hq
    exact h.2 i y q hy hq
  · rw [List.getElem?_append_right hi] at hy
    rw [List.getElem?_append_right (by rw [← h.1]; exact hi)] at hq
    rw [← h.1] at hq
    match i - hs.length, hy, hq with
    | 0, hy, hq => simp at hy hq; subst hy; subst hq; exact ⟨A, c, e, hc, hr⟩
theorem RU.lower {w : World} {b b' : Nat} {v : Value} {xs : List Int} (h : RU w b v xs) (hb : b' ≤ b) : RU w b' v xs := Kd.R_of_own (own_lower (own_of_RU h) hb) (fun _ _ => trivial)
theorem PartsAt.cell1 {w : World} {base : Nat} {hs : List Value} {ps : List (List Int)} (h : PartsAt w base hs ps) : ∀ u ∈ hs, u.oneCell' = true := by
  intro u hu
  obtain ⟨i, hi, rfl⟩ := List.mem_iff_getElem.1 hu
  obtain ⟨A, c, e, _⟩ := h.2 i hs[i] (ps[i]'(by rw [← h.1]; exact hi)) (List.getElem?_eq_getElem hi) (List.getElem?_eq_getElem _)
  rw [e]; rfl
/-- All parts as the library's Join reads them. -/
theorem PartsAt.ins {w : World} {base b : Nat} {hs : List Value} {ps : List (List Int)} (h : PartsAt w base hs ps) (hc : ∀ (j : Nat) u, hs[j]? = some u → w.cell? ⟨b, 0 + j, none⟩ = some u) (hb : ∀ p ∈ ps, ∀ x ∈ p, 0 ≤ x ∧ x ≤ 255) :
    PartsIn w b 0 (ps.map Lib.bytesOf) := by
  intro i l hl
  rw [List.getElem?_map] at hl
  obtain ⟨p, hp, rfl⟩ := Option.map_eq_some_iff.1 hl
  have hi : i < hs.length := by rw [h.1]; exact (List.getElem?_eq_some_iff.1 hp).1
  obtain ⟨A, c, e, _, hr⟩ := h.2 i hs[i] p (List.getElem?_eq_getElem hi) hp
  refine ⟨A, c, ?_, ?_⟩
  · rw [Lib.bytesOf_length, ← e]; exact hc i _ (List.getElem?_eq_getElem hi)
  · rw [Lib.bytesOf_length]
    rw [e] at hr
    exact holds_of_C hr.C (hb p (List.mem_of_getElem? hp))
theorem lens_map (ps : List (List Int)) : Lib.lens (ps.map Lib.bytesOf) = (ps.map List.length).sum := by
  induction ps with
  | nil => rfl
  | cons p ps ih => simp only [Lib.lens, List.map_cons, List.sum_cons, Lib.bytesOf_length] at ih ⊢; omega
theorem flat_map (ps : List (List Int)) : (ps.map Lib.bytesOf).flatten = Lib.bytesOf ps.flatten := by
  induction ps with
  | nil => rfl
  | cons p ps ih => simp only [List.map_cons, List.flatten_cons, ih]; simp [Lib.bytesOf]
/-- Join of parts: their bytes, one behind the other, as a block of the call's own. -/
theorem join_parts {w : World} {base n c b : Nat} {hs : List Value} {ps : List (List Int)} (hn : hs.length = n) (h2 : 2 ≤ n) (hnc : n ≤ c) (h : PartsAt w base hs ps) (hc : ∀ (j : Nat) u, hs[j]? = some u → w.cell? ⟨b, 0 + j, none⟩ = some u) (hb : ∀ p ∈ ps, ∀ x ∈ p, 0 ≤ x ∧ x ≤ 255)
    (hn47 : n ≤ 140737488355328) (hlen : (ps.map List.length).sum ≤ 140737488355328) :
    Calls Tryd.prog 21 #[.slice (some ⟨b, 0, none⟩) n c, .slice none 0 0] w fun e w' => ∃ T, e = .returned (.slice (some ⟨w.heap.size, 0, none⟩) T T) ∧ ps.flatten.length = T ∧ Kd.C (Kd.int .u8) w' (some ⟨w.heap.size, 0, none⟩) T ps.flatten ∧ Below w.heap.size w w' := by
  refine (join_walk b 0 n c (ps.map Lib.bytesOf) w (by rw [List.length_map, ← h.1]; exact hn) h2 hnc (h.ins hc hb) hn47 (by rw [lens_map]; exact hlen)).mono ?_
  rintro e w' ⟨T, rfl, hbuf, hT⟩
  rw [flat_map] at hbuf hT
  rw [Lib.bytesOf_length] at hT
  have hby : ∀ x ∈ ps.flatten, 0 ≤ x ∧ x ≤ 255 := by
    intro x hx
    obtain ⟨p, hp, hx⟩ := List.mem_flatten.1 hx
    exact hb p hp x hx
  refine ⟨T, rfl, hT, ?_, hbuf.below⟩
  subst hT
  have hl : ps.flatten.length ≤ 140737488355328 := by
    have : ps.flatten.length = (ps.map List.length).sum := by rw [List.length_flatten]
    omega
  refine Kd.C_of_reads (d := (0 : Int)) (h1 := fun _ => rfl) ⟨rfl, by omega, fun _ => ⟨_, rfl, fun j hj => ?_⟩⟩
  rw [Addr.add_zero_off]
  exact cells_of_buf hby hbuf j _ (encs_get (d := (0 : Int)) _ j hj)
end Go.Proofs.YthmfhhkedmloeaaDoor.Given
