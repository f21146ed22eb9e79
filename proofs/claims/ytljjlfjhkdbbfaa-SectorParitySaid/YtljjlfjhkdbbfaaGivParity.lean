/- The contract of moraineref04.Parity, in the printed contracts' form: by hand. -/
import Derived.Test.YtljjlfjhkdbbfaaBase
import Derived.Laws.CopyOwn
import Derived.Lib.Hide
import Derived.RegionTactic
import Derived.Test.YtljjlfjhkdbbfaaGivPad
namespace Go.Proofs.Ytljjlfjhkdbbfaa.Given
open Go.RowKit Go.Proofs.YtljjlfjhkdbbfaaW.PrintWords Go.Proofs.YtljjlfjhkdbbfaaW.PrintLast Go.Proofs.YtljjlfjhkdbbfaaW.PrintMore Go.Proofs.Ytljjlfjhkdbbfaa.Base
set_option linter.unusedVariables false
set_option linter.unusedSimpArgs false

/-- What the first k rounds of the inner loop make. -/
def xf (b : List Int) : Nat → List Int → List Int
  | 0, out => out
  | k + 1, out => (xf b k out).set (4 + k) (Go.bits .xor .u8 ((xf b k out).getD (4 + k) 0) (b.getD (4 + k) 0))
theorem xf_length (b : List Int) (k : Nat) (out : List Int) : (xf b k out).length = out.length := by
  induction k with
  | zero => rfl
  | succ k ih => simp [xf, ih]
theorem xf_take (b : List Int) (k : Nat) (out : List Int) : (xf b k out).take 4 = out.take 4 := by
  induction k with
  | zero => rfl
  | succ k ih => simp only [xf]; rw [List.take_set_of_le (by omega)]; exact ih
/-- What the first k rows make. -/
def xfs (l : List (List Int)) : Nat → List Int
  | 0 => (l.getD 0 []).take 4 ++ List.replicate 60 0
  | k + 1 => xf (l.getD k []) 60 (xfs l k)
def ok4 (l : List (List Int)) (b : List Int) : Prop := b.length = 64 ∧ b.take 4 = (l.getD 0 []).take 4
instance (l : List (List Int)) (b : List Int) : Decidable (ok4 l b) := by unfold ok4; infer_instance
theorem xfs_length (l : List (List Int)) (h : (l.getD 0 []).length = 64) (k : Nat) : (xfs l k).length = 64 := by
  induction k with
  | zero => simp only [xfs, List.length_append, List.length_take, List.length_replicate, h]; rfl
  | succ k ih => rw [xfs, xf_length, ih]
theorem xfs_take (l : List (List Int)) (h : (l.getD 0 []).length = 64) (k : Nat) : (xfs l k).take 4 = (l.getD 0 []).take 4 := by
  induction k with
  | zero => rw [xfs, List.take_append_of_le_length (by rw [List.length_take, h]; omega), List.take_take]; rfl
  | succ k ih => rw [xfs, xf_take, ih]
def moraineref04_Parity.f (l : List (List Int)) : Option (List Int × Bool) :=
  if l.length ≤ 9223372036854775806 then some (if l ≠ [] ∧ ∀ b ∈ l, ok4 l b then (xfs l l.length, true) else ([], false)) else none

theorem same_f : ∀ (d k i : Nat) (a b : List Int), a.length = b.length → i + d = a.length → d < k → a.length ≤ 1000 → moraineref00_SameBytes.l0 k a b (i : Int) = some (decide (a.drop i = b.drop i)) := by
  intro d
  induction d with
  | zero =>
    intro k i a b hl hi hk hs
    obtain ⟨k, rfl⟩ : ∃ m, k = m + 1 := ⟨k - 1, by omega⟩
    simp only [moraineref00_SameBytes.l0]
    rw [if_neg (by omega), List.drop_of_length_le (by omega), List.drop_of_length_le (by omega)]
    simp
  | succ d ih =>
    intro k i a b hl hi hk hs
    obtain ⟨k, rfl⟩ : ∃ m, k = m + 1 := ⟨k - 1, by omega⟩
    have h := ih k (i + 1) a b hl (by omega) (by omega) hs
    have hw : wrap64 ((i : Int) + 1) = ((i + 1 : Nat) : Int) := by unfold wrap64; omega
    have ha : a.drop i = a.getD i 0 :: a.drop (i + 1) := by rw [List.drop_eq_getElem_cons (by omega), List.getD_eq_getElem?_getD, List.getElem?_eq_getElem (by omega)]; rfl
    have hb : b.drop i = b.getD i 0 :: b.drop (i + 1) := by rw [List.drop_eq_getElem_cons (by omega), List.getD_eq_getElem?_getD, List.getElem?_eq_getElem (by omega)]; rfl
    simp only [moraineref00_SameBytes.l0]
    rw [if_pos (by omega), if_pos (by omega), if_pos (by omega), hw, h, ha, hb]
    by_cases e : rd a (i : Int) = rd b (i : Int)
    · have e' : a.getD i 0 = b.getD i 0 := e
      rw [if_pos e, e']; simp
    · have e' : a.getD i 0 ≠ b.getD i 0 := e
      have e2 : ¬ (a.getD i 0 :: a.drop (i + 1) = b.getD i 0 :: b.drop (i + 1)) := fun h => e' (List.cons.inj h).1
      rw [if_neg e, decide_eq_false e2]
theorem same_eq (k : Nat) (a b : List Int) (hk : a.length < k) (hs : a.length ≤ 1000) : moraineref00_SameBytes.f k a b = some (decide (a = b)) := by
  unfold moraineref00_SameBytes.f
  by_cases h : a.length = b.length
  · rw [if_pos (by omega)]
    have := same_f a.length k 0 a b h (by omega) hk hs
    simpa using this
  · rw [if_neg (by omega)]
    have : a ≠ b := fun e => h (by rw [e])
    simp [this]

theorem par_nil (A : Option Addr) (c : Nat) (w : World) :
    Calls Try.prog 13 #[.slice A 0 c] w fun e w' => e = .returned (.tuple #[.slice none 0 0, .bool false]) ∧ Below w.heap.size w w' := by
  go_enter Try.func13, Try.ntmps13
  go_wp2
  go_ret2
  exact ⟨rfl, Below.refl _ _⟩

theorem par_short (A : Option Addr) (c : Nat) (l : List (List Int)) (w : World) (hr : Kd.C (Kd.slice 5 (Kd.int .u8)) w A l.length l) (h0 : 0 < l.length) (h1 : (l.getD 0 []).length ≠ 64) :
    Calls Try.prog 13 #[.slice A l.length c] w fun e w' => e = .returned (.tuple #[.slice none 0 0, .bool false]) ∧ Below w.heap.size w w' := by
  obtain ⟨ad, A0, c0, rfl, hc, hl, hC⟩ := at_L1 hr 0 (by omega) (by omega)
  have h1' : (((rd_L1 l 0).length : Int) != 64) = true := by rw [bne_iff_ne]; show ¬ (((l.getD 0 []).length : Int) = 64); omega
  have hc' : w.cell? ad = some (.slice A0 (rd_L1 l 0).length c0) := by have e : ad.add 0 = ad := (by unfold Addr.add; split <;> simp_all); rwa [show (0 : Int).toNat = 0 from rfl, e] at hc
  have hn : ((l.length : Int) == 0) = false := by rw [beq_eq_false_iff_ne]; omega
  clear hc hr hl hC h1
  go_enter Try.func13, Try.ntmps13
  go_wp2
  go_ret2
  exact ⟨rfl, Below.refl _ _⟩

theorem row_at {w : World} {A : Option Addr} {l : List (List Int)} (hr : Kd.C (Kd.slice 5 (Kd.int .u8)) w A l.length l) (k : Nat) (hk : k < l.length) :
    ∃ ad A0 c0, A = some ad ∧ w.cell? (ad.add k) = some (.slice A0 (l.getD k []).length c0) ∧ (l.getD k []).length ≤ c0 ∧ Kd.C (Kd.int .u8) w A0 (l.getD k []).length (l.getD k []) := by
  obtain ⟨ad, A0, c0, h1, h2, h3, h4⟩ := at_L1 hr (k : Int) (by omega) (by omega)
  exact ⟨ad, A0, c0, h1, h2, h3, h4⟩
theorem getD_cell {w : World} {A : Option Addr} {n : Nat} {b : List Int} (h : Kd.C (Kd.int .u8) w A n b) (k : Nat) (hk : k < n) : ∃ ad, A = some ad ∧ w.cell? (ad.add k) = some (.int .u8 (b.getD k 0)) := by
  obtain ⟨ad, e, hc⟩ := (Kd.reads_of_C (d := (0 : Int)) h).2.2 (by omega)
  exact ⟨ad, e, hc k hk⟩

theorem same_yes (A0 : Option Addr) (c0 : Nat) (A1 : Option Addr) (c1 n : Nat) (x y : List Int) (w : World) (h0 : Kd.C (Kd.int .u8) w A0 n x) (h1 : Kd.C (Kd.int .u8) w A1 n y) (hc0 : n ≤ c0) (hc1 : n ≤ c1) (hn : n ≤ 1000) (b : Bool) (hb : decide (x = y) = b) (q : Nat) :
    Calls Try.prog 14 #[.slice A0 n c0, .slice A1 n c1] (w.drewN q) fun e w' => e = .returned (.bool b) ∧ ∃ m, w' = w.drewN m := by
  have e0 := (Kd.reads_of_C (d := (0 : Int)) h0).1
  have e1 := (Kd.reads_of_C (d := (0 : Int)) h1).1
  refine Calls.quiet_of ?_
  have h := moraineref00_SameBytes.calls 1001 A0 c0 x A1 c1 y b (w.drewN q) (by rw [e0]; exact Kd.C_drewN h0 q) (by omega) (by rw [e1]; exact Kd.C_drewN h1 q) (by omega) (by rw [same_eq _ _ _ (by omega) (by omega), hb])
  rw [e0, e1] at h
  refine h.mono ?_
  rintro e w' ⟨rfl, ⟨m, rfl⟩⟩
  exact ⟨rfl, m, rfl⟩
theorem own_take_C {w : World} {base g n c m : Nat} {xs : List Int} (h : w.ownsRow base 5 1 (.slice (some ⟨g, 0, none⟩) n c) n (encs (Value.int .u8) xs)) (hm : m ≤ n) : Kd.C (Kd.int .u8) w (some ⟨g, 0, none⟩) m (xs.take m) := by
  have hl : xs.length = n := by have := h.1; rw [encs_length] at this; omega
  have hR : Kd.R (Kd.int .u8) 5 w base (fun _ => True) (.slice (some ⟨g, 0, none⟩) n c) xs := Kd.R_of_own (by rw [hl]; exact h) (fun _ _ => trivial)
  have hC := Kd.C_take (m := m) (C_of_R hR).2.2 (by omega)
  rwa [List.length_take, hl, Nat.min_eq_left hm] at hC
theorem C_take_n {w : World} {A : Option Addr} {n m : Nat} {xs : List Int} (h : Kd.C (Kd.int .u8) w A n xs) (hm : m ≤ n) : Kd.C (Kd.int .u8) w A m (xs.take m) := by
  have hl : xs.length = n := (Kd.reads_of_C (d := (0 : Int)) h).1
  have hC := Kd.C_take (m := m) (by rw [hl]; exact h) (by omega)
  rwa [List.length_take, hl, Nat.min_eq_left hm] at hC

def ParPost (l : List (List Int)) (n : Nat) (w : World) (e : Ending) (w' : World) : Prop :=
  ∃ v0_ : Value, ∃ r1 : List Int, ∃ r2 : Bool, e = .returned (.tuple #[v0_, .bool r2]) ∧ Kd.R (Kd.int .u8) 5 w' w.heap.size (fun _ => True) v0_ r1 ∧ Below w.heap.size w w' ∧ (r1, r2) = (if ∀ b ∈ l, ok4 l b then (xfs l n, true) else ([], false))
theorem ParPost.bad {l : List (List Int)} {n k : Nat} {w w' : World} (hk : k < l.length) (h : ¬ ok4 l (l.getD k [])) (hB : Below w.heap.size w w') : ParPost l n w (.returned (.tuple #[.slice none 0 0, .bool false])) w' := by
  refine ⟨_, [], false, rfl, Kd.R_nil _ _ _ _ _, hB, ?_⟩
  rw [if_neg]
  intro hall
  refine h (hall _ ?_)
  rw [List.getD_eq_getElem?_getD, List.getElem?_eq_getElem hk]
  exact List.getElem_mem hk

set_option maxHeartbeats 1000000 in
theorem par_loop (A : Option Addr) (c : Nat) (l : List (List Int)) (w : World) (hr : Kd.C (Kd.slice 5 (Kd.int .u8)) w A l.length l) (h0 : 0 < l.length) (h1 : (l.getD 0 []).length = 64) (hm : l.length ≤ 9223372036854775806) :
    Calls Try.prog 13 #[.slice A l.length c] w (ParPost l l.length w) := by
  obtain ⟨i0, hi, hz0, hz1, hz2⟩ := info_parts infoU8p
  have HI : Hid (Try.prog.info? 5 = some i0) := hi
  have HZ0 : Hid (i0.zero = some (.int .u8 0)) := hz0
  have HZ1 : Hid (i0.size = 1) := hz1
  have HZ2 : Hid (i0.bytes = 1) := hz2
  clear hi hz0 hz1 hz2
  obtain ⟨ad, A0, c0, rfl, hc, hl0, hC0⟩ := row_at hr 0 h0
  have hc' : w.cell? ad = some (.slice A0 64 c0) := by
    have e : ad.add 0 = ad := (by unfold Addr.add; split <;> simp_all)
    rw [e, h1] at hc; exact hc
  have h64 : 64 ≤ c0 := by omega
  have HR : Hid (Kd.C (Kd.slice 5 (Kd.int .u8)) w (some ad) l.length l) := hr
  obtain ⟨b0, hb0⟩ : ∃ b, l.getD 0 [] = b := ⟨_, rfl⟩
  rw [hb0] at hC0 h1
  have HB0 : Hid (l.getD 0 [] = b0) := hb0
  have HC0 : Hid (Kd.C (Kd.int .u8) w A0 b0.length b0) := hC0
  have H1 : Hid (b0.length = 64) := h1
  obtain ⟨n, hn⟩ : ∃ n, l.length = n := ⟨_, rfl⟩
  rw [hn] at h0 hm ⊢
  have HN : Hid (l.length = n) := hn
  have hnz : ((n : Int) == 0) = false := by rw [beq_eq_false_iff_ne]; omega
  clear hr hc hC0 h1 hl0 hn hb0
  go_enter Try.func13, Try.ntmps13
  go_wp2_with (first | (at_make; refine wpList_make_full _ rfl _ _ 26 rfl w.heap.size 5 i0 (.int .u8 0) 1 Try.underlying26 HI.out HZ0.out HZ1.out .i64 .i64 64 64 64 rfl rfl rfl rfl (by rw [HZ2.out]; omega) (by unfold maxLen; omega) (Nat.le_refl _) ?_; intro w1 hown hgrow; have HW : Hid (w1.heap[w.heap.size]? = some (.cells (encs (Value.int .u8) (List.replicate 64 0)).toArray 5 (0, 0))) := by { rw [encs_repP]; exact own_whole hown }; have HB : Hid (Below w.heap.size w w1) := (Below.refl _ _).grown hgrow (Nat.le_refl _) (fun k hk => by cases hk); clear hown hgrow; have hc1 : w1.cell? ad = some (.slice A0 64 c0) := (HB.out.cell (World.block_lt_of_cell? w _ hc')).trans hc') | (with_reducible refine wpList_copy_splice rfl (.tmp 18) (.tmp 22) 26 26 rfl 5 Try.underlying26 infoU8s _ _ _ _ _ _ rfl rfl w.heap.size 0 (encs (Value.int .u8) (List.replicate 64 0)) 5 HW.out (encs (Value.int .u8) (b0.take 4)) ?c1 ?c2 ?c3 ?c4 w.heap.size w HB.out (Nat.le_refl _) ?_))
  case c1 => rw [encs_length, List.length_take, H1.out]
  case c2 =>
    intro _
    obtain ⟨a0, e0, hcc⟩ := (Kd.reads_of_C (d := (0 : Int)) HC0.out).2.2 (by rw [H1.out]; omega)
    subst e0
    first | refine ⟨rfl, a0, rfl, ?_⟩ | refine ⟨a0, rfl, ?_⟩
    intro j v hj
    have hjl : j < (b0.take 4).length := by have := (List.getElem?_eq_some_iff.1 hj).1; rwa [encs_length] at this
    rw [encs_get (d := (0 : Int)) _ j hjl] at hj
    cases hj
    rw [List.length_take, H1.out] at hjl
    have hcj := hcc j (by rw [H1.out]; omega)
    have e1 : (b0.take 4).getD j 0 = b0.getD j 0 := by rw [List.getD_eq_getElem?_getD, List.getD_eq_getElem?_getD, List.getElem?_take, if_pos (by omega)]
    rw [e1]
    exact (HB.out.cell (World.block_lt_of_cell? w _ hcj)).trans hcj
  case c3 => rw [encs_length, encs_length, List.length_replicate, List.length_take, H1.out]; decide
  case c4 =>
    intro v hv
    simp only [encs, List.mem_map] at hv
    obtain ⟨x, _, rfl⟩ := hv
    rfl
  intro w2 hh hb2
  have hown2 : w2.ownsRow w.heap.size 5 1 (.slice (some ⟨w.heap.size, 0, none⟩) 64 64) 64 (encs (Value.int .u8) (xfs l 0)) := by
    refine whole_own (Nat.le_refl _) (by rw [encs_length, xfs_length l (by rw [HB0.out]; exact H1.out)]) (by unfold maxLen; omega) ?_
    have e : splice (encs (Value.int .u8) (List.replicate 64 0)) 0 (encs (Value.int .u8) (b0.take 4)) = encs (Value.int .u8) (xfs l 0) := by
      have h4 : (b0.take 4).length = 4 := by rw [List.length_take, H1.out]; rfl
      simp only [splice, encs, xfs, HB0.out, List.map_append, List.length_map, h4, List.take_zero, List.nil_append, Nat.zero_add, ← List.map_drop, List.drop_replicate]
    rw [← e]; exact hh.out
  have HOWN : Hid (_) := hown2
  have HB2 : Hid (Below w.heap.size w w2) := hb2
  clear hh hb2 hown2 hc1 HB HW
  go_wp2
  go_loopw [5] (fun i wr => ∃ k : Nat, k ≤ n ∧ i = .int .i64 k ∧ Hid (∀ j, j < k → ok4 l (l.getD j [])) ∧ Hid (wr.ownsRow w.heap.size 5 1 (.slice (some ⟨w.heap.size, 0, none⟩) 64 64) 64 (encs (Value.int .u8) (xfs l k))) ∧ Hid (Below w.heap.size w wr)) (fun i _ => n - (intOf i).toNat)
  case atStart => exact ⟨0, Nat.zero_le _, rfl, Lib.hid (fun j hj => absurd hj (by omega)), HOWN, HB2⟩
  case round =>
    clear HOWN HB2
    obtain ⟨k, hk, rfl, HG, HOWN, HB⟩ := hrel
    by_cases hlt : k < n
    · obtain ⟨ad', Ak, ck, he, hck, hlk, hCk⟩ := row_at HR.out k (by rw [HN.out]; exact hlt)
      cases he
      have hcw := (HB.out.cell (World.block_lt_of_cell? w _ hck)).trans hck
      obtain ⟨b, hb⟩ : ∃ b, l.getD k [] = b := ⟨_, rfl⟩
      rw [hb] at hcw hlk hCk
      have HBK : Hid (l.getD k [] = b) := hb
      have HCK : Hid (Kd.C (Kd.int .u8) w Ak b.length b) := hCk
      clear hCk
      obtain ⟨m, hm'⟩ : ∃ m, b.length = m := ⟨_, rfl⟩
      rw [hm'] at hcw hlk
      have HM : Hid (b.length = m) := hm'
      have HKC : Hid (w.cell? (ad.add k) = some (.slice Ak m ck)) := by rw [← hm', ← hb]; exact hck
      clear hm' hb hck
      by_cases hlen : m = 64
      · subst hlen
        have hb1 : (((64 : Nat) : Int) != 64) = false := by decide
        have hb2 : 64 ≤ ck := hlk
        by_cases heq : b.take 4 = b0.take 4
        · have HE : Hid (b.take 4 = b0.take 4) := Lib.hid heq
          clear heq
          go_wp2
          go_quiet ((go_at_call 14; exact same_yes _ _ _ _ 4 (b.take 4) ((xfs l k).take 4) wr (C_take_n (Kd.C_below HCK.out HB.out) (by rw [HM.out]; omega)) (own_take_C HOWN.out (by omega)) (by omega) (by omega) (by omega) true (by rw [xfs_take _ (by rw [HB0.out]; exact H1.out), HB0.out, HE.out]; simp) _))
          go_wp2
          obtain ⟨wo, hwo⟩ : ∃ wo : World, wo = wr.drewN nq := ⟨_, rfl⟩
          have HB1 : Hid (Below w.heap.size w wo) := by rw [hwo]; exact pw_below_drewN HB.out _
          have HOW1 : Hid (wo.ownsRow w.heap.size 5 1 (.slice (some ⟨w.heap.size, 0, none⟩) 64 64) 64 (encs (Value.int .u8) (xf b 0 (xfs l k)))) := by rw [hwo]; exact pw_own_below HOWN.out (pw_below_drewN (Below.refl _ _) _)
          have hcw1 : wo.cell? (ad.add k) = some (.slice Ak 64 ck) := by rw [hwo]; exact hcw
          rw [← hwo]
          clear hwo HB HOWN hcw
          go_loopw [6] (fun j wq => ∃ i : Nat, i ≤ 60 ∧ j = .int .i64 ((4 + i : Nat) : Int) ∧ Hid (wq.ownsRow w.heap.size 5 1 (.slice (some ⟨w.heap.size, 0, none⟩) 64 64) 64 (encs (Value.int .u8) (xf b i (xfs l k)))) ∧ Hid (Below w.heap.size w wq)) (fun j _ => 64 - (intOf j).toNat)
          case atStart => exact ⟨0, Nat.zero_le _, by go_num, HOW1, HB1⟩
          case round =>
            clear HOW1 HB1 hcw1
            obtain ⟨i, hi, rfl, HQ, HBQ⟩ := hrel
            by_cases hi60 : i < 60
            · obtain ⟨a1, e1, hc1⟩ := getD_cell HCK.out (4 + i) (by rw [HM.out]; omega)
              subst e1
              have hcq := (HBQ.out.cell (World.block_lt_of_cell? w _ hc1)).trans hc1
              have hcr := (HBQ.out.cell (World.block_lt_of_cell? w _ HKC.out)).trans HKC.out
              obtain ⟨x, hx⟩ : ∃ x, (xf b i (xfs l k)).getD (4 + i) 0 = x := ⟨_, rfl⟩
              obtain ⟨y, hy⟩ : ∃ y, b.getD (4 + i) 0 = y := ⟨_, rfl⟩
              obtain ⟨hcx, hfx⟩ := own_at_of (d := (0 : Int)) HQ.out ((4 + i : Nat) : Int) (by omega) (by omega)
              simp only [rdOf, Int.toNat_natCast] at hcx hfx
              rw [hx] at hcx
              rw [hy] at hcq
              have HX : Hid (_ = x) := hx
              have HY : Hid (b.getD (4 + i) 0 = y) := hy
              have hj0 : 0 ≤ ((4 + i : Nat) : Int) := by omega
              have hj1 : ((4 + i : Nat) : Int) < 64 := by omega
              clear hc1 hx hy
              go_wp2
              go_region
              go_wp2
              go_roundw
              case rel =>
                refine ⟨i + 1, by omega, by go_num, ?_, ?_⟩
                · have hst := own_store_of HQ.out ((4 + i : Nat) : Int) (Go.bits .xor .u8 x y)
                  simp only [Int.toNat_natCast] at hst
                  show World.ownsRow _ _ _ _ _ _ (encs _ ((xf b i (xfs l k)).set (4 + i) (Go.bits .xor .u8 ((xf b i (xfs l k)).getD (4 + i) 0) (b.getD (4 + i) 0))))
                  rw [HX.out, HY.out]
                  exact pw_own_below hst.1 (below_drew (Below.refl _ _))
                · exact below_drew (HBQ.out.setCell (p := ⟨w.heap.size, 4 + i, none⟩) (Nat.le_refl _) _)
              case measure => simp [intOf]; omega
            · have hi' : i = 60 := by omega
              subst hi'
              go_wp2
              go_roundw
              case rel =>
                refine ⟨k + 1, by omega, by go_num, ?_, ?_, HBQ⟩
                · intro j hj
                  rcases Nat.lt_or_ge j k with h | h
                  · exact HG.out j h
                  · have : j = k := by omega
                    subst this
                    exact ⟨by rw [HBK.out]; exact HM.out, by rw [HBK.out, HB0.out]; exact HE.out⟩
                · show World.ownsRow _ _ _ _ _ _ (encs _ (xf (l.getD k []) 60 (xfs l k)))
                  rw [HBK.out]; exact HQ.out
              case measure => simp [intOf]; omega
        · have HE : Hid (b.take 4 ≠ b0.take 4) := Lib.hid heq
          clear heq
          go_wp2
          go_quiet ((go_at_call 14; exact same_yes _ _ _ _ 4 (b.take 4) ((xfs l k).take 4) wr (C_take_n (Kd.C_below HCK.out HB.out) (by rw [HM.out]; omega)) (own_take_C HOWN.out (by omega)) (by omega) (by omega) (by omega) false (by rw [xfs_take _ (by rw [HB0.out]; exact H1.out), HB0.out]; simp [HE.out]) _))
          go_wp2
          go_ret2
          exact ParPost.bad (k := k) (by rw [HN.out]; exact hlt) (fun h => HE.out (by rw [← HBK.out, ← HB0.out]; exact h.2)) (pw_below_drewN HB.out _)
      · have hb1 : ((m : Int) != 64) = true := by rw [bne_iff_ne]; omega
        have HL : Hid (m ≠ 64) := Lib.hid hlen
        clear hlen
        go_wp2
        go_quiet (fail)
        go_wp2
        go_ret2
        exact ParPost.bad (k := k) (by rw [HN.out]; exact hlt) (fun h => HL.out (by rw [← HM.out, ← HBK.out]; exact h.1)) (pw_below_drewN HB.out _)
    · have hk' : k = n := by omega
      subst hk'
      go_wp2
      go_ret2
      refine ⟨_, xfs l k, true, rfl, Kd.R_of_own (by rw [xfs_length l (by rw [HB0.out]; exact H1.out)]; exact HOWN.out) (fun _ _ => trivial), HB.out, ?_⟩
      rw [if_pos]
      intro c hc
      obtain ⟨j, hj, rfl⟩ := List.mem_iff_getElem.1 hc
      have := HG.out j (by rw [← HN.out]; exact hj)
      rwa [List.getD_eq_getElem?_getD, List.getElem?_eq_getElem hj] at this

theorem moraineref04_Parity.calls (A0 : Option Addr) (c0 : Nat) (l0 : List (List Int)) (r1 : List Int) (r2 : Bool) (w : World) (hr0 : Kd.C (Kd.slice 5 (Kd.int .u8)) w A0 l0.length l0) (hc0 : l0.length ≤ c0) (h : moraineref04_Parity.f l0 = some (r1, r2)) :
    Calls Try.prog 13 #[.slice A0 l0.length c0] w fun e w' => ∃ v0_ : Value, e = .returned (.tuple #[v0_, .bool r2]) ∧ Kd.R (Kd.int .u8) 5 w' w.heap.size (fun _ => True) v0_ r1 ∧ Below w.heap.size w w' := by
  unfold moraineref04_Parity.f at h
  split at h
  · rename_i hm
    have h := Option.some.inj h
    rcases Nat.eq_zero_or_pos l0.length with hz | hp
    · have hl : l0 = [] := List.eq_nil_of_length_eq_zero hz
      subst hl
      rw [if_neg (fun hh => hh.1 rfl)] at h
      cases h
      refine (par_nil A0 c0 w).mono ?_
      rintro e w' ⟨rfl, hB⟩
      exact ⟨_, rfl, Kd.R_nil _ _ _ _ _, hB⟩
    · have hne : l0 ≠ [] := fun e => by rw [e] at hp; simp at hp
      have h : (if ∀ b ∈ l0, ok4 l0 b then (xfs l0 l0.length, true) else ([], false)) = (r1, r2) := by
        rw [← h]
        by_cases ha : ∀ b ∈ l0, ok4 l0 b
        · rw [if_pos ha, if_pos ⟨hne, ha⟩]
        · rw [if_neg ha, if_neg (fun hh => ha hh.2)]
      by_cases h1 : (l0.getD 0 []).length = 64
      · refine (par_loop A0 c0 l0 w hr0 hp h1 hm).mono ?_
        rintro e w' ⟨v0, s1, s2, rfl, hR, hB, he⟩
        rw [h] at he
        cases he
        exact ⟨v0, rfl, hR, hB⟩
      · refine (par_short A0 c0 l0 w hr0 hp h1).mono ?_
        rintro e w' ⟨rfl, hB⟩
        have : ¬ ∀ b ∈ l0, ok4 l0 b := fun ha => h1 (ha _ (by rw [List.getD_eq_getElem?_getD, List.getElem?_eq_getElem hp]; exact List.getElem_mem hp)).1
        rw [if_neg this] at h
        cases h
        exact ⟨_, rfl, Kd.R_nil _ _ _ _ _, hB⟩
  · cases h
end Go.Proofs.Ytljjlfjhkdbbfaa.Given
