/- The pure statement of BitsXor, over whole numbers and lists alone. -/
import Derived.Test.YtpdfkhglgamhiaaDoorQBitsXorx
import Derived.KernelRfl
import Derived.Laws.BitsLemmas
import Derived.Laws.BitsAllLaws
namespace Go.Proofs.YtpdfkhglgamhiaaDoor.Pure
open Go.RowKit Go.Proofs.YtpdfkhglgamhiaaDoor.PBitsXor Go.Proofs.YtpdfkhglgamhiaaDoorW.PrintWords Go.Proofs.YtpdfkhglgamhiaaDoorW.PrintLast Go.Proofs.YtpdfkhglgamhiaaDoorW.PrintMore Go.Proofs.YtpdfkhglgamhiaaDoor.Given
set_option linter.unusedVariables false
set_option linter.unusedSimpArgs false
theorem w64 {n : Int} (h0 : -9223372036854775808 ≤ n) (h1 : n ≤ 9223372036854775807) : wrap64 n = n := by unfold wrap64; omega
theorem i64_bd {n : Int} (h : (Lit.int .i64 n).wf = true) : -9223372036854775808 ≤ n ∧ n ≤ 9223372036854775807 := by simpa [Lit.wf, IntKind.min, IntKind.max, IntKind.signed, IntKind.bits] using h
theorem u8_bd {n : Int} (h : (Lit.int .u8 n).wf = true) : 0 ≤ n ∧ n ≤ 255 := by simpa [Lit.wf, IntKind.min, IntKind.max, IntKind.signed, IntKind.bits] using h
theorem rd_get {xs : List Int} {i : Nat} (h : i < xs.length) : rd xs (i : Int) = xs[i] := by simp [rd, h]
theorem same_loop (x y : List Int) (hl : x.length = y.length) (hn : x.length ≤ 140737488355328) (d : Nat) : ∀ (k i : Nat), i + d = x.length → d < k →
    moraineref00_SameBytes.l0 k x y (i : Int) = some (decide (x.drop i = y.drop i)) := by
  induction d with
  | zero =>
    intro k i hi hk
    obtain ⟨k, rfl⟩ : ∃ m, k = m + 1 := ⟨k - 1, by omega⟩
    simp only [moraineref00_SameBytes.l0]
    rw [if_neg (by omega), List.drop_of_length_le (by omega), List.drop_of_length_le (by omega)]; simp
  | succ d ih =>
    intro k i hi hk
    obtain ⟨k, rfl⟩ : ∃ m, k = m + 1 := ⟨k - 1, by omega⟩
    simp only [moraineref00_SameBytes.l0]
    rw [if_pos (by omega), if_pos (by omega), if_pos (by omega), rd_get (show i < x.length by omega), rd_get (show i < y.length by omega)]
    have ex : x.drop i = x[i] :: x.drop (i + 1) := List.drop_eq_getElem_cons (by omega)
    have ey : y.drop i = y[i] :: y.drop (i + 1) := List.drop_eq_getElem_cons (by omega)
    by_cases h : x[i] = y[i]
    · rw [if_pos h, w64 (by omega) (by omega)]
      have := ih k (i + 1) (by omega) (by omega)
      rw [show ((i : Int) + 1) = ((i + 1 : Nat) : Int) by omega, this]
      exact congrArg some (decide_eq_decide.2 ⟨fun e => by rw [ex, ey, h, e], fun e => by rw [ex, ey] at e; exact (List.cons.inj e).2⟩)
    · rw [if_neg h, decide_eq_false (fun e => by rw [ex, ey] at e; exact h (List.cons.inj e).1)]
theorem same_eq (x y : List Int) (hn : x.length ≤ 140737488355328) (k : Nat) (hk : x.length < k) : moraineref00_SameBytes.f k x y = some (decide (x = y)) := by
  unfold moraineref00_SameBytes.f
  by_cases hl : x.length = y.length
  · rw [if_pos (by omega)]
    have := same_loop x y hl hn x.length k 0 (by omega) hk
    simpa using this
  · rw [if_neg (by omega)]
    have : x ≠ y := fun e => hl (by rw [e])
    simp [this]
def Byt (l : List Int) : Prop := ∀ x ∈ l, 0 ≤ x ∧ x ≤ 255
theorem rd_byt {l : List Int} (h : Byt l) (i : Int) : 0 ≤ rd l i ∧ rd l i ≤ 255 := by
  unfold rd
  by_cases hi : i.toNat < l.length
  · rw [List.getD_eq_getElem?_getD, List.getElem?_eq_getElem hi]; exact h _ (List.getElem_mem hi)
  · rw [List.getD_eq_getElem?_getD, List.getElem?_eq_none (by omega)]; simp
theorem alive_eq : morainelaw01_alive.f 5 = some true := by kernel_rfl
theorem alive_at (k : Nat) : morainelaw01_alive.f (k + 5) = some true := by
  induction k with
  | zero => exact alive_eq
  | succ k ih => exact morainelaw01_alive.mono _ _ ih
def xo (x y : Int) : Int := Go.bits .xor .u8 x y
def IsB (x : Int) : Prop := 0 ≤ x ∧ x ≤ 255
theorem xo_nat {x y : Int} (hx : IsB x) (hy : IsB y) : xo x y = ((x.toNat ^^^ y.toNat : Nat) : Int) := u8_xor x y hx.1 (by have := hx.2; omega) hy.1 (by have := hy.2; omega)
theorem xo_byt {x y : Int} (hx : IsB x) (hy : IsB y) : IsB (xo x y) := by
  rw [xo_nat hx hy]
  have h1 := hx.2; have h2 := hy.2; have h3 := hx.1; have h4 := hy.1
  have : x.toNat ^^^ y.toNat < 2 ^ 8 := Nat.xor_lt_two_pow (by omega) (by omega)
  exact ⟨by omega, by omega⟩
theorem isB0 : IsB 0 := ⟨by omega, by omega⟩
theorem xo_zero {x : Int} (hx : IsB x) : xo x 0 = x := by rw [xo_nat hx isB0]; have := hx.1; simp; omega
theorem zero_xo {x : Int} (hx : IsB x) : xo 0 x = x := by rw [xo_nat isB0 hx]; have := hx.1; simp; omega
theorem xo_comm {x y : Int} (hx : IsB x) (hy : IsB y) : xo x y = xo y x := by rw [xo_nat hx hy, xo_nat hy hx, Nat.xor_comm]
theorem xo_self {x : Int} (hx : IsB x) : xo x x = 0 := by rw [xo_nat hx hx, Nat.xor_self]; rfl
theorem xo_assoc {x y z : Int} (hx : IsB x) (hy : IsB y) (hz : IsB z) : xo (xo x y) z = xo x (xo y z) := by
  have h1 := xo_byt hx hy; have h2 := xo_byt hy hz
  rw [xo_nat h1 hz, xo_nat hx h2, xo_nat hx hy, xo_nat hy hz, Int.toNat_natCast, Int.toNat_natCast, Nat.xor_assoc]
theorem xo_xo {x y : Int} (hx : IsB x) (hy : IsB y) : xo (xo x y) y = x := by rw [xo_assoc hx hy hy, xo_self hy, xo_zero hx]
/-- The bytes of two, one by one; noughts behind the shorter. -/
def xorAll (a b : List Int) : List Int := (List.range (max a.length b.length)).map fun i => xo (a.getD i 0) (b.getD i 0)
theorem xorAll_length (a b : List Int) : (xorAll a b).length = max a.length b.length := by simp [xorAll]
theorem getD_byt {l : List Int} (h : Byt l) (i : Nat) : IsB (l.getD i 0) := by
  by_cases hi : i < l.length
  · rw [List.getD_eq_getElem?_getD, List.getElem?_eq_getElem hi]; exact h _ (List.getElem_mem hi)
  · rw [List.getD_eq_getElem?_getD, List.getElem?_eq_none (by omega)]; exact isB0
theorem getD_out {l : List Int} {i : Nat} (h : l.length ≤ i) : l.getD i 0 = 0 := by rw [List.getD_eq_getElem?_getD, List.getElem?_eq_none h]; rfl
theorem xorAll_get {a b : List Int} (ha : Byt a) (hb : Byt b) (i : Nat) : (xorAll a b).getD i 0 = xo (a.getD i 0) (b.getD i 0) := by
  by_cases hi : i < max a.length b.length
  · rw [List.getD_eq_getElem?_getD, List.getElem?_eq_getElem (by rw [xorAll_length]; exact hi)]; simp [xorAll]
  · rw [getD_out (by rw [xorAll_length]; omega), getD_out (l := a) (by omega), getD_out (l := b) (by omega), xo_zero isB0]
theorem xorAll_byt {a b : List Int} (ha : Byt a) (hb : Byt b) : Byt (xorAll a b) := by
  intro x hx
  simp only [xorAll, List.mem_map, List.mem_range] at hx
  obtain ⟨i, _, rfl⟩ := hx
  exact xo_byt (getD_byt ha i) (getD_byt hb i)
theorem ext_getD {a b : List Int} (hl : a.length = b.length) (h : ∀ i, i < a.length → a.getD i 0 = b.getD i 0) : a = b := by
  apply List.ext_getElem hl
  intro i h1 h2
  have := h i h1
  rw [List.getD_eq_getElem?_getD, List.getD_eq_getElem?_getD, List.getElem?_eq_getElem h1, List.getElem?_eq_getElem h2] at this
  exact this
theorem xorTo_get (short long : List Int) (k i : Nat) (hi : i < long.length) : (xorTo short k long).getD i 0 = if i < k then xo (long.getD i 0) (short.getD i 0) else long.getD i 0 := by
  induction k with
  | zero => simp [xorTo]
  | succ k ih =>
    simp only [xorTo]
    by_cases e : k = i
    · subst e
      rw [List.getD_eq_getElem?_getD, List.getElem?_set_self (by rw [xorTo_length]; exact hi), if_pos (by omega)]
      rw [if_neg (by omega)] at ih
      rw [ih]; rfl
    · rw [List.getD_eq_getElem?_getD, List.getElem?_set_ne e, ← List.getD_eq_getElem?_getD, ih]
      by_cases h : i < k
      · rw [if_pos h, if_pos (by omega)]
      · rw [if_neg h, if_neg (by omega)]
theorem xorAll_comm {a b : List Int} (ha : Byt a) (hb : Byt b) : xorAll a b = xorAll b a := by
  apply ext_getD
  · rw [xorAll_length, xorAll_length]; omega
  · intro i _; rw [xorAll_get ha hb, xorAll_get hb ha, xo_comm (getD_byt ha i) (getD_byt hb i)]
theorem xorTo_all {short long : List Int} (hs : Byt short) (hl : Byt long) (h : short.length ≤ long.length) : xorTo short short.length long = xorAll long short := by
  apply ext_getD
  · rw [xorTo_length, xorAll_length]; omega
  · intro i hi
    rw [xorTo_length] at hi
    rw [xorTo_get short long _ i hi, xorAll_get hl hs]
    by_cases h : i < short.length
    · rw [if_pos h]
    · rw [if_neg h, getD_out (l := short) (by omega), xo_zero (getD_byt hl i)]
theorem xor_eq {a b : List Int} (ha : Byt a) (hb : Byt b) (h0 : a.length ≤ 140737488355328) (h1 : b.length ≤ 140737488355328) : bits_Xor.f a b = some (xorAll a b) := by
  unfold bits_Xor.f
  rw [if_pos ⟨h0, h1⟩]
  by_cases h : a.length < b.length
  · rw [if_pos h, xorTo_all ha hb (by omega), xorAll_comm hb ha]
  · rw [if_neg h, xorTo_all hb ha (by omega)]
theorem xorAll_assoc {a b c : List Int} (ha : Byt a) (hb : Byt b) (hc : Byt c) : xorAll (xorAll a b) c = xorAll a (xorAll b c) := by
  apply ext_getD
  · simp only [xorAll_length]; omega
  · intro i _
    rw [xorAll_get (xorAll_byt ha hb) hc, xorAll_get ha hb, xorAll_get ha (xorAll_byt hb hc), xorAll_get hb hc, xo_assoc (getD_byt ha i) (getD_byt hb i) (getD_byt hc i)]
theorem nought_all {l : List Int} (h : ∀ i, i < l.length → l.getD i 0 = 0) : bits_Nought.f l = some true := by
  unfold bits_Nought.f
  rw [decide_eq_true ((tl_zero l l.length).2 h)]
theorem BitsXor : morainelaw01_BitsXor.Pure := by
  intro a b c m0 s0 w0 m1 s1 w1 m2 s2 w2
  have ha : Byt a := fun x hx => u8_bd (w0 x hx)
  have hb : Byt b := fun x hx => u8_bd (w1 x hx)
  have hc : Byt c := fun x hx => u8_bd (w2 x hx)
  refine ⟨3010, ?_⟩
  unfold morainelaw01_BitsXor.f
  rw [alive_at 3005]; simp only [Option.bind_some]; rw [if_pos trivial]
  have hj : morainelaw01_BitsXor.j0 3010 a b c true = some true := by simp [morainelaw01_BitsXor.j0]
  by_cases c1 : (a.length : Int) > 3000
  · rw [if_pos c1, hj]
  rw [if_neg c1]
  by_cases c2 : (b.length : Int) > 3000
  · rw [if_pos c2, hj]
  rw [if_neg c2]
  by_cases c3 : (c.length : Int) > 3000
  · rw [decide_eq_true c3, hj]
  rw [decide_eq_false c3]
  have hab := xorAll_byt ha hb; have hbc := xorAll_byt hb hc; have lab := xorAll_length a b; have lbc := xorAll_length b c
  have hx := xorAll_byt hab hb; have lx := xorAll_length (xorAll a b) b
  have back : ∀ i, (xorAll (xorAll a b) b).getD i 0 = a.getD i 0 := fun i => by
    rw [xorAll_get hab hb, xorAll_get ha hb, xo_xo (getD_byt ha i) (getD_byt hb i)]
  simp only [morainelaw01_BitsXor.j0]
  rw [if_neg (by simp), xor_eq ha hb (by omega) (by omega)]; simp only [Option.bind_some]
  rw [xor_eq hab hb (by omega) (by omega)]; simp only [Option.bind_some]
  rw [if_pos (by rw [lx, lab]; unfold mx; omega), if_pos (by omega), if_pos (by omega), Int.toNat_natCast]
  have et : (xorAll (xorAll a b) b).take a.length = a := by
    apply ext_getD
    · rw [List.length_take, lx, lab]; omega
    · intro i hi
      rw [List.length_take] at hi
      rw [← back i, List.getD_eq_getElem?_getD, List.getD_eq_getElem?_getD, List.getElem?_take, if_pos (by omega)]
  rw [et, same_eq _ _ (by omega) _ (by omega)]; simp only [Option.bind_some]
  rw [if_pos (by simp), nought_all (fun i hi => by
    rw [List.getD_eq_getElem?_getD, List.getElem?_drop, ← List.getD_eq_getElem?_getD, back, getD_out (by omega)])]
  simp only [Option.bind_some, Bool.not_true]
  simp only [morainelaw01_BitsXor.j1]
  rw [if_neg (by simp), xor_eq hb ha (by omega) (by omega)]; simp only [Option.bind_some]
  rw [xorAll_comm hb ha, same_eq _ _ (by omega) _ (by omega)]; simp only [Option.bind_some]
  rw [if_pos (by simp), xor_eq hab hc (by omega) (by omega)]; simp only [Option.bind_some]
  rw [xor_eq hb hc (by omega) (by omega)]; simp only [Option.bind_some]
  rw [xor_eq ha hbc (by omega) (by omega)]; simp only [Option.bind_some]
  rw [xorAll_assoc ha hb hc, same_eq _ _ (by rw [xorAll_length]; omega) _ (by rw [xorAll_length]; omega)]; simp only [Option.bind_some]
  rw [if_pos (by simp), xor_eq ha ha (by omega) (by omega)]; simp only [Option.bind_some]
  rw [nought_all (fun i _ => by rw [xorAll_get ha ha, xo_self (getD_byt ha i)])]
  simp
end Go.Proofs.YtpdfkhglgamhiaaDoor.Pure
