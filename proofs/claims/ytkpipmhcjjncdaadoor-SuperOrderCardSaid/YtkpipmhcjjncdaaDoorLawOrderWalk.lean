/- The walk of SuperOrder: by hand. -/
import Derived.Test.YtkpipmhcjjncdaaDoorGivNewestC
import Derived.Maps.AppendAt
namespace Go.Proofs.YtkpipmhcjjncdaaDoor.OrderWalk
open Go.RowKit Go.Proofs.YtkpipmhcjjncdaaDoorW.PrintWords Go.Proofs.YtkpipmhcjjncdaaDoorW.PrintLast Go.Proofs.YtkpipmhcjjncdaaDoorW.PrintMore Go.Proofs.YtkpipmhcjjncdaaDoor.Base Go.Proofs.YtkpipmhcjjncdaaDoor.Pure Go.Proofs.YtkpipmhcjjncdaaDoor.Given
set_option linter.unusedVariables false
set_option linter.unusedSimpArgs false
theorem eqA23 (d : Nat) (w : World) (x0 y0 : Int) :
    (Op.equalIn (d + 2) 23 (.agg #[.int .i64 x0]) (.agg #[.int .i64 y0])).run Tryd.prog w = .ok (x0 == y0) w := by
  refine eqA_of Tryd.underlying23 (by kernel_rfl) ?_
  exact eqf_last (by rfl) (by go_simp; rfl) (by go_simp; rfl) (by go_simp)
theorem infoR : (Tryd.prog.info? 27).map (fun i => (i.zero, i.size, i.bytes)) = some (some (.slice none 0 0), 1, 24) := by kernel_rfl
theorem infoB : (Tryd.prog.info? 5).map (fun i => (i.zero, i.size, i.bytes)) = some (some (.int .u8 0), 1, 1) := by kernel_rfl
theorem addr_block (a : Addr) (k : Nat) : (a.add k).block = a.block := by unfold Addr.add; split <;> rfl
theorem cell_block {w w1 : World} {p : Addr} (h : w1.heap[p.block]? = w.heap[p.block]?) : w1.cell? p = w.cell? p := by unfold World.cell?; rw [h]
theorem C_grown {w w1 : World} {A : Option Addr} {n : Nat} {xs : List Int} {row : Option Nat} (h : Kd.C (Kd.int .u8) w A n xs) (hg : w.grownBy w1 row) (hne : ∀ a, A = some a → 0 < n → a.block < w.heap.size ∧ some a.block ≠ row) : Kd.C (Kd.int .u8) w1 A n xs := by
  refine ⟨h.1, h.2.1, fun hn => ?_⟩
  obtain ⟨ad, e, hc⟩ := h.2.2 hn
  refine ⟨ad, e, fun j p hj => ?_⟩
  obtain ⟨c, hs, hr, hcell⟩ := hc j p hj
  obtain ⟨h1, h2⟩ := hne ad e hn
  refine ⟨c, hs, hr, fun i u hu => ?_⟩
  rw [← hcell i u hu]
  exact cell_block (by rw [addr_block]; exact hg.block _ h1 h2)
/-- A slice of bytes that lies in no row of the call's own. -/
def El (w : World) (ob : Option Nat) (u : Value) (r : List Int) : Prop := ∃ A c, u = .slice A r.length c ∧ r.length ≤ c ∧ Kd.C (Kd.int .u8) w A r.length r ∧ ∀ a, A = some a → 0 < r.length → a.block < w.heap.size ∧ some a.block ≠ ob
def El1 (w : World) (ob : Option Nat) (r : List Int) (cs : List Value) : Prop := ∃ u, cs = [u] ∧ El w ob u r
theorem El1.step {w w1 : World} {ob ob1 : Option Nat} {r : List Int} {cs : List Value} (h : El1 w ob r cs) (hg : w.grownBy w1 ob) (hat : ob1 = ob ∨ ∃ b, ob1 = some b ∧ w.heap.size ≤ b) : El1 w1 ob1 r cs := by
  obtain ⟨u, rfl, A, c, rfl, hc, hC, hb⟩ := h
  refine ⟨_, rfl, A, c, rfl, hc, C_grown hC hg hb, fun a e h0 => ?_⟩
  obtain ⟨h1, h2⟩ := hb a e h0
  refine ⟨Nat.lt_of_lt_of_le h1 hg.size, ?_⟩
  rcases hat with rfl | ⟨b, rfl, hb⟩
  · exact h2
  · intro e; cases e; omega
theorem El1.new {w w1 : World} {ob : Option Nat} {r : List Int} {cs : List Value} (h : El1 w ob r cs) (hg : w.grownBy w1 none) : El1 w1 ob r cs := by
  obtain ⟨u, rfl, A, c, rfl, hc, hC, hb⟩ := h
  exact ⟨_, rfl, A, c, rfl, hc, C_grown hC hg (fun a e h0 => ⟨(hb a e h0).1, by simp⟩), fun a e h0 => ⟨Nat.lt_of_lt_of_le (hb a e h0).1 hg.size, (hb a e h0).2⟩⟩
theorem own_or (x : Option Nat) : x = none ∨ x ≠ none := by cases x <;> simp
theorem own_lt_ {α : Type} {R : α → List Value → Prop} {e : TypeId} {size : Nat} {w : World} {base : Nat} {v : Value} {ps : List α} (h : OwnRow R e size w base v ps) : ∀ q, v.ownBlock = some q → q < w.heap.size := by
  intro q hq
  obtain ⟨inner, hown, _⟩ := h
  rcases hown.2 with ⟨rfl, _⟩ | ⟨g, cap, cur, rfl, _, hh, _⟩
  · simp [Value.ownBlock] at hq
  · obtain rfl : g = q := by simpa [Value.ownBlock] using hq
    exact (Array.getElem?_eq_some_iff.1 hh).1
theorem el_new {w18 w19 : World} {ob : Option Nat} {A : Option Addr} {c base : Nat} {e : TypeId} {ok : Nat → Prop} (hR : Kd.R (Kd.int .u8) e w19 base ok (.slice A 64 c) (List.replicate 64 0)) (hn : ∃ b, (Value.slice A 64 c).ownBlock = some b ∧ w18.heap.size ≤ b) (hlt : ∀ q, ob = some q → q < w18.heap.size) : El1 w19 ob (List.replicate 64 0) [.slice A 64 c] := by
  obtain ⟨b, hb, hge⟩ := hn
  refine ⟨_, rfl, A, c, by rw [List.length_replicate], by rw [List.length_replicate]; exact (Kd.R_reads' hR).2.1, (Kd.R_reads' hR).2.2, fun a e _ => ?_⟩
  subst e
  obtain rfl : a.block = b := by simpa [Value.ownBlock] using hb
  refine ⟨Kd.R_lt hR _ hb, fun e => ?_⟩
  have := hlt _ e.symm
  omega
theorem el_nil (w : World) (ob : Option Nat) : El1 w ob [] [.slice none 0 0] := ⟨_, rfl, none, 0, rfl, Nat.le_refl _, ⟨rfl, by decide, fun h => absurd h (by decide)⟩, fun a e => by cases e⟩
theorem El1.K {w : World} {ob : Option Nat} {r : List Int} {cs : List Value} (h : El1 w ob r cs) : (Kd.slice 5 (Kd.int .u8)).K w r cs := by
  obtain ⟨u, rfl, A, c, rfl, hc, hC, _⟩ := h
  exact ⟨A, c, rfl, hc, hC⟩
section
variable {P : Program} {ops : Array Oper} {rest : List Oper} {o : Oper} {a : Act} {Q : Exit → Act → World → Prop} {α : Type} {R : α → List Value → Prop}
theorem own_append2 {w0 W : World} (base : Nat) (hgd : o.guard = none) (s x : Operand) (t e : TypeId) (z : Value) (bytes : Nat)
    (ho : o.op = .call { callee := .builtin .append, args := #[s, x], argTypes := #[t, t] })
    (ht : P.underlying t = some (.slice e)) (hinfo : (P.info? e).map (fun i => (i.zero, i.size, i.bytes)) = some (some z, 1, bytes)) (hz : z.cells.size = 1) (hb0 : 0 < bytes)
    (v : Value) (ps : List α) (p q : α) (u1 u2 : Value) (hs : a.eval s = v) (hx : a.eval x = .slice (some ⟨W.heap.size, 0, none⟩) 2 2) (hp : R p [u1]) (hq : R q [u2]) (h1 : ∀ u ∈ [u1, u2], u.oneCell' = true)
    (HO : OwnRow R e 1 W base v ps) (HB : Below base w0 W) (hbase : base ≤ W.heap.size) (hl : (ps.length + 2) * bytes ≤ 140737488355328)
    (h : ∀ v1 w1, OwnRow R e 1 w1 base v1 (ps ++ [p, q]) → Below base w0 w1 → W.grownBy w1 v.ownBlock → (v1.ownBlock = v.ownBlock ∨ ∃ b, v1.ownBlock = some b ∧ W.heap.size ≤ b) → wpList P ops Q rest (a.put o.dst v1) w1) :
    wpList P ops Q (o :: rest) a (W.alloc (.cells #[u1, u2] e)) := by
  obtain ⟨inner, hown, hr⟩ := HO
  obtain ⟨i0, hi, hzz⟩ := Option.map_eq_some_iff.1 hinfo
  simp only [Prod.mk.injEq] at hzz
  obtain ⟨hz0, hz1, hz2⟩ := hzz
  have hlen : ps.length + 2 ≤ 140737488355328 := Nat.le_trans (Nat.le_mul_of_pos_right _ hb0) hl
  refine wpList_append_own_at (W.alloc (.cells #[u1, u2] e)) hgd s x t ho base e i0 z 1 bytes ht hi hz0 hz1 hz2 hz (by decide) v ps.length inner hs (hown.alloc _) ⟨W.heap.size, 0, none⟩ 2 2 [u1, u2] hx rfl
    (by simpa using World.news_of_block (cs := #[u1, u2]) (t := e) (fr := (0, 0)) (heap_alloc_new W (.cells #[u1, u2] e))) h1 (by simp only [maxLen]; omega) hl (by simp; omega) ?_
  intro v1 w1 hown1 hg _ hat
  refine h v1 w1 ⟨inner ++ [u1, u2], by rw [List.length_append]; exact hown1, ?_⟩ ((HB.alloc hbase _).grown hg (by simp; omega) (own_base hown)) (World.grownBy.trans (World.grownBy_alloc W _ _) hg) ?_
  · have := (hr.snoc hp rfl).snoc hq rfl
    simpa using this
  · rcases hat with hat | hat
    · exact .inl hat
    · exact .inr ⟨_, hat, by simp⟩
end
/-- What the law lays behind one another, from the place i on. -/
def bkF (at_ : Int) : Nat → List (List Int) → List (List Int)
  | _, [] => []
  | i, b :: r => bkF at_ (i + 1) r ++ [b] ++ if (i : Int) = at_ then [[], List.replicate 64 0] else []
theorem bkF_len (at_ : Int) : ∀ (l : List (List Int)) (i : Nat), (bkF at_ i l).length ≤ 3 * l.length
  | [], _ => by simp [bkF]
  | b :: r, i => by
    have := bkF_len at_ r (i + 1)
    simp only [bkF, List.length_append, List.length_cons, List.length_nil]
    split <;> simp <;> omega
theorem fieldA (x y z : Int) (w : World) : (Instr.field 25 (.agg #[.int .i64 x, .int .i64 y, .int .i64 z]) 0).run Tryd.prog w = .ok (.int .i64 x) w := by kernel_rfl
attribute [local go_sem high] eqA23 fieldA
set_option maxHeartbeats 1000000 in
theorem big (K : Nat) (A : Option Addr) (c : Nat) (l : List (List Int)) (at_ r : Int) (w : World) (hC : Kd.C (Kd.slice 5 (Kd.int .u8)) w A l.length l) (hc : l.length ≤ c) (ha : morainelaw05_alive.f K = some true) (hr : moraineref00_Weigh.f K l 10000 = some r) (h : 10000 < r) :
    Calls Tryd.prog 8 #[.slice A l.length c, .int .i64 at_] w fun e w' => e = .returned (.bool true) ∧ Below w.heap.size w w' := by
  have HC := Lib.hid hC
  have HA := Lib.hid ha
  have HR := Lib.hid hr
  have h1 : decide ((10000 : Int) < r) = true := decide_eq_true h
  clear hC ha hr
  go_enter Tryd.func8, Tryd.ntmps8
  go_wp2_with (first | (go_at_call 9; refine (morainelaw05_alive.calls K true _ HA.out).mono ?_; rintro e w1 ⟨rfl, hB⟩; have HB1 := Lib.hid hB; clear hB) | (go_at_call 24; refine (moraineref00_Weigh.calls K A c l 10000 r _ (Kd.C_below HC.out HB1.out) hc HR.out).mono ?_; rintro e w2 ⟨rfl, ⟨nd, rfl⟩⟩))
  go_ret
  exact ⟨rfl, pw_below_drewN HB1.out _⟩
set_option maxHeartbeats 4000000 in
set_option maxRecDepth 100000 in
theorem few (K : Nat) (A : Option Addr) (c : Nat) (l : List (List Int)) (at_ r m e1 e2 e3 f2 f3 : Int) (w : World) (hC : Kd.C (Kd.slice 5 (Kd.int .u8)) w A l.length l) (hc : l.length ≤ c) (ha : morainelaw05_alive.f K = some true) (hr : moraineref00_Weigh.f K l 10000 = some r) (h : ¬ 10000 < r) (hl : l.length ≤ 10000)
    (hm : super_NewestMark.f l = some m) (hm2 : super_NewestMark.f (bkF at_ 0 l) = some m) (he : super_NewestMember.f l = some (e1, e2, e3)) (he2 : super_NewestMember.f (bkF at_ 0 l) = some (e1, f2, f3)) :
    Calls Tryd.prog 8 #[.slice A l.length c, .int .i64 at_] w fun e w' => e = .returned (.bool true) ∧ Below w.heap.size w w' := by
  have HC := Lib.hid hC
  have HA := Lib.hid ha
  have HR := Lib.hid hr
  have HM := Lib.hid hm
  have HM2 := Lib.hid hm2
  have HE := Lib.hid he
  have HE2 := Lib.hid he2
  have h1 : decide ((10000 : Int) < r) = false := decide_eq_false h
  have h2 : r ≤ 10000 := by omega
  have hl2 : (l.length : Int) ≤ 10000 := by omega
  have hu25 := Tryd.underlying25
  clear hC ha hr hm hm2 he he2 h
  go_enter Tryd.func8, Tryd.ntmps8
  go_wp2_with (first | (go_at_call 9; refine (morainelaw05_alive.calls K true _ HA.out).mono ?_; rintro e w1 ⟨rfl, hB⟩; have HB1 := Lib.hid hB; clear hB) | (go_at_call 24; refine (moraineref00_Weigh.calls K A c l 10000 r _ (Kd.C_below HC.out HB1.out) hc HR.out).mono ?_; rintro e w2 ⟨rfl, ⟨nd, rfl⟩⟩) | ((with_reducible refine gate_dst (N := 12) rfl ?_); refine Kd.R_lit (Kd.slice 5 (Kd.int .u8)) (w0 := w) w.heap.size 27 ?hg (N := 12) ?hd (xs := ([] : List (List Int))) (inner := []) (ok := fun _ => True) (okp := fun _ => True) ?hr ?hp (fun _ hk => hk) trivial (pw_below_drewN HB1.out _) (by have := HB1.out.size; simpa using this) (by simp) ?_; (case hd => rfl); (case hg => rfl); (case hr => first | (go_simp; done) | (go_simp; rfl)); (case hp => exact (Reps.none _ _)); intro v5 w3 hR5 hB3 hg3 _))
  have HO5 : Hid (OwnRow (El1 w3 v5.ownBlock) 27 1 w3 w.heap.size v5 []) := by
    obtain ⟨_, inner, h1, h2⟩ := hR5
    refine ⟨inner, h1, ?_⟩
    obtain rfl : inner = [] := List.eq_nil_of_length_eq_zero h2.1
    exact Reps.none _ _
  have HB3 := Lib.hid hB3
  clear hR5 hB3 hg3
  go_loopw [5, 6] (fun v5 i wr => ∃ (j : Nat) (z : Int), j ≤ l.length ∧ i = .int .i64 z ∧ z = (j : Int) - 1 ∧ Hid (OwnRow (El1 wr v5.ownBlock) 27 1 wr w.heap.size v5 (bkF at_ j (l.drop j))) ∧ Hid (Below w.heap.size w wr)) (fun _ i _ => ((intOf i) + 1).toNat)
  case atStart => exact ⟨l.length, _, Nat.le_refl _, rfl, rfl, by rw [List.drop_length]; exact HO5, HB3⟩
  case round =>
    obtain ⟨j, z, hj, rfl, hz, HO, HB⟩ := hrel
    rcases Nat.eq_zero_or_pos j with h0 | h0
    · obtain rfl : z = -1 := by omega
      subst h0
      rw [List.drop_zero] at HO
      clear hz
      obtain ⟨A5, c5, h5, hc5, hC5⟩ := (HO.out.imp_ (R' := (Kd.slice 5 (Kd.int .u8)).K wr) (fun p cs h => h.K)).reads
      obtain ⟨n5, hn5⟩ : ∃ n, (bkF at_ 0 l).length = n := ⟨_, rfl⟩
      subst h5
      have HC5 : Hid (Kd.C (Kd.slice 5 (Kd.int .u8)) wr A5 (bkF at_ 0 l).length (bkF at_ 0 l)) := hC5
      clear HO hC5 hn5
      go_wp2_with fail
      refine (super_NewestMark.calls A c l m _ (Kd.C_below HC.out HB.out) hc HM.out).mono ?_
      rintro e w4 ⟨rfl, hB4⟩
      have HB4 := Lib.hid hB4
      clear hB4
      go_wp2_with fail
      refine (super_NewestMark.calls A5 c5 (bkF at_ 0 l) m _ (Kd.C_below HC5.out HB4.out) hc5 HM2.out).mono ?_
      rintro e w5 ⟨rfl, hB5⟩
      have HB5 := Lib.hid (below_step HB4.out hB5)
      clear hB5 HB4
      go_wp2_with fail
      refine (super_NewestMember.calls A c l e1 e2 e3 _ (Kd.C_below HC.out (below_step HB.out HB5.out)) hc HE.out).mono ?_
      rintro e w6 ⟨rfl, hB6⟩
      have HB6 := Lib.hid (below_step HB5.out hB6)
      clear hB6 HB5
      go_wp2_with fail
      refine (super_NewestMember.calls A5 c5 (bkF at_ 0 l) e1 f2 f3 _ (Kd.C_below HC5.out HB6.out) hc5 HE2.out).mono ?_
      rintro e w7 ⟨rfl, hB7⟩
      have HB7 := Lib.hid (below_step HB6.out hB7)
      clear hB7 HB6
      go_wp2
      go_ret
      exact ⟨rfl, below_step HB.out HB7.out⟩
    · obtain ⟨k, rfl⟩ : ∃ k, j = k + 1 := ⟨j - 1, by omega⟩
      obtain rfl : z = (k : Int) := by omega
      clear hz h0
      have hkl : (k : Int) < (l.length : Int) := by omega
      have hkl2 : k < l.length := by omega
      obtain ⟨ad, A0, c0, rfl, hcell0, hl0, hC0⟩ := at_L2 HC.out (k : Int) (by omega) hkl
      obtain ⟨b, hb⟩ : ∃ b, rd_L2 l (k : Int) = b := ⟨_, rfl⟩
      have hb' : l[k]'hkl2 = b := by rw [← hb]; simp [rd_L2, hkl2]
      rw [hb] at hcell0 hl0 hC0
      rw [Int.toNat_natCast] at hcell0
      have hcell := pw_cell_below HB.out hcell0
      have hDR : l.drop k = b :: l.drop (k + 1) := by rw [← hb']; exact List.drop_eq_getElem_cons hkl2
      have HBK : Hid (bkF at_ k (l.drop k) = bkF at_ (k + 1) (l.drop (k + 1)) ++ [b] ++ if (k : Int) = at_ then [[], List.replicate 64 0] else []) := by show _ = _; rw [hDR]; rfl
      have hlen : Hid ((bkF at_ (k + 1) (l.drop (k + 1))).length ≤ 30000) := by
        have := bkF_len at_ (l.drop (k + 1)) (k + 1)
        rw [List.length_drop] at this
        show _ ≤ _
        omega
      have HEL : Hid (El1 wr u5.ownBlock b [.slice A0 b.length c0]) := by
        refine ⟨_, rfl, A0, c0, rfl, hl0, Kd.C_below hC0 HB.out, fun a e h0 => ?_⟩
        have hlt : a.block < w.heap.size := by
          obtain ⟨ad, e', hc⟩ := hC0.2.2 h0
          obtain rfl : a = ad := by rw [e] at e'; exact Option.some.inj e'
          obtain ⟨cs, hs, hr, hcell⟩ := hc 0 _ (List.getElem?_eq_getElem h0)
          have h1 : 0 < cs.length := by rw [hs]; decide
          have := World.block_lt_of_cell? w _ (hcell 0 _ (List.getElem?_eq_getElem h1))
          rwa [addr_block] at this
        refine ⟨Nat.lt_of_lt_of_le hlt HB.out.size, fun e => ?_⟩
        obtain ⟨inner, hown, _⟩ := HO.out
        have := own_base hown _ e.symm
        omega
      clear hb hb' hcell0 hDR
      by_cases hat : (k : Int) = at_
      · have hab : ((k : Int) == at_) = true := beq_iff_eq.2 hat
        have HAT := Lib.hid hat
        clear hat
        go_wp2_with (first | ((with_reducible refine gate_builtin (b := .append) (xs := #[.tmp 20, .tmp 25]) rfl ?_); at_builtin; refine OwnRow.append (R := El1 wr u5.ownBlock) (w0 := w) w.heap.size rfl (.tmp 20) (.tmp 25) 47 27 (.slice none 0 0) 1 24 rfl Tryd.underlying47 infoR rfl (by decide) (by omega) u5 (bkF at_ (k + 1) (l.drop (k + 1))) b [.slice A0 b.length c0] rfl rfl HEL.out rfl (by simp [Value.oneCell']) HO.out HB.out HB.out.size (by have := hlen.out; omega) ?_; intro v18 w18 ho hb hg hat; have HO18 : Hid (OwnRow (El1 w18 v18.ownBlock) 27 1 w18 w.heap.size v18 (bkF at_ (k + 1) (l.drop (k + 1)) ++ [b])) := Lib.hid (ho.imp_ (fun p cs h => h.step hg hat)); have HB18 := Lib.hid hb; clear ho hb hg hat) | ((with_reducible refine gate_dst (N := 31) rfl ?_); refine Kd.R_make (Kd.int .u8) (w0 := w18) w18.heap.size 5 rfl (N := 31) rfl 27 (.const (.int .i64 64)) (.const (.int .i64 64)) rfl (64 : Int) rfl rfl Tryd.underlying27 (.int .u8 0) 1 infoB rfl (by decide) (by decide) 0 (ok := fun _ => True) (okp := fun _ => True) rfl (fun _ h => h) trivial (by decide) (by decide) (Below.refl _ _) (Nat.le_refl _) ?_; intro v31 w19 hR31 hB19 hg19 hn31; have HO19 : Hid (OwnRow (El1 w19 v18.ownBlock) 27 1 w19 w.heap.size v18 (bkF at_ (k + 1) (l.drop (k + 1)) ++ [b])) := Lib.hid ((HO18.out.other hg19 (own_or _)).imp_ (fun p cs h => h.new hg19)); have HB19 := Lib.hid (below_step HB18.out hB19); have hlt18 : ∀ q, v18.ownBlock = some q → q < w18.heap.size := own_lt_ HO18.out; obtain ⟨A31, c31, h31⟩ := Kd.R_slice hR31; have hz64 : Int.toNat 64 = 64 := rfl; rw [hz64, List.length_replicate] at h31; subst h31; have HE31 : Hid (El1 w19 v18.ownBlock (List.replicate 64 0) [.slice A31 64 c31]) := el_new hR31 hn31 hlt18; clear hlt18; clear hR31 hB19 hg19 hn31 HO18 HB18) | ((with_reducible refine gate_builtin (b := .append) (xs := #[.tmp 30, .tmp 32]) rfl ?_); at_builtin; go_loud (refine own_append2 (R := El1 w19 v18.ownBlock) (w0 := w) w.heap.size rfl (.tmp 30) (.tmp 32) 47 27 (.slice none 0 0) 24 rfl Tryd.underlying47 infoR rfl (by decide) v18 (bkF at_ (k + 1) (l.drop (k + 1)) ++ [b]) [] (List.replicate 64 0) (.slice none 0 0) (.slice A31 64 c31) rfl rfl (el_nil _ _) HE31.out (by simp [Value.oneCell']) HO19.out HB19.out HB19.out.size (by have := hlen.out; rw [List.length_append, List.length_singleton]; omega) ?_); intro v20 w20 ho hb hg hat))
        go_roundw
        case rel => exact ⟨k, _, by omega, rfl, rfl, by rw [HBK.out, if_pos HAT.out]; exact Lib.hid (ho.imp_ (fun p cs h => h.step hg hat)), Lib.hid hb⟩
        case measure => simp [intOf]
      · have hab : ((k : Int) == at_) = false := beq_eq_false_iff_ne.2 hat
        have HAT := Lib.hid hat
        clear hat
        go_wp2_with ((with_reducible refine gate_builtin (b := .append) (xs := #[.tmp 20, .tmp 25]) rfl ?_); at_builtin; go_loud (refine OwnRow.append (R := El1 wr u5.ownBlock) (w0 := w) w.heap.size rfl (.tmp 20) (.tmp 25) 47 27 (.slice none 0 0) 1 24 rfl Tryd.underlying47 infoR rfl (by decide) (by omega) u5 (bkF at_ (k + 1) (l.drop (k + 1))) b [.slice A0 b.length c0] rfl rfl HEL.out rfl (by simp [Value.oneCell']) HO.out HB.out HB.out.size (by have := hlen.out; omega) ?_); intro v18 w18 ho hb hg hat)
        go_roundw
        case rel => exact ⟨k, _, by omega, rfl, rfl, by rw [HBK.out, if_neg HAT.out, List.append_nil]; exact Lib.hid (ho.imp_ (fun p cs h => h.step hg hat)), Lib.hid hb⟩
        case measure => simp [intOf]
end Go.Proofs.YtkpipmhcjjncdaaDoor.OrderWalk
namespace Go.Proofs.YtkpipmhcjjncdaaDoor.PSuperOrder
open Go.RowKit Go.Proofs.YtkpipmhcjjncdaaDoorW.PrintWords Go.Proofs.YtkpipmhcjjncdaaDoorW.PrintLast Go.Proofs.YtkpipmhcjjncdaaDoorW.PrintMore Go.Proofs.YtkpipmhcjjncdaaDoor.Base Go.Proofs.YtkpipmhcjjncdaaDoor.Pure Go.Proofs.YtkpipmhcjjncdaaDoor.Given Go.Proofs.YtkpipmhcjjncdaaDoor.OrderWalk
set_option linter.unusedVariables false
/-- What the law's walk asks. -/
def Ok (l : List (List Int)) (at_ : Int) : Prop :=
  ∃ (K : Nat) (r : Int), morainelaw05_alive.f K = some true ∧ moraineref00_Weigh.f K l 10000 = some r ∧ (10000 < r ∨ (¬ 10000 < r ∧ l.length ≤ 10000 ∧ ∃ m e1 e2 e3 f2 f3 : Int, super_NewestMark.f l = some m ∧ super_NewestMark.f (bkF at_ 0 l) = some m ∧ super_NewestMember.f l = some (e1, e2, e3) ∧ super_NewestMember.f (bkF at_ 0 l) = some (e1, f2, f3)))
noncomputable def morainelaw05_SuperOrder.f (l : List (List Int)) (at_ : Int) : Option Bool := open Classical in if Ok l at_ then some true else none
theorem morainelaw05_SuperOrder.calls (A : Option Addr) (c : Nat) (l : List (List Int)) (at_ : Int) (b : Bool) (w : World) (hC : Kd.C (Kd.slice 5 (Kd.int .u8)) w A l.length l) (hc : l.length ≤ c) (h : morainelaw05_SuperOrder.f l at_ = some b) :
    Calls Tryd.prog 8 #[.slice A l.length c, .int .i64 at_] w fun e w' => e = .returned (.bool b) ∧ Below w.heap.size w w' := by
  unfold morainelaw05_SuperOrder.f at h
  split at h
  · rename_i hok
    cases h
    obtain ⟨K, r, h1, h2, h3 | ⟨h3, h4, m, e1, e2, e3, f2, f3, k1, k2, k3, k4⟩⟩ := hok
    · exact big K A c l at_ r w hC hc h1 h2 h3
    · exact few K A c l at_ r m e1 e2 e3 f2 f3 w hC hc h1 h2 h3 h4 k1 k2 k3 k4
  · cases h
end Go.Proofs.YtkpipmhcjjncdaaDoor.PSuperOrder
