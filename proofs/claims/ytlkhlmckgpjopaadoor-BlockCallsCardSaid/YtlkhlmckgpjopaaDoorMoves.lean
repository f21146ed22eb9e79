/- Moves: GivMove, GivMove2. -/
import Derived.Test.YtlkhlmckgpjopaaDoorGivCut
import Derived.Deep.RegionHeld3
import Derived.Deep.QuietTactic
import Derived.BigQuiet
/- block.Map.Move: a store at a key that is there, while a walk over the map is under way; by hand. -/
namespace Go.Proofs.YtlkhlmckgpjopaaDoor.Given
open Go.RowKit Go.Maps Go.Sort Go.Shelf Go.ChangeMaps Go.MapKept Go.WideShapes Go.Proofs.YtlkhlmckgpjopaaDoorW.PrintWords Go.Proofs.YtlkhlmckgpjopaaDoorW.PrintLast Go.Proofs.YtlkhlmckgpjopaaDoorW.PrintMore Go.Proofs.YtlkhlmckgpjopaaDoor.Base
open Go.WideElems (Fit rd_key rd_val rg_of rd_mk)
set_option linter.unusedVariables false
set_option linter.unusedSimpArgs false
theorem set_block_inj {w : World} {b : Nat} {es : Array MapEntry} {clock : Nat} {o1 o2 : Obj} (hb : w.heap[b]? = some (.map es clock)) (h : setBlock w b o1 = setBlock w b o2) : o1 = o2 := by
  have h1 := heap_setBlock_same hb o1
  have h2 := heap_setBlock_same hb o2
  rw [h, h2] at h1
  exact (Option.some.inj h1).symm
/-- 'm[k] = v' in the round, at a key that is there. -/
theorem ranges_turn {P : Program} {k : TypeId} {w : World} {b r n : Nat} {D : DataW Value} {left : Lit → Bool} {cnt : Nat} {t e : TypeId} (h : w.ranges P k tokR b r n D left cnt) (K : Keyed P k) (ht : P.underlying t = some (.map k e)) (hn : n < maxLen) {key val : Value} {kl : Lit}
    (hkey : keyOf P k key = some kl) (hhas : has D kl = true) : ∃ w', (Instr.mapUpdate t (.map (some b)) key val).run P w = .ok () w' ∧ w'.ranges P k tokR b r n (D.put kl (tok val)) left cnt ∧ w.grownBy w' (some b) := by
  have hne := h.ne
  obtain ⟨es, clock, since, seen, c0, hb, F, hs, rfl, hr, hold, rfl, hl1, hl2, hsc, hsk⟩ := h
  obtain ⟨es', clock', hrun, F', hput, _⟩ := Maps.fit_store (R' := tokR) K ht hb F (Nat.lt_of_le_of_lt hs hn) (fun _ _ _ _ hz => hz) hkey (show tokR val = some (tok val, []) from rfl)
  rcases K.find w hkey es.toList F.keys with ⟨h1, h2⟩ | ⟨j, e0, h1, h2, h3⟩
  · exfalso
    obtain ⟨p, hp, hpk⟩ := List.any_eq_true.1 hhas
    obtain ⟨x, hx, rfl⟩ := List.mem_map.1 (mem_sorted.1 hp)
    obtain ⟨y, hy⟩ := F.reads x hx
    have hk := rd_key hy
    rw [rg_of hy] at hpk
    rw [WideAt.sameKey_eq hpk] at hk
    exact h2 x hx (K.inj hk hkey)
  · have hj : es[j]? = some e0 := by simpa using h2
    have hrun2 : (Instr.mapUpdate t (.map (some b)) key val).run P w = .ok () (setBlock w b (.map (es.modify j (fun e' => { e' with key := key, val := val })) clock)) := by
      simp [Instr.mapUpdate, run_underlying ht, MapKept.run_getObj_map hb, K.check w false hkey, h1, hj, h3, K.stays w hkey, MapKept.run_setObj_map _ hb, Result.andThen, setBlock]
    have heq : Obj.map es' clock' = Obj.map (es.modify j (fun e' => { e' with key := key, val := val })) clock := by
      rw [hrun] at hrun2
      exact set_block_inj hb (by injection hrun2)
    injection heq with he hc
    subst he
    subst hc
    have hlist : (es.modify j (fun e' => { e' with key := key, val := val })).toList = es.toList.set j { e0 with key := key, val := val } := by rw [Array.toList_modify, modify_eq_set _ _ _ _ h2]
    have hjl : j < es.toList.length := (List.getElem?_eq_some_iff.1 h2).1
    have hborn : (es.modify j (fun e' => { e' with key := key, val := val })).toList.map (·.born) = es.toList.map (·.born) := by
      rw [hlist, List.map_set]
      refine List.ext_getElem? fun i => ?_
      by_cases e : j = i
      · subst e
        rw [List.getElem?_set_self (by simpa using hjl), List.getElem?_map, h2]
        rfl
      · rw [List.getElem?_set_ne e]
    have hg0 : (Go.WideElems.rg P k tokR e0).1 = kl := by
      obtain ⟨y, hy⟩ := F.reads e0 (List.mem_of_getElem? h2)
      have := rd_key hy
      rw [h3, hkey] at this
      rw [rg_of hy]
      exact (Option.some.inj this).symm
    have hg1 : (Go.WideElems.rg P k tokR { e0 with key := key, val := val }).1 = kl := by
      have : Go.WideElems.rd P k tokR { e0 with key := key, val := val } = some (kl, tok val) := rd_mk (yv := (tok val, [])) hkey rfl
      rw [rg_of this]
    have who : ∀ x ∈ es.toList.set j { e0 with key := key, val := val }, x = { e0 with key := key, val := val } ∨ x ∈ es.toList := fun x hx => (List.mem_or_eq_of_mem_set hx).symm
    refine ⟨_, hrun, ⟨es.modify j (fun e' => { e' with key := key, val := val }), clock', since, seen, c0, heap_setBlock_same hb _, F', by simpa using hs, by rw [DataW.put_eq, hput], (heap_setBlock_other hb _ hne).trans hr, ?_, ?_, ?_, ?_, hsc, hsk⟩, ⟨rfl, rfl, rfl, by simp [setBlock], fun i _ hi => heap_setBlock_other hb _ (fun e => hi (by rw [e]))⟩⟩
    · intro x hx
      rw [hlist] at hx
      rcases who x hx with rfl | hx
      · exact hold e0 (List.mem_of_getElem? h2)
      · exact hold x hx
    · have e1 : ∀ a : Array MapEntry, (leftOf a seen).size = ((a.toList.map (·.born)).filter fun q => !seen.contains q).length := fun a => by
        unfold leftOf
        rw [← Array.length_toList, Array.toList_filter, List.filter_map, List.length_map]
        rfl
      rw [e1, e1, hborn]
    · intro x hx
      rw [hlist] at hx
      rcases who x hx with rfl | hx
      · rw [hg1, ← hg0]; exact hl1 e0 (List.mem_of_getElem? h2)
      · exact hl1 x hx
    · intro x0 hx0
      obtain ⟨x, hx, rfl⟩ := hl2 x0 hx0
      rw [hlist]
      obtain ⟨i, hi⟩ := List.getElem?_of_mem hx
      by_cases e : i = j
      · subst e
        rw [h2] at hi
        cases hi
        exact ⟨_, List.mem_of_getElem? (by rw [List.getElem?_set_self hjl]), hg1.trans hg0.symm⟩
      · exact ⟨x, List.mem_of_getElem? (by rw [List.getElem?_set_ne (fun q => e q.symm)]; exact hi), rfl⟩
section
variable {P : Program} (w : World) {ops : Array Oper} {rest : List Oper} {o : Oper} {a : Act} {Q : Exit → Act → World → Prop}
theorem wp_turn (hg : o.guard = none) (m x v : Operand) (t : TypeId) (hop : o.op = Op.mapUpdate t m x v) (k e : TypeId) (K : Keyed P k) (ht : P.underlying t = some (.map k e)) (b r n : Nat) (D : DataW Value) (left : Lit → Bool) (cnt : Nat) (f : Int → Option Value)
    (hm : a.eval m = .map (some b)) (h : w.ranges P k tokR b r n D left cnt) (H : Holds D f) (hn : n < maxLen) (i : Int) (u : Value) (hi : (f i).isSome = true) (hx : a.eval x = .int .i64 i) (hv : a.eval v = u) (hkey : keyOf P k (.int .i64 i) = some (.int .i64 i))
    (hK : ∀ w' D', w'.ranges P k tokR b r n D' left cnt → Holds D' (fun j => if j = i then some u else f j) → w.grownBy w' (some b) → wpList P ops Q rest (a.put o.dst undef) w') :
    wpList P ops Q (o :: rest) a w := by
  refine wpList_plain hg fun K' hK' => ?_
  obtain ⟨w', hrun, r1, r2⟩ := ranges_turn h K ht hn (val := u) hkey (by rw [H.has]; exact hi)
  unfold Oper.wp
  simp [execOp, hop, hm, hx, hv, hrun, Result.andThen]
  exact hK' _ _ (hK w' _ r1 (H.put i u) r2)
end
end Go.Proofs.YtlkhlmckgpjopaaDoor.Given

/- block.Map.Move: by hand. -/
namespace Go.Proofs.YtlkhlmckgpjopaaDoor.Given
open Go.RowKit Go.Maps Go.Sort Go.Shelf Go.Proofs.YtlkhlmckgpjopaaDoorW.PrintWords Go.Proofs.YtlkhlmckgpjopaaDoorW.PrintLast Go.Proofs.YtlkhlmckgpjopaaDoorW.PrintMore Go.Proofs.YtlkhlmckgpjopaaDoor.Base
set_option linter.unusedVariables false
set_option linter.unusedSimpArgs false
/-- The addresses, one turned into another. -/
def movF (fr to_ : Int) (a : Int → Option Int) : Int → Option Int := fun k => if a k = some fr then some to_ else a k
/-- A walk that moves, under way: ss are the blocks that it has moved. -/
structure Moving (fr to_ : Int) (a a1 : Int → Option Int) (left : Lit → Bool) (ss : List Int) : Prop where
  yet : ∀ j, left (.int .i64 j) = true → a1 j = a j
  did : ∀ j, left (.int .i64 j) = false → a1 j = movF fr to_ a j
  nd : ss.Nodup
  mem : ∀ j, j ∈ ss ↔ (left (.int .i64 j) = false ∧ a j = some fr)
theorem Moving.start {D : DataW Value} {a : Int → Option Int} (H : Holds D (fun k => (a k).map (Value.int .i64))) (fr to_ : Int) : Moving fr to_ a a (has D) [] := by
  have h0 : ∀ j, has D (.int .i64 j) = false → a j = none := fun j h => by rw [H.has] at h; cases hm : a j <;> simp_all
  refine ⟨fun _ _ => rfl, fun j h => ?_, List.nodup_nil, fun j => ?_⟩
  · unfold movF; rw [h0 j h]; simp
  · constructor
    · intro h; simp at h
    · rintro ⟨h, h1⟩; rw [h0 j h] at h1; cases h1
theorem Moving.stays {fr to_ : Int} {a a1 : Int → Option Int} {left : Lit → Bool} {ss : List Int} (h : Moving fr to_ a a1 left ss) (x : Int) (hl : left (.int .i64 x) = true) (hx : a x ≠ some fr) : Moving fr to_ a a1 (fun z => left z && !z.sameKey (.int .i64 x)) ss := by
  refine ⟨fun j hj => h.yet j (by simp_all), fun j hj => ?_, h.nd, fun j => ?_⟩
  · by_cases e : j = x
    · subst e; unfold movF; rw [if_neg hx]; exact h.yet j hl
    · rw [sameI, decide_eq_false e] at hj; exact h.did j (by simpa using hj)
  · rw [h.mem j]
    by_cases e : j = x
    · subst e; exact ⟨fun q => absurd q.2 hx, fun q => absurd q.2 hx⟩
    · rw [sameI, decide_eq_false e]; simp
theorem Moving.moves {fr to_ : Int} {a a1 : Int → Option Int} {left : Lit → Bool} {ss : List Int} (h : Moving fr to_ a a1 left ss) (x : Int) (hl : left (.int .i64 x) = true) (hx : a x = some fr) : Moving fr to_ a (setF a1 x (some to_)) (fun z => left z && !z.sameKey (.int .i64 x)) (ss ++ [x]) := by
  refine ⟨fun j hj => ?_, fun j hj => ?_, ?_, fun j => ?_⟩
  · rw [sameI] at hj
    have e : ¬ j = x := fun e => by subst e; simp at hj
    unfold setF; rw [if_neg e]; exact h.yet j (by simp_all)
  · unfold setF
    by_cases e : j = x
    · subst e; rw [if_pos rfl]; unfold movF; rw [if_pos hx]
    · rw [if_neg e]; rw [sameI, decide_eq_false e] at hj; exact h.did j (by simpa using hj)
  · refine List.nodup_append.2 ⟨h.nd, by simp, fun y hy z hz e => ?_⟩
    rw [List.mem_singleton] at hz
    subst e; subst hz
    rw [h.mem, hl] at hy
    cases hy.1
  · rw [List.mem_append, h.mem, List.mem_singleton]
    by_cases e : j = x
    · subst e; rw [sameI]; simp [hx]
    · rw [sameI, decide_eq_false e]; simp [e]
theorem Moving.done {fr to_ : Int} {a a1 : Int → Option Int} {left : Lit → Bool} {ss : List Int} (h : Moving fr to_ a a1 left ss) (hl : ∀ kl, left kl = false) : a1 = movF fr to_ a ∧ ∀ j, j ∈ ss ↔ a j = some fr :=
  ⟨funext fun j => h.did j (hl _), fun j => by rw [h.mem, hl]; simp⟩
theorem at_some {D : DataW Value} {m : Int → Option Value} (H : Holds D m) {x : Int} {d : DataW Value} (h : ∀ zd, D.atKey (.int .i64 x) zd = d) {c : Value} (hc : d = tok c) : m x = some c := by
  subst hc
  have h1 := h (tok (.bool true))
  have h2 := h (tok (.bool false))
  rw [H.at_] at h1 h2
  have e1 := tok_inj h1
  have e2 := tok_inj h2
  cases hm : m x with
  | none => rw [hm] at e1 e2; rw [← e2] at e1; simp at e1
  | some v => rw [hm] at e1; rw [← e1]; rfl
set_option maxRecDepth 100000 in
set_option maxHeartbeats 4000000 in
/-- Move: the blocks at an address are at another one. -/
theorem move_yes {w : World} {base p N : Nat} {a : Int → Option Int} {f : Int → Option (List Int)} (h : BM w base p N a f) (hN : N < 1000000) (fr to_ : Int) (h1 : 1 ≤ to_) (h2 : to_ ≤ 65535) :
    Calls Tryd.prog 16 #[.pointer (some ⟨p, 0, none⟩), .int .i64 fr, .int .i64 to_] w fun e w' => ∃ ss : List Int, e = .returned (.int .i64 (ss.length : Int)) ∧ ss.Nodup ∧ ss.length ≤ N ∧ (∀ j, j ∈ ss ↔ a j = some fr) ∧ BM w' base p N (movF fr to_ a) f ∧ Below base w w' ∧ Cells w w' := by
  obtain ⟨bA, bF, DA, DF, mF, hB⟩ := h
  have c0 : w.cell? ⟨p, 0, none⟩ = some (.map (some bA)) := (blk_cell hB.hp 0).trans rfl
  have hu := Tryd.underlying61
  have hown := hB.oA
  have hszA := hown.size_le
  have hbl := hown.lt
  have HB := Lib.hid hB
  have HA := Lib.hid hB.hA
  have HC0 := Lib.hid c0
  clear hB
  go_enter Tryd.func16, Tryd.ntmps16
  go_wp2_with (first
    | (at_range; refine wpList_range_own _ rfl _ 57 rfl 3 3 law3 Tryd.underlying57 tokR bA N _ rfl hown ?_; intro w0 hrg0 hg0 hs0)
    | go_in)
  go_frame
  go_loopw [7] (fun i wr => ∃ (left : Lit → Bool) (cnt : Nat) (D' : DataW Value) (a1 : Int → Option Int) (ss : List Int), i = .int .i64 (ss.length : Int) ∧ ss.length + cnt ≤ N ∧ wr.ranges Tryd.prog 3 tokR bA w.heap.size N D' left cnt ∧ w.grownBy wr (some bA) ∧ Hid (Holds D' (fun k => (a1 k).map (Value.int .i64))) ∧ Hid (Moving fr to_ a a1 left ss))
    (fun _ wr => wr.rangeLeft bA w.heap.size)
  case atStart => exact ⟨_, _, DA, a, [], rfl, by simp; omega, hrg0, hg0.but _, HA, Moving.start HA.out fr to_⟩
  case round =>
    obtain ⟨left, cnt, D', a1, ss, rfl, hcs, hrg, hgw, HD, HT⟩ := hrel
    go_wp2_with (first
      | (at_next; refine wpList_next_ranges _ rfl _ rfl 3 law3 tokR (Value.int .i64) id (fun key kl hk => by obtain ⟨x, hx, _⟩ := Maps.keyOf_i64 Tryd.underlying3 hk; exact ⟨x, hx⟩) (fun v _ _ => ⟨v, rfl⟩) bA w.heap.size N _ _ _ rfl hrg ?_ ?_)
      | go_in)
    · intro _ hl0
      obtain ⟨hD, hm⟩ := HT.out.done hl0
      have hnd := HT.out.nd
      subst hD
      have HBN := HB.out.turnA (Nat.le_refl _) hgw hrg.owns HD.out
      have HE := (Below.refl base w).grown hgw (Nat.le_trans HB.out.bp (Nat.le_of_lt (blk_lt HB.out.hp))) (fun q e => by cases e; exact HB.out.ba)
      have HX : Cells w wr := map_cells HB.out.oA hgw
      have hsn : ss.length ≤ N := by omega
      clear hrg hgw HD HT
      go_wp2
      go_ret
      exact ⟨ss, rfl, hnd, hsn, hm, ⟨_, _, _, _, _, HBN⟩, HE, HX⟩
    · intro x c kl yd yp w1 cnt1 hkey hlx hv hat hrg1 hlt hg1 hs1 hen
      obtain ⟨x', ex, rfl, _⟩ := Maps.keyOf_i64 Tryd.underlying3 hkey
      obtain rfl : x = x' := encZ_inj ex
      have hgw1 := hgw.andThen hg1 (fun j hj => by cases hj; exact Or.inl (Nat.le_refl _))
      have hyd : yd = tok c := by
        unfold tokR at hv
        injection hv with hv
        exact (congrArg Prod.fst hv).symm
      have hsx := at_some HD.out hat hyd
      have hax := HT.out.yet x hlx
      rw [hax] at hsx
      obtain ⟨y, hy⟩ : ∃ y, a x = some y := by cases hq : a x with
        | none => rw [hq] at hsx; cases hsx
        | some y => exact ⟨y, rfl⟩
      obtain rfl : c = .int .i64 y := by rw [hy] at hsx; exact (Option.some.inj hsx).symm
      have hcx : w1.cell? ⟨p, 0, none⟩ = some (.map (some bA)) := Cells.cell (w := w) (map_cells HB.out.oA hgw1) HC0.out
      have his : ((a1 x).map (Value.int .i64)).isSome = true := by rw [hax, hy]; rfl
      clear hyd hat hsx hv c0
      by_cases hp : y = fr
      · have hpd : (y == fr) = true := beq_iff_eq.2 hp
        have HHP := Lib.hid (hy.trans (congrArg some hp))
        clear hp hy
        go_wp2_with (first
          | (go_at_call 26; refine (addr_yes to_ _ h1 h2).mono ?_; rintro e w2 ⟨rfl, rfl⟩)
          | (at_mapUpdate; refine wp_turn _ rfl _ _ _ 57 rfl 3 3 law3 Tryd.underlying57 bA w.heap.size N _ _ _ _ rfl hrg1 HD.out (by unfold maxLen; omega) x (.int .i64 to_) his rfl rfl hkey ?_; intro w3 D3 hrg3 hh3 hg3; go_frame)
          | go_in)
        go_roundw
        case rel => exact ⟨_, cnt1, _, _, ss ++ [x], by simp, by rw [List.length_append]; simp; omega, hrg3, hgw1.andThen hg3 (fun j hj => by cases hj; exact Or.inr rfl), hA_set (a := a1) (k := x) (v := some to_) hh3 (fun j => rfl), HT.out.moves x hlx HHP.out⟩
        case measure => rw [hrg3.left_eq, hrg.left_eq]; omega
      · have hpd : (y == fr) = false := beq_eq_false_iff_ne.2 hp
        have HHP : Hid (a x ≠ some fr) := by show _ ≠ _; rw [hy]; exact fun e => hp (Option.some.inj e)
        clear hp hy
        go_wp2
        go_roundw
        case rel => exact ⟨_, cnt1, _, _, _, rfl, by omega, hrg1, hgw1, HD, HT.out.stays x hlx HHP.out⟩
        case measure => rw [hrg1.left_eq, hrg.left_eq]; exact hlt
end Go.Proofs.YtlkhlmckgpjopaaDoor.Given
