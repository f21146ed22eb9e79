/- block.Map.Move: a store at a key that is there, while a walk over the map is under way; by hand. -/
import Derived.Test.YtlkhlmckgpjopaaDoorGivCut
namespace Go.Proofs.YtlkhlmckgpjopaaDoor.Given
open Go.RowKit Go.Maps Go.Sort Go.Shelf Go.ChangeMaps Go.MapKept Go.WideShapes Go.Proofs.YtlkhlmckgpjopaaDoorW.PrintWords Go.Proofs.YtlkhlmckgpjopaaDoorW.PrintLast Go.Proofs.YtlkhlmckgpjopaaDoorW.PrintMore Go.Proofs.YtlkhlmckgpjopaaDoor.Base
open Go.WideElems (Fit rd_key rd_val rg_of rd_mk)
set_option linter.unusedVariables false
set_option linter.unusedSimpArgs false
theorem set_block_inj {w : World} {b : Nat} {es : Array MapEntry} {clock : Nat} {o1 o2 : Obj} (hb : w.heap[b]? = some (.map es clock)) (h : setBlock w b o1 = setBlock w b o2) : o1 = o2 := by
  have h1 := heap_setBlock_same hb o1
  have h2 := heap_setBlock_same hb o2
  rw [h, h2] at h1
  exact (Option.some.inj h1).symm
/-- 'm[k] = v' in the round, at a key that is there. -/
theorem ranges_turn {P : Program} {k : TypeId} {w : World} {b r n : Nat} {D : DataW Value} {left : Lit → Bool} {cnt : Nat} {t e : TypeId} (h : w.ranges P k tokR b r n D left cnt) (K : Keyed P k) (ht : P.underlying t = some (.map k e)) (hn : n < maxLen) {key val : Value} {kl : Lit}
    (hkey : keyOf P k key = some kl) (hhas : has D kl = true) : ∃ w', (Instr.mapUpdate t (.map (some b)) key val).run P w = .ok () w' ∧ w'.ranges P k tokR b r n (D.put kl (tok val)) left cnt ∧ w.grownBy w' (some b) := by
  have hne := h.ne
  obtain ⟨es, clock, since, seen, c0, hb, F, hs, rfl, hr, hold, rfl, hl1, hl2, hsc, hsk⟩ := h
  obtain ⟨es', clock', hrun, F', hput, _⟩ := Maps.fit_store (R' := tokR) K ht hb F (Nat.lt_of_le_of_lt hs hn) (fun _ _ _ _ hz => hz) hkey (show tokR val = some (tok val, []) from rfl)
  rcases K.find w hkey es.toList F.keys with ⟨h1, h2⟩ | ⟨j, e0, h1, h2, h3⟩
  · exfalso
    obtain ⟨p, hp, hpk⟩ := List.any_eq_true.1 hhas
    obtain ⟨x, hx, rfl⟩ := List.mem_map.1 (mem_sorted.1 hp)
    obtain ⟨y, hy⟩ := F.reads x hx
    have hk := rd_key hy
    rw [rg_of hy] at hpk
    rw [WideAt.sameKey_eq hpk] at hk
    exact h2 x hx (K.inj hk hkey)
  · have hj : es[j]? = some e0 := by simpa using h2
    have hrun2 : (Instr.mapUpdate t (.map (some b)) key val).run P w = .ok () (setBlock w b (.map (es.modify j (fun e' => { e' with key := key, val := val })) clock)) := by
      simp [Instr.mapUpdate, run_underlying ht, MapKept.run_getObj_map hb, K.check w false hkey, h1, hj, h3, K.stays w hkey, MapKept.run_setObj_map _ hb, Result.andThen, setBlock]
    have heq : Obj.map es' clock' = Obj.map (es.modify j (fun e' => { e' with key := key, val := val })) clock := by
      rw [hrun] at hrun2
      exact set_block_inj hb (by injection hrun2)
    injection heq with he hc
    subst he
    subst hc
    have hlist : (es.modify j (fun e' => { e' with key := key, val := val })).toList = es.toList.set j { e0 with key := key, val := val } := by rw [Array.toList_modify, modify_eq_set _ _ _ _ h2]
    have hjl : j < es.toList.length := (List.getElem?_eq_some_iff.1 h2).1
    have hborn : (es.modify j (fun e' => { e' with key := key, val := val })).toList.map (·.born) = es.toList.map (·.born) := by
      rw [hlist, List.map_set]
      refine List.ext_getElem? fun i => ?_
      by_cases e : j = i
      · subst e
        rw [List.getElem?_set_self (by simpa using hjl), List.getElem?_map, h2]
        rfl
      · rw [List.getElem?_set_ne e]
    have hg0 : (Go.WideElems.rg P k tokR e0).1 = kl := by
      obtain ⟨y, hy⟩ := F.reads e0 (List.mem_of_getElem? h2)
      have := rd_key hy
      rw [h3, hkey] at this
      rw [rg_of hy]
      exact (Option.some.inj this).symm
    have hg1 : (Go.WideElems.rg P k tokR { e0 with key := key, val := val }).1 = kl := by
      have : Go.WideElems.rd P k tokR { e0 with key := key, val := val } = some (kl, tok val) := rd_mk (yv := (tok val, [])) hkey rfl
      rw [rg_of this]
    have who : ∀ x ∈ es.toList.set j { e0 with key := key, val := val }, x = { e0 with key := key, val := val } ∨ x ∈ es.toList := fun x hx => (List.mem_or_eq_of_mem_set hx).symm
    refine ⟨_, hrun, ⟨es.modify j (fun e' => { e' with key := key, val := val }), clock', since, seen, c0, heap_setBlock_same hb _, F', by simpa using hs, by rw [DataW.put_eq, hput], (heap_setBlock_other hb _ hne).trans hr, ?_, ?_, ?_, ?_, hsc, hsk⟩, ⟨rfl, rfl, rfl, by simp [setBlock], fun i _ hi => heap_setBlock_other hb _ (fun e => hi (by rw [e]))⟩⟩
    · intro x hx
      rw [hlist] at hx
      rcases who x hx with rfl | hx
      · exact hold e0 (List.mem_of_getElem? h2)
      · exact hold x hx
    · have e1 : ∀ a : Array MapEntry, (leftOf a seen).size = ((a.toList.map (·.born)).filter fun q => !seen.contains q).length := fun a => by
        unfold leftOf
        rw [← Array.length_toList, Array.toList_filter, List.filter_map, List.length_map]
        rfl
      rw [e1, e1, hborn]
    · intro x hx
      rw [hlist] at hx
      rcases who x hx with rfl | hx
      · rw [hg1, ← hg0]; exact hl1 e0 (List.mem_of_getElem? h2)
      · exact hl1 x hx
    · intro x0 hx0
      obtain ⟨x, hx, rfl⟩ := hl2 x0 hx0
      rw [hlist]
      obtain ⟨i, hi⟩ := List.getElem?_of_mem hx
      by_cases e : i = j
      · subst e
        rw [h2] at hi
        cases hi
        exact ⟨_, List.mem_of_getElem? (by rw [List.getElem?_set_self hjl]), hg1.trans hg0.symm⟩
      · exact ⟨x, List.mem_of_getElem? (by rw [List.getElem?_set_ne (fun q => e q.symm)]; exact hi), rfl⟩
section
variable {P : Program} (w : World) {ops : Array Oper} {rest : List Oper} {o : Oper} {a : Act} {Q : Exit → Act → World → Prop}
theorem wp_turn (hg : o.guard = none) (m x v : Operand) (t : TypeId) (hop : o.op = Op.mapUpdate t m x v) (k e : TypeId) (K : Keyed P k) (ht : P.underlying t = some (.map k e)) (b r n : Nat) (D : DataW Value) (left : Lit → Bool) (cnt : Nat) (f : Int → Option Value)
    (hm : a.eval m = .map (some b)) (h : w.ranges P k tokR b r n D left cnt) (H : Holds D f) (hn : n < maxLen) (i : Int) (u : Value) (hi : (f i).isSome = true) (hx : a.eval x = .int .i64 i) (hv : a.eval v = u) (hkey : keyOf P k (.int .i64 i) = some (.int .i64 i))
    (hK : ∀ w' D', w'.ranges P k tokR b r n D' left cnt → Holds D' (fun j => if j = i then some u else f j) → w.grownBy w' (some b) → wpList P ops Q rest (a.put o.dst undef) w') :
    wpList P ops Q (o :: rest) a w := by
  refine wpList_plain hg fun K' hK' => ?_
  obtain ⟨w', hrun, r1, r2⟩ := ranges_turn h K ht hn (val := u) hkey (by rw [H.has]; exact hi)
  unfold Oper.wp
  simp [execOp, hop, hm, hx, hv, hrun, Result.andThen]
  exact hK' _ _ (hK w' _ r1 (H.put i u) r2)
end
end Go.Proofs.YtlkhlmckgpjopaaDoor.Given
