/- Two records are compared: by hand. -/
import Derived.Test.YthmfhhkedmloeaaDoorGivInodePut
import Derived.Test.YthmfhhkedmloeaaDoorGivTake
import Derived.Test.YthmfhhkedmloeaaDoorWEqStruct
import Derived.ChangeKeysEq
namespace Go.Proofs.YthmfhhkedmloeaaDoor.Given
open Go.RowKit Go.Proofs.YthmfhhkedmloeaaDoorW.PrintWords Go.Proofs.YthmfhhkedmloeaaDoorW.PrintLast Go.Proofs.YthmfhhkedmloeaaDoorW.PrintMore
set_option linter.unusedVariables false
set_option linter.unusedSimpArgs false
theorem part_int (xs : Array Value) (j : Nat) (x : Int) (w : World) (h : xs[j]? = some (.int .i64 x)) : (part 3 xs j).run Tryd.prog w = .ok (.int .i64 x) w := by
  unfold part isAgg
  simp only [Sem.run_bind, run_underlying Tryd.underlying3, Result.andThen_ok]
  simp [h]
theorem items_eq (n : Nat) (xs ys : Array Value) (a b : Nat → Int) (w : World) : ∀ is : List Nat, (∀ j ∈ is, xs[j]? = some (.int .i64 (a j))) → (∀ j ∈ is, ys[j]? = some (.int .i64 (b j))) →
    (Op.eqItems (n + 1) 3 1 xs ys is).run Tryd.prog w = .ok (is.all fun j => a j == b j) w
  | [], _, _ => by simp [Op.eqItems]
  | j :: is, ha, hb => by
    have ih := items_eq n xs ys a b w is (fun i hi => ha i (by simp [hi])) (fun i hi => hb i (by simp [hi]))
    have p1 := part_int xs (j * 1) (a j) w (by rw [Nat.mul_one]; exact ha j (by simp))
    have p2 := part_int ys (j * 1) (b j) w (by rw [Nat.mul_one]; exact hb j (by simp))
    have p3 : (Op.equalIn (n + 1) 3 (.int .i64 (a j)) (.int .i64 (b j))).run Tryd.prog w = .ok (a j == b j) w := run_equalIn_int w n _ _ _ _ _ Tryd.underlying3
    simp only [Op.eqItems, Sem.run_bind, p1, p2, p3, Result.andThen_ok, List.all_cons]
    cases a j == b j
    · simp
    · simpa using ih
theorem getD_some (l : List Int) (j : Nat) (h : j < l.length) : ((l.map (Value.int .i64)).toArray)[j]? = some (.int .i64 (l.getD j 0)) := by
  rw [List.getElem?_toArray, List.getElem?_map, List.getElem?_eq_getElem h, List.getD_eq_getElem?_getD, List.getElem?_eq_getElem h]; rfl
theorem dir_eq (n : Nat) (w : World) (l m : List Int) (hl : l.length = 16) (hm : m.length = 16) : (Op.equalIn (n + 2) 22 (.agg (l.map (Value.int .i64)).toArray) (.agg (m.map (Value.int .i64)).toArray)).run Tryd.prog w = .ok ((List.range 16).all fun j => l.getD j 0 == m.getD j 0) w := by
  obtain ⟨i, hi, _⟩ := info_parts infoI64
  rw [run_equalIn_array w (n + 1) _ _ Tryd.underlying22 hi]
  rw [show Tryd.prog.cellsOf 3 = 1 from by kernel_rfl]
  exact items_eq n _ _ (fun j => l.getD j 0) (fun j => m.getD j 0) w (List.range 16) (fun j hj => getD_some l j (by rw [hl]; exact List.mem_range.1 hj)) (fun j hj => getD_some m j (by rw [hm]; exact List.mem_range.1 hj))
set_option maxHeartbeats 1000000 in
theorem rec_x (n : Nat) (w : World) (k ln sz x0 x1 x2 x3 x4 x5 x6 x7 x8 x9 x10 x11 x12 x13 x14 x15 s d k' ln' sz' y0 y1 y2 y3 y4 y5 y6 y7 y8 y9 y10 y11 y12 y13 y14 y15 s' d' : Int) : (Op.equalIn (n + 3) 24 (.agg #[.int .i64 k, .int .i64 ln, .int .i64 sz, .int .i64 x0, .int .i64 x1, .int .i64 x2, .int .i64 x3, .int .i64 x4, .int .i64 x5, .int .i64 x6, .int .i64 x7, .int .i64 x8, .int .i64 x9, .int .i64 x10, .int .i64 x11, .int .i64 x12, .int .i64 x13, .int .i64 x14, .int .i64 x15, .int .i64 s, .int .i64 d]) (.agg #[.int .i64 k', .int .i64 ln', .int .i64 sz', .int .i64 y0, .int .i64 y1, .int .i64 y2, .int .i64 y3, .int .i64 y4, .int .i64 y5, .int .i64 y6, .int .i64 y7, .int .i64 y8, .int .i64 y9, .int .i64 y10, .int .i64 y11, .int .i64 y12, .int .i64 y13, .int .i64 y14, .int .i64 y15, .int .i64 s', .int .i64 d'])).run Tryd.prog w = .ok (k == k' && (ln == ln' && (sz == sz' && (((List.range 16).all fun j => [x0, x1, x2, x3, x4, x5, x6, x7, x8, x9, x10, x11, x12, x13, x14, x15].getD j 0 == [y0, y1, y2, y3, y4, y5, y6, y7, y8, y9, y10, y11, y12, y13, y14, y15].getD j 0) && (s == s' && d == d'))))) w := by
  refine eqA_of Tryd.underlying24 (by kernel_rfl) ?_
  refine eqf_cons (by rfl) (by go_simp; rfl) (by go_simp; rfl) (by go_simp) ?_
  refine eqf_cons (by rfl) (by go_simp; rfl) (by go_simp; rfl) (by go_simp) ?_
  refine eqf_cons (by rfl) (by go_simp; rfl) (by go_simp; rfl) (by go_simp) ?_
  refine eqf_cons (by rfl) (by go_simp) (by go_simp) (dir_eq n w [x0, x1, x2, x3, x4, x5, x6, x7, x8, x9, x10, x11, x12, x13, x14, x15] [y0, y1, y2, y3, y4, y5, y6, y7, y8, y9, y10, y11, y12, y13, y14, y15] rfl rfl) ?_
  refine eqf_cons (by rfl) (by go_simp; rfl) (by go_simp; rfl) (by go_simp) ?_
  exact eqf_last (by rfl) (by go_simp; rfl) (by go_simp; rfl) (by go_simp)
theorem rec_eq (n : Nat) (w : World) (L M : List Int) (hL : L.length = 21) (hM : M.length = 21) : (Op.equalIn (n + 3) 24 (recV L) (recV M)).run Tryd.prog w = .ok (decide (L = M)) w := by
  obtain ⟨k, ln, sz, x0, x1, x2, x3, x4, x5, x6, x7, x8, x9, x10, x11, x12, x13, x14, x15, s, d, rfl⟩ := list21 L hL
  obtain ⟨k', ln', sz', y0, y1, y2, y3, y4, y5, y6, y7, y8, y9, y10, y11, y12, y13, y14, y15, s', d', rfl⟩ := list21 M hM
  refine (rec_x n w k ln sz x0 x1 x2 x3 x4 x5 x6 x7 x8 x9 x10 x11 x12 x13 x14 x15 s d k' ln' sz' y0 y1 y2 y3 y4 y5 y6 y7 y8 y9 y10 y11 y12 y13 y14 y15 s' d').trans ?_
  congr 1
  rw [Bool.eq_iff_iff, decide_eq_true_eq]
  simp only [Bool.and_eq_true, beq_iff_eq, List.all_eq_true, List.mem_range, List.cons.injEq, and_true]
  constructor
  · rintro ⟨h0, h1, h2, h3, h4, h5⟩
    exact ⟨h0, h1, h2, h3 0 (by decide), h3 1 (by decide), h3 2 (by decide), h3 3 (by decide), h3 4 (by decide), h3 5 (by decide), h3 6 (by decide), h3 7 (by decide), h3 8 (by decide), h3 9 (by decide), h3 10 (by decide), h3 11 (by decide), h3 12 (by decide), h3 13 (by decide), h3 14 (by decide), h3 15 (by decide), h4, h5⟩
  · rintro ⟨h0, h1, h2, e0, e1, e2, e3, e4, e5, e6, e7, e8, e9, e10, e11, e12, e13, e14, e15, h4, h5⟩
    exact ⟨h0, h1, h2, fun j _ => by rw [e0, e1, e2, e3, e4, e5, e6, e7, e8, e9, e10, e11, e12, e13, e14, e15], h4, h5⟩
end Go.Proofs.YthmfhhkedmloeaaDoor.Given
