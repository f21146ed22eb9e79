/- The comparison that usage.Victims hands to the sort, and the sort of few: by hand. -/
import Derived.Test.YtogdnolkheifcaaGivFree
import Derived.Deep.QuietTactic
import Derived.BigQuiet
import Derived.Shelf.SlSortCmp.Insertion1
namespace Go.Proofs.Ytogdnolkheifcaa.Given
open Go.RowKit Go.Shelf Go.Lib Go.Sort Go.Proofs.YtogdnolkheifcaaW.PrintWords Go.Proofs.YtogdnolkheifcaaW.PrintLast Go.Proofs.YtogdnolkheifcaaW.PrintMore Go.Proofs.Ytogdnolkheifcaa.Base Go.Proofs.Ytogdnolkheifcaa.Pure
set_option linter.unusedVariables false
set_option linter.unusedSimpArgs false

set_option maxHeartbeats 1000000 in
theorem vcmp_calls (Bc : Nat) (A : Option Addr) (c : Nat) (cs : List Int) (W : World) (x y : Nat) (hx : x < cs.length) (hy : y < cs.length) (hb : W.cell? ⟨Bc, 0, none⟩ = some (.slice A cs.length c)) (hC : Kd.C (Kd.int .i64) W A cs.length cs) :
    Calls Try.prog 33 #[.int .i64 (x : Int), .int .i64 (y : Int), .pointer (some ⟨Bc, 0, none⟩)] W fun e w' => e = .returned (.int .i64 (Lib.compareInt (cs.getD x 0) (cs.getD y 0))) ∧ ∃ q, w' = W.drewN q := by
  obtain ⟨b, off, rfl, hcl⟩ := addr_of_C hC (by omega)
  have hcx := hcl x hx
  have hcy := hcl y hy
  have hln := (Kd.reads_of_C (d := (0 : Int)) hC).2.1
  obtain ⟨u, hu⟩ : ∃ u, cs.getD x 0 = u := ⟨_, rfl⟩
  obtain ⟨v, hv⟩ : ∃ v, cs.getD y 0 = v := ⟨_, rfl⟩
  rw [hu] at hcx ⊢
  rw [hv] at hcy ⊢
  have hx' : (x : Int) < (cs.length : Int) := by omega
  have hy' : (y : Int) < (cs.length : Int) := by omega
  have hx0 : (0 : Int) ≤ (x : Int) := by omega
  have hy0 : (0 : Int) ≤ (y : Int) := by omega
  have HCM : Hid (∀ k, Calls Try.prog 34 #[.int .i64 u, .int .i64 v] (W.drewN k) fun e w' => e = .returned (.int .i64 (Lib.compareInt u v)) ∧ w' = W.drewN k) := fun k => Try.cmp_Compare_int u v _
  clear hcl hu hv hC
  go_enter Try.func33, Try.ntmps33
  go_wp2
  go_quiet ((go_at_call 34; exact Calls.quiet_of_same (HCM.out _)))
  go_wp2
  go_ret
  exact ⟨rfl, _, rfl⟩
theorem grown_mapBlock (w : World) (blk : Nat) (f : Array Value → Array Value) : w.grownBy (mapBlock w blk f) (some blk) := by
  refine ⟨rfl, rfl, rfl, by simp [mapBlock], fun k hk hne => ?_⟩
  have : blk ≠ k := fun e => hne (by rw [e])
  simp [mapBlock, Array.getElem?_modify, this]
theorem grown_sort {α : Type} [Inhabited α] (enc : α → Value) (w : World) (blk off m : Nat) (dk : Array α) (os : Array Obj) : w.grownBy (sortWorld enc w blk off m dk os) (some blk) := by
  have h1 : w.grownBy (Sort.ahead w m) (some blk) := ⟨rfl, rfl, rfl, Nat.le_refl _, fun _ _ _ => rfl⟩
  have h2 : (Sort.ahead w m).grownBy (putRow enc (Sort.ahead w m) blk off dk) (some blk) := grown_mapBlock _ _ _
  exact grown_trans (grown_trans h1 h2) (grown_of_below (below_grow os) _)
/-- What the comparison knows of the world in which the sort begins. -/
structure CmpW (wd : World) (Bc : Nat) (A : Option Addr) (c : Nat) (cs : List Int) (W : World) : Prop where
  below : Below wd.heap.size wd W
  c : Boxed W Bc 24 (.slice A cs.length c)
  cc : Kd.C (Kd.int .i64) wd A cs.length cs
theorem CmpW.grown {wd W W' : World} {Bc c blk : Nat} {A : Option Addr} {cs : List Int} (h : CmpW wd Bc A c cs W) (hg : W.grownBy W' (some blk)) (h1 : wd.heap.size ≤ blk) (h2 : Bc ≠ blk) : CmpW wd Bc A c cs W' :=
  ⟨h.below.grown hg h.below.size (fun k e => by cases e; exact h1), (hg.block Bc h.c.lt (fun e => h2 (by cases e; rfl))).trans h.c, h.cc⟩
def encF (n : Nat) (i : Fin n) : Value := .int .i64 ((i.val : Nat) : Int)
def cmpF (cs : List Int) (n : Nat) (x y : Fin n) : Int := Lib.compareInt (cs.getD x.val 0) (cs.getD y.val 0)
theorem cmp_lays {m : Nat} (wd W : World) (Bc c blk : Nat) (A : Option Addr) (cs : List Int) (hn : cs.length = m + 1) (h : CmpW wd Bc A c cs W) (h1 : wd.heap.size ≤ blk) (h2 : Bc ≠ blk) (off size : Nat) :
    CmpLays1 Try.prog 33 #[.pointer (some ⟨Bc, 0, none⟩)] (encF (m + 1)) (cmpF cs (m + 1)) blk off size W := by
  intro q os dk _ x y
  have hw := h.grown (grown_sort (encF (m + 1)) W blk off q dk os) h1 h2
  refine (vcmp_calls Bc A c cs _ x.val y.val (by omega) (by omega) hw.c.cell (Kd.C_below hw.cc hw.below)).mono ?_
  rintro e w' ⟨rfl, k, rfl⟩
  exact ⟨rfl, k, #[], by rw [grow_empty]⟩

set_option maxHeartbeats 1000000 in
/-- slices.stableCmpFunc of fewer than twenty. -/
theorem stable_few {α : Type} [Inhabited α] (enc : α → Value) (cf : α → α → Int) (g : Nat) (cb : Array Value) (blk off cap : Nat) (d0 d : Array α) (w0 w : World) (eg : ∀ args w, (callFunc g args).run Try.prog w = .ok (.enter g args) w) (hcmp : CmpLays1 Try.prog g cb enc cf blk off d0.size w0) (R : Row1 enc w0 blk off d0) (hs : d0.size = d.size) (S : SW enc w0 blk off d w) (hsz : d.size < 20) :
    Calls Try.prog 43 #[.slice (some ⟨blk, off, none⟩) d.size cap, .int .i64 (d.size : Nat), .func (.func g) #[] cb] w fun e w' => e = .returned (.tuple #[]) ∧ SW enc w0 blk off (Sort.insertionSort (ltOf cf) d 0 d.size) w' := by
  have HI : Hid (∀ W, SW enc w0 blk off d W → Calls Try.prog 57 #[.slice (some ⟨blk, off, none⟩) d.size cap, .int .i64 0, .int .i64 (d.size : Nat), .func (.func g) #[] cb] W fun e w' => e = .returned (.tuple #[]) ∧ SW enc w0 blk off (Sort.insertionSort (ltOf cf) d 0 d.size) w') :=
    fun W hS => Try.insertionSortCmpFunc_s enc cf g cb blk off cap 0 d.size d0 d w0 W eg hcmp R hs hS (Nat.zero_le _) (Nat.le_refl _) (by omega)
  have HS := Lib.hid S
  clear hcmp R S
  obtain ⟨n, hn⟩ : ∃ n, d.size = n := ⟨_, rfl⟩
  have hn20 : (n : Int) < 20 := by omega
  have hd1 : decide ((20 : Int) ≤ (n : Int)) = false := decide_eq_false (by omega)
  have hd2 : decide ((20 : Int) < (n : Int)) = false := decide_eq_false (by omega)
  have HN := Lib.hid hn
  rw [hn] at HI ⊢
  clear hn
  go_enter Try.func43, Try.ntmps43
  go_wp2
  go_loopw [7, 8] (fun a b wr => a = .int .i64 0 ∧ b = .int .i64 20 ∧ w = wr) (fun _ _ _ => 0)
  case atStart => exact ⟨rfl, rfl, rfl⟩
  case round =>
    obtain ⟨rfl, rfl, rfl⟩ := hrel
    go_wp2_with (go_at_call 57; refine (HI.out _ HS.out).mono ?_; rintro e w1 ⟨rfl, hS⟩; have H1 := Lib.hid hS; clear hS)
    go_loopw [6] (fun s wr => s = .int .i64 20 ∧ w1 = wr) (fun _ _ => 0)
    case atStart => exact ⟨rfl, rfl⟩
    case round =>
      obtain ⟨rfl, rfl⟩ := hrel
      go_wp2
      go_end0
      exact ⟨rfl, H1.out⟩
theorem sortStable_few {α : Type} [Inhabited α] (enc : α → Value) (cf : α → α → Int) (g : Nat) (cb : Array Value) (blk off cap : Nat) (d : Array α) (w : World) (eg : ∀ args w, (callFunc g args).run Try.prog w = .ok (.enter g args) w) (hcmp : CmpLays1 Try.prog g cb enc cf blk off d.size w) (R : Row1 enc w blk off d) (hsz : d.size < 20) :
    Calls Try.prog 32 #[.slice (some ⟨blk, off, none⟩) d.size cap, .func (.func g) #[] cb] w fun e w' => e = .returned (.tuple #[]) ∧ SW enc w blk off (Sort.insertionSort (ltOf cf) d 0 d.size) w' := by
  have HI := Lib.hid (stable_few enc cf g cb blk off cap d d w w eg hcmp R rfl (SW.start R.hH) hsz)
  clear hcmp R
  obtain ⟨n, hn⟩ : ∃ n, d.size = n := ⟨_, rfl⟩
  rw [hn] at HI ⊢
  clear hn
  go_enter Try.func32, Try.ntmps32
  go_wp2_with (go_at_call 43; refine HI.out.mono ?_; rintro e w1 ⟨rfl, hS⟩; have H1 := Lib.hid hS; clear hS)
  go_end0
  exact ⟨rfl, H1.out⟩
end Go.Proofs.Ytogdnolkheifcaa.Given
