/- The contracts of bytes.Clone and bytes.HasPrefix, in the printed contracts' form: by hand. -/
import Derived.Test.YtljjlfjhkdbbfaaGivXor
namespace Go.Proofs.Ytljjlfjhkdbbfaa.Given
open Go.RowKit Go.Proofs.YtljjlfjhkdbbfaaW.PrintWords Go.Proofs.YtljjlfjhkdbbfaaW.PrintLast
set_option linter.unusedVariables false
set_option linter.unusedSimpArgs false

def bytes_Clone.f (l : List Int) : Option (List Int) := if l.length ≤ 140737488355328 then some l else none
theorem bytes_Clone.calls (A0 : Option Addr) (c0 : Nat) (l0 : List Int) (r : List Int) (w : World) (hr0 : Kd.C (Kd.int .u8) w A0 l0.length l0) (hc0 : l0.length ≤ c0) (h : bytes_Clone.f l0 = some r) :
    Calls Try.prog 23 #[.slice A0 l0.length c0] w fun e w' => ∃ v0_ : Value, e = .returned v0_ ∧ Kd.R (Kd.int .u8) 5 w' w.heap.size (fun _ => True) v0_ r ∧ Below w.heap.size w w' := by
  unfold bytes_Clone.f at h
  split at h
  · rename_i hb
    cases h
    refine (clone_any A0 _ c0 l0 w hr0 hb).mono ?_
    rintro e w' ⟨v', rfl, ho, hB⟩
    exact ⟨v', rfl, Kd.R_of_own ho (fun _ _ => trivial), hB⟩
  · cases h

def bytes_HasPrefix.f (l p : List Int) : Option Bool := some (Lib.hasPrefix (Lib.bytesOf l) (Lib.bytesOf p))
theorem bytesIn_of_C {w : World} {A : Option Addr} {xs : List Int} (h : Kd.C (Kd.int .u8) w A xs.length xs) : Lib.BytesIn w A xs.length xs := by
  have hr := Kd.reads_of_C (d := (0 : Int)) h
  intro hn
  obtain ⟨ad, rfl, hc⟩ := hr.2.2 hn
  exact Lib.BytesIn.of_cells (fun i hi => hc i hi) hn
theorem bytes_HasPrefix.calls (A0 : Option Addr) (c0 : Nat) (l0 : List Int) (A1 : Option Addr) (c1 : Nat) (l1 : List Int) (r : Bool) (w : World) (hr0 : Kd.C (Kd.int .u8) w A0 l0.length l0) (hc0 : l0.length ≤ c0) (hr1 : Kd.C (Kd.int .u8) w A1 l1.length l1) (hc1 : l1.length ≤ c1) (h : bytes_HasPrefix.f l0 l1 = some r) :
    Calls Try.prog 21 #[.slice A0 l0.length c0, .slice A1 l1.length c1] w fun e w' => e = .returned (.bool r) ∧ Drawn0 w w' := by
  cases h
  refine (Try.bytes_HasPrefix_all A0 A1 _ c0 _ c1 l0 l1 w rfl rfl hc0 (bytesIn_of_C hr0) (bytesIn_of_C hr1)).mono ?_
  rintro e w' ⟨rfl, rfl⟩
  exact ⟨rfl, Drawn0.refl _⟩

end Go.Proofs.Ytljjlfjhkdbbfaa.Given
