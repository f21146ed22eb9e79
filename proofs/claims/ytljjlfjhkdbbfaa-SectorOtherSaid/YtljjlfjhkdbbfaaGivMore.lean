/- A word that a mended printed text uses: what an owned slice tells as the cell of a row of slices. -/
import Derived.Test.YtljjlfjhkdbbfaaWWords
import Derived.Test.YtljjlfjhkdbbfaaWMore
import Derived.Test.YtljjlfjhkdbbfaaWShare
namespace Go.Proofs.Ytljjlfjhkdbbfaa.Given
open Go.RowKit Go.Proofs.YtljjlfjhkdbbfaaW.PrintWords Go.Proofs.YtljjlfjhkdbbfaaW.PrintLast Go.Proofs.YtljjlfjhkdbbfaaW.PrintMore

theorem fk_of_R {α : Type} {d : Kd α} {e : Nat} {w : World} {base : Nat} {ok : Nat → Prop} {v : Value} {xs : List α} (h : d.R e w base ok v xs) : (Kd.slice e d).FK w ok xs [v] := by
  obtain ⟨A, c, rfl⟩ := Kd.R_slice h
  exact Kd.FK_slice_mk (Kd.R_reads' h).2.1 (Kd.R_F h)

end Go.Proofs.Ytljjlfjhkdbbfaa.Given
