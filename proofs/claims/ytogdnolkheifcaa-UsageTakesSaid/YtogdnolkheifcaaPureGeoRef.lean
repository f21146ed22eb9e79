/- Plain laws over whole numbers and lists: PureGeoRef. -/
import Derived.Test.YtogdnolkheifcaaPureGeo
import Derived.Test.YtogdnolkheifcaaBase2x
import Derived.KernelRfl
import Derived.Laws.BitsLemmas
import Derived.Laws.BitsAllLaws
namespace Go.Proofs.Ytogdnolkheifcaa.Pure
open Go.RowKit Go.Proofs.Ytogdnolkheifcaa.Base Go.Proofs.Ytogdnolkheifcaa.Base2x Go.Proofs.YtogdnolkheifcaaW.PrintWords Go.Proofs.YtogdnolkheifcaaW.PrintLast Go.Proofs.YtogdnolkheifcaaW.PrintMore
set_option linter.unusedVariables false
set_option linter.unusedSimpArgs false
theorem refRight_eq (d r s : Int) : moraineref03_Right.f d r s = geo_Right.f d r s := by
  unfold moraineref03_Right.f
  by_cases g : GB d r s
  · obtain ⟨h1, h2, h3, h4, h5, h6⟩ := g
    have g : GB d r s := ⟨h1, h2, h3, h4, h5, h6⟩
    rw [if_neg (by omega), if_neg (by omega), if_neg (by omega), if_neg (by omega), if_neg (by omega), if_neg (by omega), Right_eq]
    have hp := pl_bd g; have ho := ot_bd g
    have hm := mul_bd (a := ot s) (b := pl d r) (A := 9) (B := 59) (by omega) (by omega) (by omega) (by omega)
    rw [tdiv8 (by omega), w64 (n := s / 8) (by omega) (by omega), w64 (n := d - 1) (by omega) (by omega)]
    have e1 : wrap64 (1 + s / 8) = ot s := w64 (by omega) (by omega)
    have e2 : wrap64 (wrap64 (r * (d - 1)) - 1) = pl d r := by
      unfold pl at *
      rw [w64 (n := r * (d - 1)) (by omega) (by omega), w64 (by omega) (by omega)]
    rw [e1, e2, w64 (by omega) (by omega)]
    simp [GR, g]
  · rw [Right_neg (fun k => g k.1)]
    by_cases h1 : d < 3; · rw [if_pos h1]
    rw [if_neg h1]
    by_cases h2 : d > 16; · rw [if_pos h2]
    rw [if_neg h2]
    by_cases h3 : r < 1; · rw [if_pos h3]
    rw [if_neg h3]
    by_cases h4 : r > 4; · rw [if_pos h4]
    rw [if_neg h4]
    by_cases h5 : s < 12; · rw [if_pos h5]
    rw [if_neg h5]
    by_cases h6 : s > 64; · rw [if_pos h6]
    exact absurd ⟨by omega, by omega, by omega, by omega, by omega, by omega⟩ g
theorem refPlaces_eq (d r s : Int) : moraineref03_Places.f d r s = geo_Places.f d r s := by
  unfold moraineref03_Places.f; rw [refRight_eq]
  by_cases h : GR d r s
  · rw [Right_pos h, Places_pos h]; simp only [Option.bind_some]; rw [if_pos trivial]
    have hp := pl_bd h.1; have h1 := h.1.d0; have h2 := h.1.d1
    unfold pl at *
    rw [w64 (n := d - 1) (by omega) (by omega), w64 (n := r * (d - 1)) (by omega) (by omega), w64 (by omega) (by omega)]
  · rw [Right_neg h, Places_neg h]; simp
end Go.Proofs.Ytogdnolkheifcaa.Pure
