/- 'spec.l21Back' and 'spec.l23Mask'. -/
import Derived.Test.YtbadeopjfmafcaaDoorSkyT
import Derived.StillTailTactics
namespace Go.Proofs.YtbadeopjfmafcaaDoor
open Go.RowKit

theorem bcl {B : Nat} {w w' : World} (h : Below B w w') {b : Nat} (hb : b < B) (o : Nat) : w'.cell? ⟨b, o, none⟩ = w.cell? ⟨b, o, none⟩ := h.cell (p := ⟨b, o, none⟩) hb
theorem trT_unit (g : List (Int × Int)) (t n : Nat) : trT g (-1) t (n + 1) =
    ((trT g (-1) t n).1 + (g.getD n (0, 0)).1 * (unit (-(ph t n))).1 - (g.getD n (0, 0)).2 * (unit (-(ph t n))).2,
     (trT g (-1) t n).2 + (g.getD n (0, 0)).1 * (unit (-(ph t n))).2 + (g.getD n (0, 0)).2 * (unit (-(ph t n))).1) := by
  rw [trT_succ]
  unfold trA turnAt
  dsimp only
  rw [show (-1 : Int) * ph t n = -(ph t n) from by omega]
  congr 1 <;> omega

end Go.Proofs.YtbadeopjfmafcaaDoor
