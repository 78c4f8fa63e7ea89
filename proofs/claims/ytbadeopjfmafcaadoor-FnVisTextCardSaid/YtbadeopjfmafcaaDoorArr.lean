/- Arrays of antennas: the program's checks. -/
import Derived.Test.YtbadeopjfmafcaaDoorA5
import Derived.Test.YtbadeopjfmafcaaDoorEqual
import Derived.Test.YtbadeopjfmafcaaDoorDirty
namespace Go.Proofs.YtbadeopjfmafcaaDoor
open Go.RowKit

theorem pair_bne {a b : Int × Int} (h : a ≠ b) : (a.1 == b.1) = false ∨ (a.1 = b.1 ∧ (a.2 == b.2) = false) := by
  by_cases h1 : a.1 = b.1
  · exact .inr ⟨h1, beq_eq_false_iff_ne.2 fun h2 => h (Prod.ext h1 h2)⟩
  · exact .inl (beq_eq_false_iff_ne.2 h1)

end Go.Proofs.YtbadeopjfmafcaaDoor
