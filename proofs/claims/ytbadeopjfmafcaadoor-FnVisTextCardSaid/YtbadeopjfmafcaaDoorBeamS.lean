/- 'impl.BeamOf' and 'spec.BeamOf' at every coverage; 'CoverMany'. -/
import Derived.Test.YtbadeopjfmafcaaDoorBeam
namespace Go.Proofs.YtbadeopjfmafcaaDoor
open Go.RowKit

def beamR (c : List Bool) : List Int := if covV c then beamL c else []
theorem beamR_yes {c : List Bool} (h : covV c = true) : beamR c = beamL c := by unfold beamR; rw [h]; rfl
theorem beamR_no {c : List Bool} (h : covV c = false) : beamR c = [] := by unfold beamR; rw [h]; rfl

theorem ph_cast (k l : Nat) : ((k : Int) % 4 * ((l : Int) % 4) + (k : Int) / 4 * ((l : Int) / 4)) = ph k l := by
  unfold ph
  push_cast
  rfl
theorem prod4 (a b : Nat) (ha : a < 16) (hb : b < 16) : (0 ≤ (a : Int) % 4 * ((b : Int) % 4) ∧ (a : Int) % 4 * ((b : Int) % 4) ≤ 9) ∧ 0 ≤ (a : Int) / 4 * ((b : Int) / 4) ∧ (a : Int) / 4 * ((b : Int) / 4) ≤ 9 := by
  have h1 : a % 4 * (b % 4) ≤ 3 * 3 := Nat.mul_le_mul (by omega) (by omega)
  have h2 : a / 4 * (b / 4) ≤ 3 * 3 := Nat.mul_le_mul (by omega) (by omega)
  have e1 : (a : Int) % 4 * ((b : Int) % 4) = ((a % 4 * (b % 4) : Nat) : Int) := by push_cast; rfl
  have e2 : (a : Int) / 4 * ((b : Int) / 4) = ((a / 4 * (b / 4) : Nat) : Int) := by push_cast; rfl
  rw [e1, e2]
  omega

end Go.Proofs.YtbadeopjfmafcaaDoor
