/- 'spec.SkyTransform'. -/
import Derived.Test.YtbadeopjfmafcaaDoorDirtyS
namespace Go.Proofs.YtbadeopjfmafcaaDoor
open Go.RowKit

def skyTR (s : List Int) : List (Int × Int) := if skyV s then skyT s else []
theorem skyTR_no {s : List Int} (h : skyV s = false) : skyTR s = [] := by unfold skyTR; rw [h]; rfl
theorem skyTR_yes {s : List Int} (h : skyV s = true) : skyTR s = skyT s := by unfold skyTR; rw [h]; rfl
theorem ph_uv (u v k : Nat) (hu : u < 4) : ((u : Int) * ((k : Int) % 4) + (v : Int) * ((k : Int) / 4)) = ph (v * 4 + u) k := by
  unfold ph
  have h1 : (v * 4 + u) % 4 = u := by omega
  have h2 : (v * 4 + u) / 4 = v := by omega
  rw [h1, h2]
  push_cast
  rfl
theorem skyP_unit (s : List Int) (t n : Nat) : skyP s t (n + 1) = ((skyP s t n).1 + s.getD n 0 * (unit (ph t n)).1, (skyP s t n).2 + s.getD n 0 * (unit (ph t n)).2) := skyP_succ s t n
theorem prodUV (u b : Nat) (ha : u < 4) (hb : b < 16) : (0 ≤ (u : Int) * ((b : Int) % 4) ∧ (u : Int) * ((b : Int) % 4) ≤ 9) ∧ 0 ≤ (u : Int) * ((b : Int) / 4) ∧ (u : Int) * ((b : Int) / 4) ≤ 9 := by
  have h1 : u * (b % 4) ≤ 3 * 3 := Nat.mul_le_mul (by omega) (by omega)
  have h2 : u * (b / 4) ≤ 3 * 3 := Nat.mul_le_mul (by omega) (by omega)
  have e1 : (u : Int) * ((b : Int) % 4) = ((u * (b % 4) : Nat) : Int) := by push_cast; rfl
  have e2 : (u : Int) * ((b : Int) / 4) = ((u * (b / 4) : Nat) : Int) := by push_cast; rfl
  rw [e1, e2]
  omega

end Go.Proofs.YtbadeopjfmafcaaDoor
