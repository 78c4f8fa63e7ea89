/- 'impl.SkyShift'. -/
import Derived.Test.YtbadeopjfmafcaaDoorSkyC
namespace Go.Proofs.YtbadeopjfmafcaaDoor
open Go.RowKit

theorem addR_some {a b : List Int} {m : Int} (h : (addR a b m).isSome = true) : skyV (addS a b m) = true ∧ addR a b m = some (addS a b m) := by
  unfold addR at h ⊢
  split at h
  · rename_i hc
    exact ⟨hc.2.2.2, by rw [if_pos hc]⟩
  · cases h
theorem addR_mk {a b : List Int} {m : Int} (h1 : skyV a = true) (h2 : skyV b = true) (hm : -100000 ≤ m ∧ m ≤ 100000) (h3 : skyV (addS a b m) = true) : addR a b m = some (addS a b m) := by
  unfold addR
  rw [if_pos ⟨by rw [h1, h2]; rfl, hm.1, hm.2, h3⟩]
theorem addR_len (a b : List Int) (m : Int) : ((addR a b m).getD []).length ≤ 16 := by unfold addR; split <;> simp [addS_len]
theorem skyV_sh {s : List Int} (h : skyV s = true) (d : Nat) : skyV (shL s d) = true :=
  skyV_of (shL_len _ _) fun k hk => by rw [shL_get _ _ _ hk]; exact iLe_sky h _
theorem addR_none {a b : List Int} {m : Int} (h : (addR a b m).isSome = false) : (addR a b m).getD [] = [] := by
  cases hc : addR a b m with
  | none => rfl
  | some x => rw [hc] at h; cases h
end Go.Proofs.YtbadeopjfmafcaaDoor
