/- What the laws on observations have in common. -/
import Derived.Test.YtfandpgjlahnpaaObsS
import Derived.Test.YtfandpgjlahnpaaDrawA
import Derived.Test.YtfandpgjlahnpaaSkyD
namespace Go.Proofs.Ytfandpgjlahnpaa
open Go.RowKit

theorem obsR_len (ants : List (Int × Int)) (s : List Int) : (obsR ants s).length ≤ 21 := by
  unfold obsR
  split
  · rename_i h
    rw [Bool.and_eq_true] at h
    have := arrV_len h.1
    rw [obsL_len]
    exact pairs21 _ this.1 this.2
  · simp
theorem pairs_pos (n : Nat) (h2 : 2 ≤ n) (h7 : n ≤ 7) : 1 ≤ (pairsN n).length := by
  have := bm_pairs n h2 h7; have := bm_cases n; omega
theorem obs_add (ants : List (Int × Int)) (a b : List Int) (k : Nat) (h : k < (pairsN ants.length).length) :
    (obsL ants (addS a b 1)).getD k (0, 0) = (((obsL ants a).getD k (0, 0)).1 + ((obsL ants b).getD k (0, 0)).1, ((obsL ants a).getD k (0, 0)).2 + ((obsL ants b).getD k (0, 0)).2) := by
  rw [obsL_get _ _ _ h, obsL_get _ _ _ h, obsL_get _ _ _ h, skyT_add _ _ _ _ (vecC_lt _ _ _), Int.one_mul, Int.one_mul]
theorem obs_le {ants : List (Int × Int)} {s : List Int} (h : skyV s = true) : gLe 1600000 (obsL ants s) := fun x hx => by
  unfold obsL at hx
  obtain ⟨p, _, rfl⟩ := List.mem_map.1 hx
  exact gLe_get (gLe_skyT h) (by omega) _
end Go.Proofs.Ytfandpgjlahnpaa
