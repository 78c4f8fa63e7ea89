/- 'impl.SkyShift'. -/
import Derived.Test.YtipgpafgampfbaaGreatDoorB1
namespace Go.Proofs.YtipgpafgampfbaaGreatDoor
open Go.RowKit

theorem skyV_sh {s : List Int} (h : skyV s = true) (d : Nat) : skyV (shL s d) = true :=
  skyV_of (shL_len _ _) fun k hk => by rw [shL_get _ _ _ hk]; exact iLe_sky h _
end Go.Proofs.YtipgpafgampfbaaGreatDoor
