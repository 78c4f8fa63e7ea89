/- 'impl.DirtyOf', 'impl.masked', 'impl.SkySum'. -/
import Derived.Test.YtbadeopjfmafcaaDoorSkyC
namespace Go.Proofs.YtbadeopjfmafcaaDoor
open Go.RowKit

theorem getD_pair? {gs : List (Int × Int)} {k : Nat} (h : k < gs.length) : gs[k]? = some (gs.getD k (0, 0)) := getD_of h
theorem zeroG16 (L : List (Int × Int)) (hl : L.length = 16) : List.replicate (16 * 2) (Value.int .i64 0) = (part (0, 0) L 0).flatMap pairCells := by
  unfold part; rw [hl]; rfl

theorem gLe_mask {M : Int} {g : List (Int × Int)} (hM : 0 ≤ M) (h : gLe M g) (c : List Bool) : gLe M (maskG g c) := fun x hx => by
  unfold maskG at hx
  obtain ⟨k, _, rfl⟩ := List.mem_map.1 hx
  split
  · exact gLe_get h hM k
  · dsimp only; omega
theorem gLe_skyT {s : List Int} (h : skyV s = true) : gLe 1600000 (skyT s) := trf_le (gLe_reG (M := 100000) (by omega) (skyV_iff.1 h).2) (by omega) 1

def dirtyR (s : List Int) (c : List Bool) : Option (List Int) := if (skyV s && covV c) = true ∧ skyV (dirtyL s c) = true then some (dirtyL s c) else none
theorem dirtyR_eq {s : List Int} {c : List Bool} (h1 : skyV s = true) (h2 : covV c = true) : dirtyR s c = if skyV (dirtyL s c) then some (dirtyL s c) else none := by
  unfold dirtyR
  cases hc : skyV (dirtyL s c)
  · rw [if_neg (by rintro ⟨_, h⟩; cases h)]; rfl
  · rw [if_pos ⟨by rw [h1, h2]; rfl, rfl⟩]; rfl
/-- What 'skyChecked' hands on of an own row. -/
theorem okS_own2 {w : World} {base : Nat} {A : Option Addr} {c : Nat} {s : List Int} (h : w.ownsRow base 3 1 (.slice A 16 c) 16 (s.map (Value.int .i64))) (ok : Bool) :
    w.ownsRow base 3 1 (okS ok (.slice A 16 c)) (if ok then 16 else 0) ((if ok then s else []).map (Value.int .i64)) := by
  cases ok
  · exact World.ownsRow_nil _ _ _ _
  · exact h
end Go.Proofs.YtbadeopjfmafcaaDoor
