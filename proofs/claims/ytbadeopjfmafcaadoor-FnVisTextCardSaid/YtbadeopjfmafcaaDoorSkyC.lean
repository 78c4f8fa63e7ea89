/- 'SkyFold', 'SkySum', 'CoverHoles' and the laws' 'spot'. -/
import Derived.Test.YtbadeopjfmafcaaDoorSkyB
import Derived.Test.YtbadeopjfmafcaaDoorBeamS
namespace Go.Proofs.YtbadeopjfmafcaaDoor
open Go.RowKit

def foldR (a b : List Int) : Option (List Int) := if (skyV a && skyV b) = true ∧ skyV (foldL a b) = true then some (foldL a b) else none


theorem spot_any (i : Nat) (n : Int) (w : World) (hi : i < 16) :
    Calls Tryd.prog 18 #[.int .i64 i, .int .i64 n] w fun e w' => e = .returned (.slice (some ⟨w.heap.size, 0, none⟩) 16 16) ∧ Row w' w.heap.size 3 ((spotL i n).map (Value.int .i64)) ∧ Below w.heap.size w w' := by
  obtain ⟨Z, hZ⟩ : ∃ Z, List.replicate 16 (Value.int .i64 0) = Z := ⟨_, rfl⟩
  have hmk : ∀ W : World, (Instr.makeSlice 22 (.int .i64 16) (.int .i64 16)).run Tryd.prog W = .ok (.slice (some ⟨W.heap.size, 0, none⟩) 16 16) (W.alloc (.cells Z.toArray 3)) := fun W => by
    rw [← hZ]; exact run_make1 (P := Tryd.prog) 22 3 (.int .i64 0) 8 Tryd.underlying22 (by kernel_rfl) rfl 16 (by omega) (by omega) W
  have r0 := Row.new w 3 Z
  have hz2 : Z = zeros16.map (Value.int .i64) := by rw [← hZ]; rfl
  have r0' := r0
  rw [hz2] at r0'
  have c0 := r0'.cell i
  rw [ints_get (by simp [zeros16]; exact hi), zeros16_get] at c0
  have f0 := r0'.frozen i
  rw [← hz2] at c0 f0
  have R1 := Lib.hid (Row.new w 3 (Z.set i (.int .i64 n)))
  have he : Z.set i (.int .i64 n) = (spotL i n).map (Value.int .i64) := by unfold spotL; rw [List.map_set, ← hz2]
  have hii : (i : Int) < 16 := by omega
  have He := Lib.hid he; clear he
  clear r0 r0' hZ hz2
  go_enter Tryd.func18, Tryd.ntmps18
  go_wp2_with fail
  go_ret
  exact ⟨rfl, by rw [← He.out]; exact R1.out, bA1⟩
end Go.Proofs.YtbadeopjfmafcaaDoor
