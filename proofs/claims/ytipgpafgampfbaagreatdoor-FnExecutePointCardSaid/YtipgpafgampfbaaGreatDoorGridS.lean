/- 'spec.l43Put' and 'spec.ObserveGrid'. -/
import Derived.Test.YtipgpafgampfbaaGreatDoorB2
import Derived.Test.YtipgpafgampfbaaGreatDoorMix
namespace Go.Proofs.YtipgpafgampfbaaGreatDoor
open Go.RowKit

/-- All blocks but two are as they were. -/
structure Kept2 (a b : Nat) (w w' : World) : Prop where
  os : w'.os = w.os
  tape : w'.tape = w.tape
  output : w'.output = w.output
  size : w.heap.size ≤ w'.heap.size
  block : ∀ j, j < w.heap.size → j ≠ a → j ≠ b → w'.heap[j]? = w.heap[j]?
section
variable {a b : Nat} {w w' w'' : World}
theorem Kept2.refl (a b : Nat) (w : World) : Kept2 a b w w := ⟨rfl, rfl, rfl, Nat.le_refl _, fun _ _ _ _ => rfl⟩
theorem Kept2.trans (h : Kept2 a b w w') (k : Kept2 a b w' w'') : Kept2 a b w w'' :=
  ⟨k.os.trans h.os, k.tape.trans h.tape, k.output.trans h.output, Nat.le_trans h.size k.size, fun j hj ha hb => (k.block j (Nat.lt_of_lt_of_le hj h.size) ha hb).trans (h.block j hj ha hb)⟩
theorem Kept2.of_below (h : Below w.heap.size w w') : Kept2 a b w w' := ⟨h.os, h.tape, h.output, h.size, fun j hj _ _ => h.block j hj⟩
theorem Kept2.set_a (i : Nat) (v : Value) : Kept2 a b w (w.setCell ⟨a, i, none⟩ v) :=
  have g := grown_set w a i v
  ⟨g.os, g.tape, g.output, g.size, fun j hj ha _ => g.block j hj (fun e => ha (by injection e))⟩
theorem Kept2.set_b (i : Nat) (v : Value) : Kept2 a b w (w.setCell ⟨b, i, none⟩ v) :=
  have g := grown_set w b i v
  ⟨g.os, g.tape, g.output, g.size, fun j hj _ hb => g.block j hj (fun e => hb (by injection e))⟩
theorem Kept2.row {g : Nat} {T : TypeId} {xs : List Value} (h : Kept2 a b w w') (hr : Row w g T xs) (ha : g ≠ a) (hb : g ≠ b) : Row w' g T xs := (h.block g hr.lt ha hb).trans hr
theorem Kept2.below {B : Nat} {w0 : World} (h : Kept2 a b w w') (hb : Below B w0 w) (ha : B ≤ a) (hb' : B ≤ b) (hB : B ≤ w.heap.size) : Below B w0 w' :=
  ⟨h.os.trans hb.os, h.tape.trans hb.tape, h.output.trans hb.output, Nat.le_trans hb.size h.size, fun j hj => (h.block j (by omega) (by omega) (by omega)).trans (hb.block j hj)⟩
end

theorem gput_no {g : List (Int × Int)} {kn : List Bool} {i : Nat} {x : Int × Int} (h1 : kn.getD i false = true) (h2 : g.getD i (0, 0) ≠ x) : gput (g, kn) i x = none := by unfold gput; rw [if_pos ⟨h1, h2⟩]
theorem gput_yes {g : List (Int × Int)} {kn : List Bool} {i : Nat} {x : Int × Int} (h : kn.getD i false = false ∨ g.getD i (0, 0) = x) : gput (g, kn) i x = some (g.set i x, kn.set i true) := by
  unfold gput
  rw [if_neg]
  rintro ⟨h1, h2⟩
  rcases h with h | h
  · dsimp only at h1; rw [h] at h1; cases h1
  · exact h2 h

end Go.Proofs.YtipgpafgampfbaaGreatDoor
