/- The draws' reader as a whole, and the first draws. -/
import Derived.Test.YtbadeopjfmafcaaDoorPick
namespace Go.Proofs.YtbadeopjfmafcaaDoor
open Go.RowKit

theorem grown_far {A B C : World} {r s : Option Nat} (h : A.grownBy B r) (k : B.grownBy C s) (hs : ∀ j, s = some j → A.heap.size ≤ j) : A.grownBy C r :=
  ⟨k.os.trans h.os, k.tape.trans h.tape, k.output.trans h.output, Nat.le_trans h.size k.size, fun i hi hr => (k.block i (Nat.lt_of_lt_of_le hi h.size) fun e => by have := hs i e.symm; omega).trans (h.block i hi hr)⟩
/-- Rd over a step that turns one block alone. -/
theorem Rd.over {w w' : World} {A : Option Addr} {xs : List Value} {R : Nat} (h : Rd w w.heap.size A xs) (g : w.grownBy w' (some R)) (hA : ∀ b off, A = some ⟨b, off, none⟩ → b ≠ R ∨ xs = []) : Rd w' w'.heap.size A xs := by
  intro i u hu
  obtain ⟨b, off, e, hb, hc⟩ := h i u hu
  refine ⟨b, off, e, Nat.lt_of_lt_of_le hb g.size, (World.cell?_of_block (a := ⟨b, off + i, none⟩) (g.block b hb ?_)).trans hc⟩
  rintro hbR
  injection hbR with hbR
  rcases hA b off e with h | h
  · exact h hbR
  · rw [h] at hu; simp at hu
end Go.Proofs.YtbadeopjfmafcaaDoor
