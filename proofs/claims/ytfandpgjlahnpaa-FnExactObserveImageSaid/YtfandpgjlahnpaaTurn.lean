/- An observation turned by quarter gains. -/
import Derived.Test.YtfandpgjlahnpaaA3
import Derived.Maps.AppendAt
import Derived.Test.YtfandpgjlahnpaaA2
import Derived.Test.YtfandpgjlahnpaaA1
import Derived.Shelf.Abstract
import Derived.RangeFuncBox
namespace Go.Proofs.Ytfandpgjlahnpaa
open Go.RowKit Go.Shelf
attribute [local go_sem] Oper.semAt_some

/-- The numbers of the baselines of a list, turned. -/
def turnedOf (gs : List (Int × Int)) (q : List Int) (ps : List (Nat × Nat)) : List (Int × Int) :=
  (List.range ps.length).map fun k => turnAt (gs.getD k (0, 0)) (q.getD (ps.getD k (0, 0)).2 0 - q.getD (ps.getD k (0, 0)).1 0)
theorem turnedOf_snoc (gs : List (Int × Int)) (q : List Int) (ps : List (Nat × Nat)) (x : Nat × Nat) :
    turnedOf gs q (ps ++ [x]) = turnedOf gs q ps ++ [turnAt (gs.getD ps.length (0, 0)) (q.getD x.2 0 - q.getD x.1 0)] := by
  unfold turnedOf
  rw [List.length_append, List.length_singleton, List.range_succ, List.map_append]
  congr 1
  · refine List.map_congr_left fun k hk => ?_
    have hk' : k < ps.length := List.mem_range.1 hk
    rw [show (ps ++ [x]).getD k (0, 0) = ps.getD k (0, 0) from by simp [List.getD, List.getElem?_append_left hk']]
  · simp
theorem turnedOf_len (gs : List (Int × Int)) (q : List Int) (ps : List (Nat × Nat)) : (turnedOf gs q ps).length = ps.length := by simp [turnedOf]

/-- A box whose slice owns its row. -/
def BoxRow (n₀ B : Nat) (t e : TypeId) (size k : Nat) (xs : List Value) (W : World) : Prop := ∃ v, Boxed W B t v ∧ W.ownsRow n₀ e size v k xs
theorem BoxRow.kept {n₀ B : Nat} {t e : TypeId} {size k : Nat} {xs : List Value} {X Y : World} {row : Option Nat} (h : BoxRow n₀ B t e size k xs X) (hg : X.grownBy Y row) (hrow : ∀ r, row = some r → ∃ o : Obj, X.heap[r]? = some o ∧ o.isCells = false) : BoxRow n₀ B t e size k xs Y := by
  obtain ⟨v, hv, hr⟩ := h
  obtain ⟨v', h1, h2, _⟩ := holdsRow_own n₀ B t e size (fun _ : Unit => k) (fun _ => xs) (fun _ _ => True) () X Y row ⟨v, hv, hr, trivial⟩ hg hrow
  exact ⟨v', h1, h2⟩
theorem Boxed.keptO {X Y : World} {B : Nat} {t : TypeId} {v : Value} {row : Option Nat} (h : Boxed X B t v) (hg : X.grownBy Y row) (hrow : ∀ r, row = some r → ∃ o : Obj, X.heap[r]? = some o ∧ o.isCells = false) : Boxed Y B t v :=
  boxed_own B t (fun _ : Unit => v) () X Y row h hg hrow
/-- What holds between the rounds: the box of the numbers made, which own their row; the boxes of the parameters; and what lay before. -/
def QtI (n m capA capB : Nat) (A B : Option Addr) (gs : List (Int × Int)) (q : List Int) (w : World) (pre : List (BP n)) (W : World) : Prop :=
  BoxRow w.heap.size (w.heap.size + 1 + 1) 55 31 2 pre.length ((turnedOf gs q (pre.map (·.1))).flatMap pairCells) W ∧
    Boxed W w.heap.size 55 (.slice A m capA) ∧ Boxed W (w.heap.size + 1) 25 (.slice B n capB) ∧ Boxed W (w.heap.size + 1 + 1 + 1) 3 (.int .i64 n) ∧ Below w.heap.size w W
theorem QtI_own (n m capA capB : Nat) (A B : Option Addr) (gs : List (Int × Int)) (q : List Int) (w : World) (N : Nat) (hN : w.heap.size ≤ N) : OwnFrom N (QtI n m capA capB A B gs q w) := by
  intro s W W' row hs hg hr
  obtain ⟨h1, h2, h3, h5, h4⟩ := hs
  exact ⟨h1.kept hg (fun r e => (hr r e).2), Boxed.keptO h2 hg (fun r e => (hr r e).2), Boxed.keptO h3 hg (fun r e => (hr r e).2), Boxed.keptO h5 hg (fun r e => (hr r e).2), ownFrom_below (β := Unit) (Nat.le_refl _) hN () W W' row h4 hg hr⟩

end Go.Proofs.Ytfandpgjlahnpaa
