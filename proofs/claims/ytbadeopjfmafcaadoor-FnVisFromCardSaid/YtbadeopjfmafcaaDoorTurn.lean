/- An observation turned by quarter gains. -/
import Derived.Test.YtbadeopjfmafcaaDoorA3
import Derived.Maps.AppendAt
import Derived.Test.YtbadeopjfmafcaaDoorA2
import Derived.Test.YtbadeopjfmafcaaDoorA1
import Derived.Shelf.Abstract
import Derived.RangeFuncBox
namespace Go.Proofs.YtbadeopjfmafcaaDoor
open Go.RowKit Go.Shelf
attribute [local go_sem] Oper.semAt_some

/-- The numbers of the baselines of a list, turned. -/
def turnedOf (gs : List (Int × Int)) (q : List Int) (ps : List (Nat × Nat)) : List (Int × Int) :=
  (List.range ps.length).map fun k => turnAt (gs.getD k (0, 0)) (q.getD (ps.getD k (0, 0)).2 0 - q.getD (ps.getD k (0, 0)).1 0)
theorem turnedOf_snoc (gs : List (Int × Int)) (q : List Int) (ps : List (Nat × Nat)) (x : Nat × Nat) :
    turnedOf gs q (ps ++ [x]) = turnedOf gs q ps ++ [turnAt (gs.getD ps.length (0, 0)) (q.getD x.2 0 - q.getD x.1 0)] := by
  unfold turnedOf
  rw [List.length_append, List.length_singleton, List.range_succ, List.map_append]
  congr 1
  · refine List.map_congr_left fun k hk => ?_
    have hk' : k < ps.length := List.mem_range.1 hk
    rw [show (ps ++ [x]).getD k (0, 0) = ps.getD k (0, 0) from by simp [List.getD, List.getElem?_append_left hk']]
  · simp
theorem turnedOf_len (gs : List (Int × Int)) (q : List Int) (ps : List (Nat × Nat)) : (turnedOf gs q ps).length = ps.length := by simp [turnedOf]

/-- A box whose slice owns its row. -/
def BoxRow (n₀ B : Nat) (t e : TypeId) (size k : Nat) (xs : List Value) (W : World) : Prop := ∃ v, Boxed W B t v ∧ W.ownsRow n₀ e size v k xs
theorem BoxRow.kept {n₀ B : Nat} {t e : TypeId} {size k : Nat} {xs : List Value} {X Y : World} {row : Option Nat} (h : BoxRow n₀ B t e size k xs X) (hg : X.grownBy Y row) (hrow : ∀ r, row = some r → ∃ o : Obj, X.heap[r]? = some o ∧ o.isCells = false) : BoxRow n₀ B t e size k xs Y := by
  obtain ⟨v, hv, hr⟩ := h
  obtain ⟨v', h1, h2, _⟩ := holdsRow_own n₀ B t e size (fun _ : Unit => k) (fun _ => xs) (fun _ _ => True) () X Y row ⟨v, hv, hr, trivial⟩ hg hrow
  exact ⟨v', h1, h2⟩
theorem Boxed.keptO {X Y : World} {B : Nat} {t : TypeId} {v : Value} {row : Option Nat} (h : Boxed X B t v) (hg : X.grownBy Y row) (hrow : ∀ r, row = some r → ∃ o : Obj, X.heap[r]? = some o ∧ o.isCells = false) : Boxed Y B t v :=
  boxed_own B t (fun _ : Unit => v) () X Y row h hg hrow
end Go.Proofs.YtbadeopjfmafcaaDoor
