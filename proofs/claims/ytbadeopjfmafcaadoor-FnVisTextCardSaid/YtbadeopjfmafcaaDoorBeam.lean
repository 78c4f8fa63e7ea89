/- 'impl.BeamOf' and what it calls. -/
import Derived.Test.YtbadeopjfmafcaaDoorA5
import Derived.Test.YtbadeopjfmafcaaDoorA1
import Derived.Test.YtbadeopjfmafcaaDoorDrawC
namespace Go.Proofs.YtbadeopjfmafcaaDoor
open Go.RowKit

theorem part_same {α : Type} (z : α) (l : List α) (k : Nat) (hx : l[k]? = some z) : part z l k = part z l (k + 1) := by
  rw [← part_succ z l k z hx]
  have hk : k < l.length := (List.getElem?_eq_some_iff.1 hx).1
  have h := part_get z l k hk
  refine (List.ext_getElem? fun i => ?_)
  rw [List.getElem?_set]
  split
  · rename_i e; subst e; rw [h, if_pos (List.getElem?_eq_some_iff.1 h).1]
  · rfl
theorem wts_get? (c : List Bool) (k : Nat) (h : k < c.length) : (wts c)[k]? = some (if c.getD k false then 1 else 0) := by
  unfold wts
  rw [List.getElem?_map, List.getD_eq_getElem?_getD, List.getElem?_eq_getElem h]; rfl

end Go.Proofs.YtbadeopjfmafcaaDoor
