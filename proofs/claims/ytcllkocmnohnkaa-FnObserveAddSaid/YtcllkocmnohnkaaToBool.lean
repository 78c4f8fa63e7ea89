/- laws.toBoolS copies, laws.eqBoolS compares. -/
import Derived.Test.YtcllkocmnohnkaaCov
import Derived.Test.YtcllkocmnohnkaaRow
namespace Go.Proofs.Ytcllkocmnohnkaa
open Go.RowKit

/-- A copy of which k elements are done. -/
def part {α : Type} (z : α) (l : List α) (k : Nat) : List α := l.take k ++ List.replicate (l.length - k) z
theorem part_len {α : Type} (z : α) (l : List α) (k : Nat) (h : k ≤ l.length) : (part z l k).length = l.length := by
  simp [part]; omega
theorem part_get {α : Type} (z : α) (l : List α) (k : Nat) (h : k < l.length) : (part z l k)[k]? = some z := by
  unfold part
  rw [List.getElem?_append_right (by simp; omega)]
  simp [List.getElem?_replicate]; omega
theorem part_succ {α : Type} (z : α) (l : List α) (k : Nat) (x : α) (hx : l[k]? = some x) : (part z l k).set k x = part z l (k + 1) := by
  have hk : k < l.length := (List.getElem?_eq_some_iff.1 hx).1
  have hx' : l[k] = x := (List.getElem?_eq_some_iff.1 hx).2
  unfold part
  rw [List.set_append_right _ _ (by simp; omega), List.length_take, Nat.min_eq_left (by omega), Nat.sub_self]
  rw [List.take_succ_eq_append_getElem hk, hx', List.append_assoc]
  congr 1
  rw [show l.length - k = (l.length - (k + 1)) + 1 by omega, List.replicate_succ]
  simp
theorem part_all {α : Type} (z : α) (l : List α) : part z l l.length = l := by simp [part]

end Go.Proofs.Ytcllkocmnohnkaa
