/- 'impl.ObserveTurn' at every input. -/
import Derived.Test.YtfandpgjlahnpaaTurn
import Derived.Deep.Onto
namespace Go.Proofs.Ytfandpgjlahnpaa
open Go.RowKit

def allQ (q : List Int) : Bool := q.all fun x => inR x 0 3

/-- What can be turned, and what comes out. -/
def turnOK (n : Int) (gs : List (Int × Int)) (q : List Int) : Bool := obsV n gs && (decide ((q.length : Int) = n) && allQ q)
def turnR (n : Int) (gs : List (Int × Int)) (q : List Int) : List (Int × Int) := if turnOK n gs q then turnedOf gs q (pairsN n.toNat) else []
theorem obsV_of {n : Int} {gs : List (Int × Int)} (h : obsV n gs = true) : ∃ k : Nat, n = k ∧ 2 ≤ k ∧ k ≤ 7 ∧ gs.length = (pairsN k).length ∧ gs.length ≤ 21 ∧ allV gs = true := by
  unfold obsV at h
  rw [Bool.and_eq_true, Bool.and_eq_true, inR_iff, decide_eq_true_eq] at h
  obtain ⟨⟨h2, h7⟩, hl, hv⟩ := h
  refine ⟨n.toNat, by omega, by omega, by omega, ?_, ?_, hv⟩
  · have := bm_pairs n.toNat (by omega) (by omega)
    rw [show ((n.toNat : Nat) : Int) = n from by omega] at this
    omega
  · have := bm_le n; omega

end Go.Proofs.Ytfandpgjlahnpaa
