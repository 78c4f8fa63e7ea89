/- Plain laws of arrays of antennas. -/
import Derived.Test.YtcllkocmnohnkaaGridP
namespace Go.Proofs.Ytcllkocmnohnkaa
open Go.RowKit

def antOk (a : Int × Int) : Bool := inR a.1 (-1000) 1000 && inR a.2 (-1000) 1000
/-- So many antennas are places, each other than those ahead of it. -/
def arrP (xs : List (Int × Int)) (n : Nat) : Bool := (List.range n).all fun i => antOk (xs.getD i (0, 0)) && !decide (xs.getD i (0, 0) ∈ xs.take i)
def arrV (xs : List (Int × Int)) : Bool := inR xs.length 2 7 && arrP xs xs.length
theorem arrP_succ (xs : List (Int × Int)) (n : Nat) : arrP xs (n + 1) = (arrP xs n && (antOk (xs.getD n (0, 0)) && !decide (xs.getD n (0, 0) ∈ xs.take n))) := all_range_succ _ n
theorem arrP_no {xs : List (Int × Int)} {n i : Nat} (hi : i < n) (h : (antOk (xs.getD i (0, 0)) && !decide (xs.getD i (0, 0) ∈ xs.take i)) = false) : arrP xs n = false := by
  unfold arrP
  rw [List.all_eq_false]
  exact ⟨i, List.mem_range.2 hi, by rw [h]; simp⟩
theorem arrV_len {xs : List (Int × Int)} (h : arrV xs = true) : 2 ≤ xs.length ∧ xs.length ≤ 7 := by
  unfold arrV at h
  rw [Bool.and_eq_true, inR_iff] at h
  omega
theorem arrV_gLe {xs : List (Int × Int)} (h : arrV xs = true) : gLe 1000 xs := fun x hx => by
  obtain ⟨k, hk, rfl⟩ := getD_idx (d := (0, 0)) hx
  unfold arrV at h
  rw [Bool.and_eq_true] at h
  have h2 := h.2
  unfold arrP at h2
  rw [List.all_eq_true] at h2
  have h3 := h2 k (List.mem_range.2 hk)
  rw [Bool.and_eq_true] at h3
  have h4 := h3.1
  unfold antOk at h4
  rw [Bool.and_eq_true, inR_iff, inR_iff] at h4
  exact h4
theorem vec_bd {xs : List (Int × Int)} (h : gLe 1000 xs) (i j : Nat) : (-2000 ≤ vecX xs i j ∧ vecX xs i j ≤ 2000) ∧ -2000 ≤ vecY xs i j ∧ vecY xs i j ≤ 2000 := by
  have h1 := gLe_get h (by omega) i
  have h2 := gLe_get h (by omega) j
  unfold vecX vecY
  omega
/-- The pair of a baseline. -/
def pairAt (n k : Nat) : Nat × Nat := (pairsN n).getD k (0, 0)
theorem pairAt_lt {n k : Nat} (h : k < (pairsN n).length) : (pairAt n k).1 < (pairAt n k).2 ∧ (pairAt n k).2 < n := mem_pairsN (getD_mem h)
end Go.Proofs.Ytcllkocmnohnkaa
