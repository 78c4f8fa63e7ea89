/- Plain laws of solving an observation for quarter gains. -/
import Derived.Test.YtcllkocmnohnkaaTurnQ
namespace Go.Proofs.Ytcllkocmnohnkaa
open Go.RowKit

/-- The quarter gains number k of n antennas: the digits of k at base 4, the first of n being 0. -/
def solveQ (n k : Nat) : List Int := (List.range n).map fun i => if i = 0 then 0 else ((k / 4 ^ (n - 1 - i) % 4 : Nat) : Int)
theorem solveQ_len (n k : Nat) : (solveQ n k).length = n := by simp [solveQ]
theorem solveQ_3 (n k : Nat) : ∀ x ∈ solveQ n k, 0 ≤ x ∧ x ≤ 3 := fun x hx => by
  unfold solveQ at hx
  obtain ⟨i, _, rfl⟩ := List.mem_map.1 hx
  split <;> omega
theorem solveQ_get (n k i : Nat) (h : i < n) : (solveQ n k).getD i 0 = if i = 0 then 0 else ((k / 4 ^ (n - 1 - i) % 4 : Nat) : Int) := by
  unfold solveQ
  rw [List.getD_eq_getElem?_getD, List.getElem?_map, List.getElem?_range h]; rfl
def solveHit (n : Nat) (seen model : List (Int × Int)) (k : Nat) : Bool := decide (turnedOf model (solveQ n k) (pairsN n) = seen)
def solveK (n : Nat) (seen model : List (Int × Int)) : Option Nat := (List.range (4 ^ (n - 1))).find? (solveHit n seen model)
def solveV (n : Int) (seen model : List (Int × Int)) : Option (List Int) :=
  if (obsV n seen && obsV n model) = true then (solveK n.toNat seen model).map (solveQ n.toNat) else none
theorem solveV_no {n : Int} {seen model : List (Int × Int)} (h : (obsV n seen && obsV n model) = false) : solveV n seen model = none := by
  unfold solveV; rw [h]; rfl
theorem find_range_some {p : Nat → Bool} {m k : Nat} (hk : k < m) (hp : p k = true) (hl : ∀ j, j < k → p j = false) : (List.range m).find? p = some k := by
  rw [List.find?_range_eq_some]
  exact ⟨hp, by simpa using hk, fun j hj => by rw [hl j hj]; rfl⟩
theorem find_range_none {p : Nat → Bool} {m : Nat} (hl : ∀ j, j < m → p j = false) : (List.range m).find? p = none := by
  rw [List.find?_range_eq_none]
  intro j hj
  rw [hl j hj]; rfl
theorem solveV_hit {n : Nat} {seen model : List (Int × Int)} (h1 : obsV n seen = true) (h2 : obsV n model = true) {k : Nat} (hk : k < 4 ^ (n - 1)) (hp : solveHit n seen model k = true) (hl : ∀ j, j < k → solveHit n seen model j = false) :
    solveV n seen model = some (solveQ n k) := by
  unfold solveV solveK
  rw [h1, h2, if_pos (by rfl), Int.toNat_natCast, find_range_some hk hp hl]; rfl
theorem solveV_miss {n : Nat} {seen model : List (Int × Int)} (h1 : obsV n seen = true) (h2 : obsV n model = true) (hl : ∀ j, j < 4 ^ (n - 1) → solveHit n seen model j = false) :
    solveV n seen model = none := by
  unfold solveV solveK
  rw [h1, h2, if_pos (by rfl), Int.toNat_natCast, find_range_none hl]; rfl
theorem solveV_some {n : Nat} {seen model : List (Int × Int)} {q : List Int} (h : solveV n seen model = some q) : obsV n seen = true ∧ obsV n model = true ∧ ∃ k, k < 4 ^ (n - 1) ∧ q = solveQ n k ∧ turnedOf model q (pairsN n) = seen ∧ ∀ j, j < k → solveHit n seen model j = false := by
  unfold solveV at h
  split at h
  · rename_i h1
    rw [Bool.and_eq_true] at h1
    rw [Int.toNat_natCast] at h
    obtain ⟨k, hk, rfl⟩ := Option.map_eq_some_iff.1 h
    unfold solveK at hk
    rw [List.find?_range_eq_some] at hk
    obtain ⟨ha, hb, hc⟩ := hk
    refine ⟨h1.1, h1.2, k, by simpa using hb, rfl, of_decide_eq_true ha, fun j hj => by simpa using hc j hj⟩
  · cases h
theorem div4 (k d j : Nat) (hd : d < 4) : (k * 4 + d) / 4 ^ (j + 1) = k / 4 ^ j := by
  rw [Nat.pow_succ, Nat.mul_comm (4 ^ j) 4, ← Nat.div_div_eq_div_mul, show (k * 4 + d) / 4 = k by omega]
/-- All digits occur: whatever quarter gains with a first one of 0 have a number. -/
theorem solveQ_onto (n : Nat) (q : List Int) (hn : 1 ≤ n) (hq : q.length = n) (h0 : q.getD 0 0 = 0) (h3 : ∀ x ∈ q, 0 ≤ x ∧ x ≤ 3) : ∃ k, k < 4 ^ (n - 1) ∧ solveQ n k = q := by
  induction n generalizing q with
  | zero => omega
  | succ n ih =>
    by_cases h1 : n = 0
    · subst h1
      refine ⟨0, by decide, ?_⟩
      match q, hq with
      | [x], _ => simp [solveQ, List.range_succ] at h0 ⊢; exact h0.symm
    · obtain ⟨k, hk, hs⟩ := ih (q.take n) (by omega) (by rw [List.length_take, hq]; omega) (by
        rw [List.getD_eq_getElem?_getD, List.getElem?_take, if_pos (by omega), ← List.getD_eq_getElem?_getD]; exact h0) (fun x hx => h3 x (List.mem_of_mem_take hx))
      obtain ⟨d, hd⟩ : ∃ d, q[n]? = some d := ⟨_, List.getElem?_eq_getElem (by omega)⟩
      have hd3 := h3 d (List.mem_of_getElem? hd)
      refine ⟨k * 4 + d.toNat, ?_, ?_⟩
      · have : 4 ^ (n + 1 - 1) = 4 ^ (n - 1) * 4 := by rw [show n + 1 - 1 = (n - 1) + 1 by omega, Nat.pow_succ]
        omega
      · have hdr : q.drop n = [d] := by
          rw [List.drop_eq_getElem_cons (by omega), List.drop_of_length_le (by omega)]
          rw [List.getElem?_eq_getElem (by omega)] at hd
          injection hd with hd; rw [hd]
        have hq2 : q = q.take n ++ [d] := by rw [← hdr, List.take_append_drop]
        rw [hq2, ← hs]
        unfold solveQ
        rw [List.range_succ, List.map_append]
        congr 1
        · refine List.map_congr_left fun i hi => ?_
          have hi' := List.mem_range.1 hi
          split
          · rfl
          · rw [show n + 1 - 1 - i = (n - 1 - i) + 1 by omega, div4 _ _ _ (by omega)]
        · simp only [List.map_cons, List.map_nil]
          rw [if_neg h1, show n + 1 - 1 - n = 0 by omega, Nat.pow_zero, Nat.div_one]
          congr 1
          omega
end Go.Proofs.Ytcllkocmnohnkaa
