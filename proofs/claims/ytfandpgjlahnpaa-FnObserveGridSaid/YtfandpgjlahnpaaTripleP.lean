/- Plain laws of triples of an observation. -/
import Derived.Test.YtfandpgjlahnpaaTurnQ
import Derived.Test.YtfandpgjlahnpaaTurnS
namespace Go.Proofs.Ytfandpgjlahnpaa
open Go.RowKit

/-- The product of three numbers, the third conjugated; whether it fits. -/
def trip3 (a b c : Int × Int) : (Int × Int) × Bool :=
  if (gMul a.1 a.2 b.1 b.2).2 = true then gMul (gMul a.1 a.2 b.1 b.2).1.1 (gMul a.1 a.2 b.1 b.2).1.2 c.1 (-c.2) else ((0, 0), false)
def tripOK (n : Int) (gs : List (Int × Int)) (i j k : Int) : Bool := obsV n gs && (decide (0 ≤ i) && (decide (i < j) && (decide (j < k) && decide (k < n))))
def tripV (n : Int) (gs : List (Int × Int)) (i j k : Int) : (Int × Int) × Bool :=
  if tripOK n gs i j k = true then trip3 (gs.getD (bF n i j).toNat (0, 0)) (gs.getD (bF n j k).toNat (0, 0)) (gs.getD (bF n i k).toNat (0, 0)) else ((0, 0), false)
theorem tripOK_iff {n : Int} {gs : List (Int × Int)} {i j k : Int} : tripOK n gs i j k = true ↔ obsV n gs = true ∧ 0 ≤ i ∧ i < j ∧ j < k ∧ k < n := by
  unfold tripOK; simp
theorem tripV_no {n : Int} {gs : List (Int × Int)} {i j k : Int} (h : tripOK n gs i j k = false) : tripV n gs i j k = ((0, 0), false) := by
  unfold tripV; rw [h]; rfl
theorem tripV_yes {n : Int} {gs : List (Int × Int)} {i j k : Int} (h : tripOK n gs i j k = true) : tripV n gs i j k = trip3 (gs.getD (bF n i j).toNat (0, 0)) (gs.getD (bF n j k).toNat (0, 0)) (gs.getD (bF n i k).toNat (0, 0)) := by
  unfold tripV; rw [h]; rfl

theorem gMul_yes {a b c d : Int} (h : (gMul a b c d).2 = true) : gv a b = true ∧ gv c d = true ∧ gv (a * c - b * d) (a * d + b * c) = true ∧ (gMul a b c d).1 = (a * c - b * d, a * d + b * c) := by
  unfold gMul at h ⊢
  split at h
  · rename_i h'
    rw [Bool.and_eq_true, Bool.and_eq_true] at h'
    refine ⟨h'.1.1, h'.1.2, h'.2, ?_⟩
    rw [if_pos (by rw [h'.1.1, h'.1.2, h'.2]; rfl)]
  · cases h
theorem norm_mul (a b c d : Int) : (a * c - b * d) * (a * c - b * d) + (a * d + b * c) * (a * d + b * c) = (a * a + b * b) * (c * c + d * d) := by
  simp only [Int.mul_add, Int.mul_sub, Int.mul_comm, Int.mul_left_comm]; omega
theorem gNorm_yes {a b : Int} (h : gv a b = true) : gNorm a b = a * a + b * b := by unfold gNorm; rw [if_pos h]
theorem gMul_norm {a b c d : Int} (h : (gMul a b c d).2 = true) : gNorm (gMul a b c d).1.1 (gMul a b c d).1.2 = gNorm a b * gNorm c d := by
  obtain ⟨h1, h2, h3, h4⟩ := gMul_yes h
  rw [h4, gNorm_yes h1, gNorm_yes h2, gNorm_yes h3, norm_mul]
theorem gNorm_conj (a b : Int) : gNorm a (-b) = gNorm a b := by
  unfold gNorm
  have : gv a (-b) = gv a b := by
    rw [Bool.eq_iff_iff, gv_iff, gv_iff]; omega
  rw [this, Int.neg_mul_neg]
theorem gMul_gv {a b c d : Int} (h : (gMul a b c d).2 = true) : gv (gMul a b c d).1.1 (gMul a b c d).1.2 = true := by
  obtain ⟨h1, h2, h3, h4⟩ := gMul_yes h
  rw [h4]; exact h3
theorem trip3_norm {a b c : Int × Int} (h : (trip3 a b c).2 = true) : gNorm (trip3 a b c).1.1 (trip3 a b c).1.2 = gNorm a.1 a.2 * gNorm b.1 b.2 * gNorm c.1 c.2 ∧ gv (trip3 a b c).1.1 (trip3 a b c).1.2 = true := by
  unfold trip3 at h ⊢
  split at h
  · rename_i h1
    rw [if_pos h1, gMul_norm h, gMul_norm h1, gNorm_conj]
    exact ⟨rfl, gMul_gv h⟩
  · cases h

theorem gv_turnAt (g : Int × Int) (k : Int) : gv (turnAt g k).1 (turnAt g k).2 = gv g.1 g.2 := by
  rw [Bool.eq_iff_iff]
  refine ⟨fun h => ?_, turnAt_gv g k⟩
  have h2 := turnAt_gv _ (-k) h
  rw [turnAt_turnAt, turnAt_zero _ _ (by omega)] at h2
  exact h2
/-- The product of two turned numbers is the product, turned. -/
theorem gMul_turn (a b : Int × Int) (x y : Int) : gMul (turnAt a x).1 (turnAt a x).2 (turnAt b y).1 (turnAt b y).2 = (turnAt (gMul a.1 a.2 b.1 b.2).1 (x + y), (gMul a.1 a.2 b.1 b.2).2) := by
  have e : ((turnAt a x).1 * (turnAt b y).1 - (turnAt a x).2 * (turnAt b y).2, (turnAt a x).1 * (turnAt b y).2 + (turnAt a x).2 * (turnAt b y).1) = turnAt (a.1 * b.1 - a.2 * b.2, a.1 * b.2 + a.2 * b.1) (x + y) := by
    rw [← turnAt_turnAt]
    unfold turnAt
    simp only [Prod.mk.injEq]
    constructor <;> (simp only [Int.mul_add, Int.add_mul, Int.sub_mul, Int.mul_sub, Int.mul_comm, Int.mul_left_comm, Int.mul_assoc]; omega)
  have e1 : (turnAt a x).1 * (turnAt b y).1 - (turnAt a x).2 * (turnAt b y).2 = (turnAt (a.1 * b.1 - a.2 * b.2, a.1 * b.2 + a.2 * b.1) (x + y)).1 := congrArg Prod.fst e
  have e2 : (turnAt a x).1 * (turnAt b y).2 + (turnAt a x).2 * (turnAt b y).1 = (turnAt (a.1 * b.1 - a.2 * b.2, a.1 * b.2 + a.2 * b.1) (x + y)).2 := congrArg Prod.snd e
  have e0 : turnAt (0, 0) (x + y) = (0, 0) := by unfold turnAt; simp
  have hg := gv_turnAt (a.1 * b.1 - a.2 * b.2, a.1 * b.2 + a.2 * b.1) (x + y)
  unfold gMul
  rw [gv_turnAt, gv_turnAt, e1, e2, hg]
  split
  · rfl
  · rw [e0]
theorem conj_turn (c : Int × Int) (x : Int) : ((turnAt c x).1, -(turnAt c x).2) = turnAt (c.1, -c.2) (-x) := by
  rcases unit_cases x with ⟨h1, e1⟩ | ⟨h1, e1⟩ | ⟨h1, e1⟩ | ⟨h1, e1⟩ <;> rcases unit_cases (-x) with ⟨h2, e2⟩ | ⟨h2, e2⟩ | ⟨h2, e2⟩ | ⟨h2, e2⟩ <;>
    first | (exfalso; omega) | (unfold turnAt; rw [e1, e2]; simp)
theorem trip3_turn (a b c : Int × Int) (x y : Int) : trip3 (turnAt a x) (turnAt b y) (turnAt c (x + y)) = trip3 a b c := by
  have h1 : (turnAt c (x + y)).1 = (turnAt (c.1, -c.2) (-(x + y))).1 := by have h := congrArg Prod.fst (conj_turn c (x + y)); exact h
  have h2 : -(turnAt c (x + y)).2 = (turnAt (c.1, -c.2) (-(x + y))).2 := by have h := congrArg Prod.snd (conj_turn c (x + y)); exact h
  unfold trip3
  rw [gMul_turn]
  dsimp only
  split
  · rw [h1, h2, gMul_turn, turnAt_zero _ _ (by omega)]
  · rfl

theorem upTo_get (n i j : Nat) (h7 : n ≤ 7) (hi : i < j) (hj : j < n) : (pairsN n).getD (bF n i j).toNat (0, 0) = (i, j) ∧ (bF n i j).toNat < (pairsN n).length := by
  have hl := upTo_len_bF n i j h7 hi (by omega)
  have hp := inner_prefix n i (j + 1 - (i + 1)) (by omega)
  rw [rowOf_take n i j hi hj, ← List.append_assoc] at hp
  generalize hL : upTo n i ++ (rowOf n i).take (j - (i + 1)) = L at *
  have hb : (bF n i j).toNat = L.length := by omega
  rw [hb]
  obtain ⟨t, ht⟩ := hp
  rw [← ht]
  constructor
  · rw [List.getD_eq_getElem?_getD, List.getElem?_append_left (by simp), List.getElem?_append_right (by simp)]; simp
  · simp
theorem turned_trip {N : Nat} {gs : List (Int × Int)} {q : List Int} (h : turnOK N gs q = true) (i j k : Nat) : tripV N (turnR N gs q) i j k = tripV N gs i j k := by
  obtain ⟨h1, _, _⟩ := turnOK_of h
  have h2 := obsV_turned q h1
  have hR : turnR N gs q = turnedOf gs q (pairsN N) := by unfold turnR; rw [h, if_pos rfl]; rfl
  rw [hR]
  obtain ⟨m, hm, m2, m7, hl, _, _⟩ := obsV_of h1
  obtain rfl : N = m := by omega
  cases hc : tripOK N gs i j k
  · rw [tripV_no hc, tripV_no]
    unfold tripOK at hc ⊢
    rw [h1] at hc; rw [h2]; exact hc
  · obtain ⟨_, c1, c2, c3, c4⟩ := tripOK_iff.1 hc
    rw [tripV_yes hc, tripV_yes (tripOK_iff.2 ⟨h2, c1, c2, c3, c4⟩)]
    obtain ⟨a1, a2⟩ := upTo_get N i j m7 (by omega) (by omega)
    obtain ⟨b1, b2⟩ := upTo_get N j k m7 (by omega) (by omega)
    obtain ⟨d1, d2⟩ := upTo_get N i k m7 (by omega) (by omega)
    rw [turnedOf_get _ _ _ _ a2, turnedOf_get _ _ _ _ b2, turnedOf_get _ _ _ _ d2, a1, b1, d1]
    dsimp only
    rw [show q.getD k 0 - q.getD i 0 = (q.getD j 0 - q.getD i 0) + (q.getD k 0 - q.getD j 0) by omega]
    exact trip3_turn _ _ _ _ _
end Go.Proofs.Ytfandpgjlahnpaa
