/- Plain laws of natural weights. -/
import Derived.Test.YtfandpgjlahnpaaA5
namespace Go.Proofs.Ytfandpgjlahnpaa
open Go.RowKit

def sumL {α : Type} (l : List α) (f : α → Int) : Int := (l.map f).sum
theorem sumL_nil {α : Type} (f : α → Int) : sumL [] f = 0 := rfl
theorem sumL_cons {α : Type} (x : α) (l : List α) (f : α → Int) : sumL (x :: l) f = f x + sumL l f := by unfold sumL; simp
theorem sumL_app {α : Type} (l m : List α) (f : α → Int) : sumL (l ++ m) f = sumL l f + sumL m f := by unfold sumL; rw [List.map_append, List.sum_append]
theorem sumL_congr {α : Type} {l : List α} {f g : α → Int} (h : ∀ x ∈ l, f x = g x) : sumL l f = sumL l g := by
  unfold sumL; congr 1; exact List.map_congr_left h
theorem sumL_sum16 {α : Type} (l : List α) (f : α → Nat → Int) : sum16 (fun k => sumL l fun x => f x k) = sumL l fun x => sum16 (f x) := by
  induction l with
  | nil => exact sum16_zero
  | cons x l ih =>
    rw [sumL_cons, ← ih, ← sum16_add]
    exact sum16_congr fun k _ => sumL_cons _ _ _
theorem sumL_mul {α : Type} (l : List α) (f : α → Int) (c : Int) : sumL l (fun x => f x * c) = sumL l f * c := by
  induction l with
  | nil => simp [sumL]
  | cons x l ih => rw [sumL_cons, sumL_cons, ih, Int.add_mul]
theorem sumL_bd {α : Type} (l : List α) (f : α → Int) (h : ∀ x ∈ l, 0 ≤ f x ∧ f x ≤ 2) : 0 ≤ sumL l f ∧ sumL l f ≤ 2 * l.length := by
  induction l with
  | nil => simp [sumL]
  | cons x l ih =>
    rw [sumL_cons, List.length_cons]
    have := h x List.mem_cons_self
    have := ih fun y hy => h y (List.mem_cons_of_mem _ hy)
    omega
/-- How often a baseline falls on a cell, in either direction. -/
def natT (ants : List (Int × Int)) (k : Nat) (p : Nat × Nat) : Int := (if vecC ants p.1 p.2 = k then 1 else 0) + if oppN (vecC ants p.1 p.2) = k then 1 else 0
def natL (ants : List (Int × Int)) : List Int := (List.range 16).map fun k => sumL (pairsN ants.length) (natT ants k)
theorem natL_len (ants : List (Int × Int)) : (natL ants).length = 16 := by simp [natL]
theorem natL_get (ants : List (Int × Int)) (k : Nat) (h : k < 16) : (natL ants).getD k 0 = sumL (pairsN ants.length) (natT ants k) := by
  unfold natL; rw [List.getD_eq_getElem?_getD, List.getElem?_map, List.getElem?_range h]; rfl
theorem natT_bd (ants : List (Int × Int)) (k : Nat) (p : Nat × Nat) : 0 ≤ natT ants k p ∧ natT ants k p ≤ 2 := by
  unfold natT; split <;> split <;> omega
theorem natT_opp (ants : List (Int × Int)) (k : Nat) (hk : k < 16) (p : Nat × Nat) : natT ants (oppN k) p = natT ants k p := by
  unfold natT
  have hv := vecC_lt ants p.1 p.2
  generalize vecC ants p.1 p.2 = v at *
  have e1 : (v = oppN k) ↔ (oppN v = k) := ⟨fun h => by rw [h, oppN_oppN k hk], fun h => by rw [← h, oppN_oppN v hv]⟩
  have e2 : (oppN v = oppN k) ↔ (v = k) := ⟨fun h => by rw [← oppN_oppN v hv, h, oppN_oppN k hk], fun h => by rw [h]⟩
  rw [show (if v = oppN k then (1 : Int) else 0) = if oppN v = k then 1 else 0 from by simp only [e1], show (if oppN v = oppN k then (1 : Int) else 0) = if v = k then 1 else 0 from by simp only [e2], Int.add_comm]
theorem wtV_nat (ants : List (Int × Int)) (hn : (pairsN ants.length).length ≤ 21) : wtV (natL ants) = true := by
  refine wtV_iff.2 ⟨natL_len ants, fun k hk => ⟨?_, ?_⟩⟩
  · rw [natL_get _ _ hk]
    have := sumL_bd (pairsN ants.length) (natT ants k) fun p _ => natT_bd ants k p
    omega
  · rw [natL_get _ _ hk, natL_get _ _ (oppN_lt k)]
    exact sumL_congr fun p _ => natT_opp ants k hk p
/-- The phase of an antenna for the wave k. -/
def antE (ants : List (Int × Int)) (k i : Nat) : Int := ((k % 4 : Nat) : Int) * (ants.getD i (0, 0)).1 + ((k / 4 : Nat) : Int) * (ants.getD i (0, 0)).2
theorem nat_beam (ants : List (Int × Int)) (k : Nat) (hk : k < 16) : (wbeam (natL ants)).getD k 0 = sumL (pairsN ants.length) fun p => 2 * wr k (vecC ants p.1 p.2) := by
  rw [wbeam_get _ _ hk]
  have e : ∀ l, l < 16 → (natL ants).getD l 0 * (unit (ph k l)).1 = sumL (pairsN ants.length) fun p => natT ants l p * wr k l := fun l hl => by
    rw [natL_get _ _ hl, ← sumL_mul]; rfl
  rw [sum16_congr e, sumL_sum16]
  refine sumL_congr fun p _ => ?_
  have hv := vecC_lt ants p.1 p.2
  unfold natT
  generalize vecC ants p.1 p.2 = v at *
  have e2 : ∀ l, l < 16 → ((if v = l then (1 : Int) else 0) + if oppN v = l then 1 else 0) * wr k l = wr k l * (if l = v then 1 else 0) + wr k l * (if l = oppN v then 1 else 0) := fun l _ => by
    rw [Int.mul_comm, Int.mul_add]
    congr 2
    · by_cases h : v = l
      · rw [if_pos h, if_pos h.symm]
      · rw [if_neg h, if_neg fun h' => h h'.symm]
    · by_cases h : oppN v = l
      · rw [if_pos h, if_pos h.symm]
      · rw [if_neg h, if_neg fun h' => h h'.symm]
  rw [sum16_congr e2, sum16_add, sum16_pick (fun l => wr k l) v hv, sum16_pick (fun l => wr k l) (oppN v) (oppN_lt v), wr_comm k (oppN v), wr_opp v k hv hk, wr_comm v k]
  omega
theorem wr_vec (ants : List (Int × Int)) (k i j : Nat) : wr k (vecC ants i j) = (unit (antE ants k j)).1 * (unit (antE ants k i)).1 + (unit (antE ants k j)).2 * (unit (antE ants k i)).2 := by
  have h := ph_cell (vecX ants i j) (vecY ants i j) k
  have e : unit (ph k (vecC ants i j)) = unit (antE ants k j + -(antE ants k i)) := by
    refine unit_congr ?_
    rw [ph_comm]
    unfold vecC
    have e2 : vecX ants i j * ((k % 4 : Nat) : Int) + vecY ants i j * ((k / 4 : Nat) : Int) = antE ants k j + -(antE ants k i) := by
      unfold vecX vecY antE
      rw [Int.sub_mul, Int.sub_mul, Int.mul_comm ((k % 4 : Nat) : Int), Int.mul_comm ((k / 4 : Nat) : Int), Int.mul_comm ((k % 4 : Nat) : Int), Int.mul_comm ((k / 4 : Nat) : Int)]
      omega
    rw [← e2]; exact h
  unfold wr
  rw [e, (mul_unit _ _).1, unit_neg]
  simp only [Int.mul_neg]
  omega
theorem pair_sum (n : Nat) (h2 : 2 ≤ n) (h7 : n ≤ 7) (f : Nat → Nat → Int) : sumN n (fun i => sumN n fun j => f i j) = sumN n (fun i => f i i) + sumL (pairsN n) fun p => f p.1 p.2 + f p.2 p.1 := by
  have hn : n = 2 ∨ n = 3 ∨ n = 4 ∨ n = 5 ∨ n = 6 ∨ n = 7 := by omega
  rcases hn with rfl | rfl | rfl | rfl | rfl | rfl <;> simp [sumN, sumL, pairsN, upTo, rowOf, List.range_succ] <;> omega
def natS (ants : List (Int × Int)) (k n : Nat) : Int × Int := (sumN n fun i => (unit (antE ants k i)).1, sumN n fun i => (unit (antE ants k i)).2)
theorem nat_norm (ants : List (Int × Int)) (h2 : 2 ≤ ants.length) (h7 : ants.length ≤ 7) (k : Nat) (hk : k < 16) :
    (wbeam (natL ants)).getD k 0 + ants.length = (natS ants k ants.length).1 * (natS ants k ants.length).1 + (natS ants k ants.length).2 * (natS ants k ants.length).2 := by
  rw [nat_beam ants k hk]
  generalize hn : ants.length = n at *
  unfold natS
  dsimp only
  rw [← sumN_mul', ← sumN_mul', ← sumN_add]
  have e : ∀ i, i < n → (unit (antE ants k i)).1 * (sumN n fun j => (unit (antE ants k j)).1) + (unit (antE ants k i)).2 * (sumN n fun j => (unit (antE ants k j)).2) = sumN n fun j => wr k (vecC ants i j) := fun i _ => by
    rw [← sumN_mul, ← sumN_mul, ← sumN_add]
    refine sumN_congr fun j _ => ?_
    rw [wr_vec, Int.mul_comm (unit (antE ants k j)).1, Int.mul_comm (unit (antE ants k j)).2]
  rw [sumN_congr e, pair_sum n h2 h7]
  have e1 : (sumN n fun i => wr k (vecC ants i i)) = n := by
    have : ∀ i, i < n → wr k (vecC ants i i) = 1 := fun i _ => by
      have : vecC ants i i = 0 := by unfold vecC vecX vecY cellN cellI; simp
      rw [this]; exact wr_zero k hk
    rw [sumN_congr this]
    clear h2 h7 e hn this
    induction n with
    | zero => rfl
    | succ n ih => rw [sumN_succ, ih]; omega
  rw [e1, Int.add_comm]
  congr 1
  refine sumL_congr fun p _ => ?_
  rw [vecC_swap ants p.1 p.2, wr_comm k (oppN _), wr_opp _ _ (vecC_lt ants p.1 p.2) hk, wr_comm _ k]
  omega
theorem natS_bd (ants : List (Int × Int)) (k n : Nat) : (-(n : Int) ≤ (natS ants k n).1 ∧ (natS ants k n).1 ≤ n) ∧ -(n : Int) ≤ (natS ants k n).2 ∧ (natS ants k n).2 ≤ n := by
  induction n with
  | zero => simp [natS, sumN]
  | succ n ih =>
    unfold natS at *
    dsimp only at *
    rw [sumN_succ, sumN_succ]
    rcases unit_cases (antE ants k n) with ⟨_, e⟩ | ⟨_, e⟩ | ⟨_, e⟩ | ⟨_, e⟩ <;> rw [e] <;> dsimp only <;> omega
theorem natS_succ (ants : List (Int × Int)) (k n : Nat) : natS ants k (n + 1) = ((natS ants k n).1 + (unit (antE ants k n)).1, (natS ants k n).2 + (unit (antE ants k n)).2) := by
  unfold natS
  rw [sumN_succ, sumN_succ]
end Go.Proofs.Ytfandpgjlahnpaa
