/- Plain laws of natural weights, counted step by step. -/
import Derived.Test.YtfandpgjlahnpaaNatP
namespace Go.Proofs.Ytfandpgjlahnpaa
open Go.RowKit

/-- One more at a cell. -/
def incL (l : List Int) (c : Nat) : List Int := l.set c (l.getD c 0 + 1)
theorem incL_len (l : List Int) (c : Nat) : (incL l c).length = l.length := by unfold incL; rw [List.length_set]
theorem incL_get (l : List Int) (c k : Nat) (hc : c < l.length) : (incL l c).getD k 0 = l.getD k 0 + if c = k then 1 else 0 := by
  unfold incL
  rw [getD_set _ _ _ _ _ hc]
  by_cases h : k = c
  · subst h; rw [if_pos rfl, if_pos rfl]
  · rw [if_neg h, if_neg (fun e => h e.symm)]; omega
/-- The weights after some baselines. -/
def natP (ants : List (Int × Int)) (ps : List (Nat × Nat)) : List Int := (List.range 16).map fun k => sumL ps (natT ants k)
theorem natP_len (ants : List (Int × Int)) (ps : List (Nat × Nat)) : (natP ants ps).length = 16 := by simp [natP]
theorem natP_get (ants : List (Int × Int)) (ps : List (Nat × Nat)) (k : Nat) (h : k < 16) : (natP ants ps).getD k 0 = sumL ps (natT ants k) := by
  unfold natP; rw [List.getD_eq_getElem?_getD, List.getElem?_map, List.getElem?_range h]; rfl
theorem natP_all (ants : List (Int × Int)) : natP ants (pairsN ants.length) = natL ants := rfl
theorem natP_nil (ants : List (Int × Int)) : natP ants [] = List.replicate 16 0 := by
  refine ext16 (natP_len _ _) (by simp) fun k hk => ?_
  rw [natP_get _ _ _ hk, sumL_nil, List.getD_eq_getElem?_getD, List.getElem?_replicate, if_pos hk]; rfl
theorem natP_snoc (ants : List (Int × Int)) (ps : List (Nat × Nat)) (p : Nat × Nat) : natP ants (ps ++ [p]) = incL (incL (natP ants ps) (vecC ants p.1 p.2)) (oppN (vecC ants p.1 p.2)) := by
  have hv := vecC_lt ants p.1 p.2
  refine ext16 (natP_len _ _) (by rw [incL_len, incL_len, natP_len]) fun k hk => ?_
  rw [incL_get _ _ _ (by rw [incL_len, natP_len]; exact oppN_lt _), incL_get _ _ _ (by rw [natP_len]; exact hv), natP_get _ _ _ hk, natP_get _ _ _ hk, sumL_app, sumL_cons, sumL_nil]
  unfold natT
  omega
theorem natP_bd (ants : List (Int × Int)) (ps : List (Nat × Nat)) (k : Nat) : 0 ≤ (natP ants ps).getD k 0 ∧ (natP ants ps).getD k 0 ≤ 2 * ps.length := by
  by_cases hk : k < 16
  · rw [natP_get _ _ _ hk]
    exact sumL_bd ps (natT ants k) fun p _ => natT_bd ants k p
  · rw [List.getD_eq_getElem?_getD, List.getElem?_eq_none (by rw [natP_len]; omega)]
    simp only [Option.getD_none]
    omega
/-- The weights after some ordered pairs, row by row. -/
def natF (ants : List (Int × Int)) (k i j : Nat) : Int := if i ≠ j ∧ vecC ants i j = k then 1 else 0
def natV (ants : List (Int × Int)) (n i j : Nat) : List Int := (List.range 16).map fun k => sumN i (fun a => sumN n fun b => natF ants k a b) + sumN j fun b => natF ants k i b
theorem natV_len (ants : List (Int × Int)) (n i j : Nat) : (natV ants n i j).length = 16 := by simp [natV]
theorem natV_get (ants : List (Int × Int)) (n i j k : Nat) (h : k < 16) : (natV ants n i j).getD k 0 = sumN i (fun a => sumN n fun b => natF ants k a b) + sumN j fun b => natF ants k i b := by
  unfold natV; rw [List.getD_eq_getElem?_getD, List.getElem?_map, List.getElem?_range h]; rfl
theorem natV_zero (ants : List (Int × Int)) (n : Nat) : natV ants n 0 0 = List.replicate 16 0 := by
  refine ext16 (natV_len _ _ _ _) (by simp) fun k hk => ?_
  rw [natV_get _ _ _ _ _ hk, sumN_zero, sumN_zero, List.getD_eq_getElem?_getD, List.getElem?_replicate, if_pos hk]; rfl
theorem natV_row (ants : List (Int × Int)) (n i : Nat) : natV ants n i n = natV ants n (i + 1) 0 := by
  refine ext16 (natV_len _ _ _ _) (natV_len _ _ _ _) fun k hk => ?_
  rw [natV_get _ _ _ _ _ hk, natV_get _ _ _ _ _ hk, sumN_succ, sumN_zero]; omega
theorem natV_same (ants : List (Int × Int)) (n i : Nat) : natV ants n i (i + 1) = natV ants n i i := by
  refine ext16 (natV_len _ _ _ _) (natV_len _ _ _ _) fun k hk => ?_
  rw [natV_get _ _ _ _ _ hk, natV_get _ _ _ _ _ hk, sumN_succ]
  have : natF ants k i i = 0 := if_neg fun h => h.1 rfl
  omega
theorem natV_step (ants : List (Int × Int)) (n i j : Nat) (h : i ≠ j) : natV ants n i (j + 1) = incL (natV ants n i j) (vecC ants i j) := by
  refine ext16 (natV_len _ _ _ _) (by rw [incL_len, natV_len]) fun k hk => ?_
  rw [incL_get _ _ _ (by rw [natV_len]; exact vecC_lt _ _ _), natV_get _ _ _ _ _ hk, natV_get _ _ _ _ _ hk, sumN_succ]
  have : natF ants k i j = if vecC ants i j = k then 1 else 0 := by
    unfold natF
    by_cases hc : vecC ants i j = k
    · rw [if_pos ⟨h, hc⟩, if_pos hc]
    · rw [if_neg (fun h => hc h.2), if_neg hc]
  omega
theorem natV_all (ants : List (Int × Int)) (h2 : 2 ≤ ants.length) (h7 : ants.length ≤ 7) : natV ants ants.length ants.length 0 = natL ants := by
  refine ext16 (natV_len _ _ _ _) (natL_len _) fun k hk => ?_
  rw [natV_get _ _ _ _ _ hk, natL_get _ _ hk, sumN_zero, pair_sum _ h2 h7 fun a b => natF ants k a b]
  have e0 : (sumN ants.length fun i => natF ants k i i) = 0 := by
    have : ∀ i, i < ants.length → natF ants k i i = 0 := fun i _ => if_neg fun h => h.1 rfl
    rw [sumN_congr (g := fun _ => 0) this, sumN_zero']
  rw [e0]
  have : ∀ p ∈ pairsN ants.length, natF ants k p.1 p.2 + natF ants k p.2 p.1 = natT ants k p := fun p hp => by
    have hlt := (mem_pairsN hp).1
    unfold natF natT
    rw [vecC_swap ants p.1 p.2]
    congr 1
    · by_cases hc : vecC ants p.1 p.2 = k
      · rw [if_pos ⟨by omega, hc⟩, if_pos hc]
      · rw [if_neg (fun h => hc h.2), if_neg hc]
    · by_cases hc : oppN (vecC ants p.1 p.2) = k
      · rw [if_pos ⟨by omega, hc⟩, if_pos hc]
      · rw [if_neg (fun h => hc h.2), if_neg hc]
  rw [sumL_congr this]
  omega
theorem natV_bd (ants : List (Int × Int)) (n i j k : Nat) (hi : i ≤ 7) (hj : j ≤ 7) (hn : n ≤ 7) : 0 ≤ (natV ants n i j).getD k 0 ∧ (natV ants n i j).getD k 0 ≤ 56 := by
  have hF : ∀ k a b, 0 ≤ natF ants k a b ∧ natF ants k a b ≤ 1 := fun k a b => by unfold natF; split <;> omega
  have h1 : ∀ k a m, 0 ≤ sumN m (fun b => natF ants k a b) ∧ sumN m (fun b => natF ants k a b) ≤ m := fun k a m => by
    induction m with
    | zero => simp [sumN]
    | succ m ih => rw [sumN_succ]; have := hF k a m; omega
  have h2 : ∀ k m, m ≤ 7 → 0 ≤ sumN m (fun a => sumN n fun b => natF ants k a b) ∧ sumN m (fun a => sumN n fun b => natF ants k a b) ≤ 7 * m := fun k m => by
    induction m with
    | zero => intro _; simp [sumN]
    | succ m ih => intro hm; rw [sumN_succ]; have := h1 k m n; have := ih (by omega); omega
  by_cases hk : k < 16
  · rw [natV_get _ _ _ _ _ hk]
    have := h1 k i j; have := h2 k i hi
    omega
  · rw [List.getD_eq_getElem?_getD, List.getElem?_eq_none (by rw [natV_len]; omega)]
    simp
end Go.Proofs.Ytfandpgjlahnpaa
