/- Plain laws of a cleaning with all cells. -/
import Derived.Test.YtfandpgjlahnpaaA5
namespace Go.Proofs.Ytfandpgjlahnpaa
open Go.RowKit

def fullC : List Bool := List.replicate 16 true
theorem fullC_len : fullC.length = 16 := by simp [fullC]
theorem fullC_cov : covV fullC = true := by decide +kernel
theorem fullC_beam : beamL fullC = fullB := by decide +kernel
theorem fullB_sky : skyV fullB = true := by decide +kernel
/-- The sky that is drawn of a list: what is left by fifty of its first numbers, and nothing below zero. -/
def cfF (x : Int) : Int := if 0 < x.tmod 50 then x.tmod 50 else 0
def cfS (s : List Int) (n : Nat) : List Int := (List.range 16).map fun j => if j < n then cfF (s.getD j 0) else 0
def cfN (s : List Int) (n : Nat) : Int := sumN n fun j => if cfF (s.getD j 0) = 0 then 0 else 1
theorem cfF_bd (x : Int) : 0 ≤ cfF x ∧ cfF x ≤ 49 := by
  unfold cfF
  have := Int.tmod_lt_of_pos x (show (0 : Int) < 50 by omega)
  split <;> omega
theorem cfS_len (s : List Int) (n : Nat) : (cfS s n).length = 16 := by simp [cfS]
theorem cfS_get (s : List Int) (n k : Nat) (h : k < 16) : (cfS s n).getD k 0 = if k < n then cfF (s.getD k 0) else 0 := by
  unfold cfS; rw [List.getD_eq_getElem?_getD, List.getElem?_map, List.getElem?_range h]; rfl
theorem cfS_zero (s : List Int) : cfS s 0 = zeros16 := by
  refine ext16 (cfS_len _ _) (by simp [zeros16]) fun k hk => ?_
  rw [cfS_get _ _ _ hk, zeros16_get, if_neg (by omega)]
theorem cfS_step (s : List Int) (n : Nat) (h : n < 16) : (cfS s n).set n (cfF (s.getD n 0)) = cfS s (n + 1) := by
  refine ext16 (by rw [List.length_set, cfS_len]) (cfS_len _ _) fun k hk => ?_
  rw [set_get _ _ _ _ (by rw [cfS_len]; exact h), cfS_get _ _ _ hk, cfS_get _ _ _ hk]
  by_cases hkn : k = n
  · subst hkn; rw [if_pos rfl, if_pos (by omega)]
  · rw [if_neg hkn]
    by_cases h2 : k < n
    · rw [if_pos h2, if_pos (by omega)]
    · rw [if_neg h2, if_neg (by omega)]
theorem cfN_step (s : List Int) (n : Nat) : cfN s (n + 1) = cfN s n + if cfF (s.getD n 0) = 0 then 0 else 1 := by
  unfold cfN; rw [sumN_succ]
theorem cfN_bd (s : List Int) (n : Nat) : 0 ≤ cfN s n ∧ cfN s n ≤ n := by
  induction n with
  | zero => simp [cfN, sumN]
  | succ n ih => rw [cfN_step]; split <;> omega
theorem cfS_bd (s : List Int) (n k : Nat) (h : k < 16) : 0 ≤ (cfS s n).getD k 0 ∧ (cfS s n).getD k 0 ≤ 49 := by
  rw [cfS_get _ _ _ h]
  have := cfF_bd (s.getD k 0)
  split <;> omega
theorem cfS_sky (s : List Int) (n : Nat) : skyV (cfS s n) = true := skyV_of (cfS_len _ _) fun k hk => by have := cfS_bd s n k hk; omega
theorem full_dirty (s : List Int) (k : Nat) (h : k < 16) : (dirtyL s fullC).getD k 0 = 16 * s.getD k 0 := by
  rw [dirty_get _ _ _ h, fullC_beam]
  have e : ∀ a, a < 16 → s.getD a 0 * fullB.getD (subC a k) 0 = s.getD a 0 * if a = k then 16 else 0 := fun a ha => by
    rw [fullB_get _ (subC_lt a k)]
    by_cases hak : a = k
    · subst hak; rw [subC_self a ha, if_pos rfl, if_pos rfl]
    · rw [if_neg hak, if_neg]
      intro h0
      refine hak ?_
      have := subC_add a ha k h
      rw [h0, addC_comm] at this
      have h2 := subC_add k h k h
      rw [subC_self k h, addC_comm] at h2
      omega
  rw [sum16_congr e, sum16_pick (fun a => s.getD a 0) k h]
  omega
theorem full_cnt (s : List Int) (n : Nat) (hn : n ≤ 16) : cntL (dirtyL (cfS s n) fullC) = cfN s n := by
  unfold cntL
  have e : ∀ k, k < 16 → (if (dirtyL (cfS s n) fullC).getD k 0 = 0 then (0 : Int) else 1) = if k < n then (if cfF (s.getD k 0) = 0 then 0 else 1) else 0 := fun k hk => by
    rw [full_dirty _ _ hk, cfS_get _ _ _ hk]
    by_cases h : k < n
    · rw [if_pos h, if_pos h]
      by_cases h0 : cfF (s.getD k 0) = 0
      · rw [h0]; rfl
      · rw [if_neg h0, if_neg (by omega)]
    · rw [if_neg h, if_neg h]; rfl
  rw [sum16_congr e]
  unfold cfN
  have : ∀ m, n ≤ m → sumN m (fun k => if k < n then (if cfF (s.getD k 0) = 0 then (0 : Int) else 1) else 0) = sumN n fun j => if cfF (s.getD j 0) = 0 then 0 else 1 := by
    intro m hm
    induction m with
    | zero =>
      have h0 : n = 0 := by omega
      subst h0
      rfl
    | succ m ih =>
      by_cases h : n = m + 1
      · subst h
        exact sumN_congr fun k hk => if_pos hk
      · rw [sumN_succ, ih (by omega), if_neg (by omega)]; omega
  rw [sum16_eq]
  exact this 16 hn
theorem full_sky (s : List Int) (n : Nat) : skyV (dirtyL (cfS s n) fullC) = true := skyV_of (dirtyL_len _ _) fun k hk => by
  rw [full_dirty _ _ hk]
  have := cfS_bd s n k hk
  omega
theorem full_run (s : List Int) (n : Nat) (hn : n ≤ 16) : cleanIter fullB 16 (zeros16, dirtyL (cfS s n) fullC) = ((cfS s n, zeros16), (cfN s n).toNat) := by
  obtain ⟨Z, hZ, hZl, hZ0⟩ := clean_full (cfS s n) (cfS_len _ _) (fun k hk => cfS_bd s n k hk) 16 zeros16 (dirtyL (cfS s n) fullC) (by simp [zeros16]) (dirtyL_len _ _)
    (fun k hk => .inr ⟨zeros16_get k, full_dirty _ _ hk⟩) (by rw [full_cnt s n hn]; have := cfN_bd s n; omega)
  have : Z = zeros16 := ext16 hZl (by simp [zeros16]) fun k hk => by rw [hZ0 k hk, zeros16_get]
  rw [hZ, this, full_cnt s n hn]
end Go.Proofs.Ytfandpgjlahnpaa
