/- How long the outputs of lines are, and how they end. -/
import Derived.Test.YtipgpafgampfbaaGreatDoorB5
import Derived.Test.YtipgpafgampfbaaGreatDoorRunC
import Derived.Test.YtipgpafgampfbaaGreatDoorRunV
namespace Go.Proofs.YtipgpafgampfbaaGreatDoor
open Go

theorem covText_small (c : List Bool) : (covText c).length ≤ 32 := by
  unfold covText
  split
  · have : ∀ n, (covBytes c n).length ≤ 2 * n := fun n => by
      induction n with
      | zero => simp [covBytes]
      | succ k ih =>
        rw [covBytes_succ, List.length_append]
        have : (covLine c k).length ≤ 2 := by
          unfold covLine
          by_cases h4 : k % 4 = 3
          · simp [h4]
          · simp [h4]
        omega
    exact this 16
  · simp
theorem covText_ends {c : List Bool} (h : covV c = true) : (covText c).getLast? = some 10 := by
  unfold covText
  rw [if_pos h, covBytes_succ]
  refine endsNl_app ?_
  simp [covLine]
theorem phasesB_ends (ps : List Int) : (phasesB ps).getLast? = some 10 := endsNl_app (endsNl_app rfl)
theorem redM_bd {xs : List (Int × Int)} (hv : arrV xs = true) : -1 ≤ redM xs ∧ redM xs ≤ 1000 := by
  rw [redM_yes hv]
  have h1 := redN_le (vL xs) (pairsN xs.length).length
  have h2 := arrV_len hv
  have h3 := bm_pairs xs.length (by omega) (by omega)
  have h4 := bm_le (xs.length : Int)
  omega
theorem basesB_small {xs : List (Int × Int)} (hv : arrV xs = true) : (basesB xs).length ≤ 60 := by
  have h1 := redM_bd hv
  have h2 := bm_le (xs.length : Int)
  have h3 : 0 ≤ bm (xs.length : Int) := by rcases bm_cases (xs.length : Int) with a | a | a | a | a | a | a <;> omega
  have i1 := itoa_small (n := bm (xs.length : Int)) (by omega)
  have i2 := itoa_small (n := redM xs) (by omega)
  unfold basesB
  simp [wBases]
  omega
theorem pointB_small (xs : List (Int × Int)) (x y : Int) : (pointB xs x y).length ≤ 600 ∧ (pointB xs x y).getLast? = some 10 := by
  unfold pointB
  split
  · rename_i hp
    refine ⟨?_, phasesB_ends _⟩
    have hvis := pt_vis hp
    have hl := (visV_iff.1 hvis).2.1
    have hb := bm_le (xs.length : Int)
    have := phases_len ((ptL xs (x, y) 1 (pairsN xs.length)).map (·.2)) fun p hq => by
      obtain ⟨g, hg, rfl⟩ := List.mem_map.1 hq
      have := (visOk_iff.1 ((visV_iff.1 hvis).2.2 g hg)).2
      omega
    rw [List.length_map] at this
    unfold phasesB
    rw [List.length_append, List.length_append]
    simp only [oPhases, List.length_cons, List.length_nil]
    omega
  · exact ⟨by decide, rfl⟩
theorem dirtyB_small (s : St) : (dirtyB s).length ≤ 600 ∧ (dirtyB s).getLast? = some 10 := by
  unfold dirtyB
  split
  · exact ⟨by decide, rfl⟩
  · rename_i d hd
    exact ⟨by have := skyStr_small d; omega, skyStr_ends (dirtyR_some hd).1⟩
theorem cleanB_small (s : St) (m : Int) : (cleanB s m).length ≤ 600 ∧ (cleanB s m).getLast? = some 10 := by
  unfold cleanB
  split
  · exact ⟨by decide, rfl⟩
  · rename_i d hd
    split
    · rename_i hm
      have hmm := inR_iff.1 hm
      refine ⟨?_, endsNl_app (endsNl_app (endsNl_app rfl))⟩
      have h1 := skyStr_small (cleanIter (beamL (covL s.1)) m.toNat (zeros16, d)).1.1
      have h2 := cleanIter_le (b := beamL (covL s.1)) m.toNat (zeros16, d)
      have h3 := itoa_small (n := ((cleanIter (beamL (covL s.1)) m.toNat (zeros16, d)).2 : Nat)) (by omega)
      simp only [List.length_append, oSteps, List.length_cons, List.length_nil]
      omega
    · exact ⟨by decide, rfl⟩
theorem askB_small {s : St} (hv : arrV s.1 = true) (h : Word) (t : List Word) : (askB s h t).length ≤ 600 ∧ (askB s h t).getLast? = some 10 := by
  unfold askB
  split
  · exact ⟨by have := basesB_small hv; omega, endsNl_app (endsNl_app (endsNl_app (endsNl_app rfl)))⟩
  split
  · exact ⟨by have := covText_small (covL s.1); omega, covText_ends (covV_cov _)⟩
  split
  · exact ⟨by have := skyStr_small (beamL (covL s.1)); omega, skyStr_ends (skyV_beam (covV_cov _))⟩
  split
  · exact dirtyB_small s
  split
  · exact pointB_small _ _ _
  · exact cleanB_small _ _
theorem lineR_small (s : St) (h : Word) (t : List Word) : (lineR s h t).2.length ≤ 600 ∧ (lineR s h t).2.getLast? = some 10 := by
  unfold lineR
  split
  · split
    · unfold antR; split <;> exact ⟨by simp [oOk, oNo], rfl⟩
    · split
      · unfold cellR; split <;> exact ⟨by simp [oOk, oNo], rfl⟩
      · dsimp only
        split
        · rename_i hv; exact askB_small hv h t
        · exact ⟨by simp [oNo], rfl⟩
  · exact ⟨by simp [oWhat], rfl⟩
theorem runL_small (r : St × List UInt8) (ls : List Word) : (runL r ls).2.length ≤ r.2.length + 600 * ls.length := by
  induction ls generalizing r with
  | nil => simp [runL]
  | cons l t ih =>
    have h1 := ih ((lineW r.1 (cut 32 l)).1, r.2 ++ (lineW r.1 (cut 32 l)).2)
    have h2 : (lineW r.1 (cut 32 l)).2.length ≤ 600 := (lineR_small r.1 _ _).1
    simp only [runL]
    rw [List.length_append] at h1
    rw [List.length_cons]
    omega
/-- Outputs of lines are none or end with a newline. -/
theorem runL_ends (r : St × List UInt8) (ls : List Word) (h : r.2 = [] ∨ r.2.getLast? = some 10) : (runL r ls).2 = [] ∨ (runL r ls).2.getLast? = some 10 := by
  induction ls generalizing r with
  | nil => exact h
  | cons l t ih => exact ih _ (.inr (endsNl_app (lineR_small r.1 _ _).2))
end Go.Proofs.YtipgpafgampfbaaGreatDoor
