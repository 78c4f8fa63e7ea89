/- What the scripts of the laws return: plain. -/
import Derived.Test.YtipgpafgampfbaaGreatDoorExeP
import Derived.Test.YtipgpafgampfbaaGreatDoorRunE
namespace Go.Proofs.YtipgpafgampfbaaGreatDoor
open Go

theorem endB_small (n : Nat) (h : n ≤ 1000) : (endB n).length ≤ 40 := by
  have := itoa_small (n := (n : Int)) (by omega)
  unfold endB
  simp [oAnts]
  omega
theorem law_ant {xs : List (Int × Int)} (hv : arrV xs = true) : exeB (antsB xs ++ antsB (xs.take 1)) = (oksB xs.length ++ oNo) ++ endB xs.length := by
  have hl := arrV_len hv
  obtain ⟨a, ha⟩ : ∃ a, xs[0]? = some a := ⟨_, List.getElem?_eq_getElem (by omega)⟩
  have hm : a ∈ xs := List.mem_of_getElem? ha
  have hg := arrV_gLe hv a hm
  have e1 : xs.take 1 = [a] := by rw [show (1 : Nat) = 0 + 1 from rfl, List.take_add_one, ha]; rfl
  have e2 : antsB [a] = [antLn a].flatMap (· ++ [10]) := by rw [antsB_eq]; rfl
  rw [e1, e2, exe_ants hv _ (fun x hx => by simp at hx; subst hx; exact antLn_no a)]
  · have h3 : lineW (xs, zeros16) (cut 32 (antLn a)) = ((xs, zeros16), oNo) := by
      rw [antLn_line _ (by omega) (by omega)]
      unfold antR addOk
      rw [decide_eq_true hm]
      simp
    simp only [runL, h3]
    simp
  · refine lines_len xs hv _ ?_
    have := antLine_small (a := a) (by omega) (by omega)
    rw [antLine_eq] at this
    simp at this ⊢
    omega
/-- A sky of zeros has no dirty image. -/
theorem zeros_get (k : Nat) : zeros16.getD k 0 = 0 := by
  unfold zeros16
  rw [List.getD_eq_getElem?_getD]
  by_cases h : k < 16
  · rw [List.getElem?_replicate, if_pos h]; rfl
  · rw [List.getElem?_eq_none (by simpa using h)]; rfl
theorem dirty_zeros (c : List Bool) : dirtyL zeros16 c = zeros16 := by
  have h1 : (dirtyL zeros16 c).length = 16 := by unfold dirtyL trf; simp
  apply List.ext_getElem
  · rw [h1]; rfl
  · intro i hi _
    have hi16 : i < 16 := by omega
    have e := dirty_get zeros16 c i hi16
    have e0 : (sum16 fun a => zeros16.getD a 0 * (beamL c).getD (subC a i) 0) = 0 := by
      rw [show (fun a => zeros16.getD a 0 * (beamL c).getD (subC a i) 0) = fun _ => (0 : Int) from funext fun a => by rw [zeros_get]; simp]
      decide
    rw [e0] at e
    have h2 : (dirtyL zeros16 c).getD i 0 = (dirtyL zeros16 c)[i] := by rw [List.getD_eq_getElem?_getD, List.getElem?_eq_getElem hi]; rfl
    have hz := zeros_get i
    rw [List.getD_eq_getElem?_getD, List.getElem?_eq_getElem (show i < zeros16.length from hi16)] at hz
    exact (h2.symm.trans e).trans hz.symm
theorem dirtyR_zeros (xs : List (Int × Int)) : dirtyR zeros16 (covL xs) = some zeros16 := by
  unfold dirtyR
  rw [dirty_zeros, covV_cov, zeros16_sky]; rfl
theorem clean_zeros (b : List Int) (m : Nat) : cleanIter b m (zeros16, zeros16) = ((zeros16, zeros16), 0) := by
  refine cleanIter_none ?_ m
  unfold cleanStep
  have h : maxL zeros16 = 0 := by decide
  dsimp only
  rw [h]
  split
  · rw [if_neg]
    simp
  · rfl
def wClean9 : Word := [99, 108, 101, 97, 110, 32, 57]
theorem law_sky {xs : List (Int × Int)} (hv : arrV xs = true) : exeB (antsB xs ++ [100, 105, 114, 116, 121, 10, 99, 108, 101, 97, 110, 32, 57, 10]) = (((oksB xs.length ++ skyStr zeros16) ++ skyStr zeros16) ++ [115, 116, 101, 112, 115, 32, 48, 10]) ++ endB xs.length := by
  have e2 : ([100, 105, 114, 116, 121, 10, 99, 108, 101, 97, 110, 32, 57, 10] : List UInt8) = [wDirty, wClean9].flatMap (· ++ [10]) := by decide
  rw [e2, exe_ants hv _ (fun x hx => by simp at hx; rcases hx with rfl | rfl <;> decide) (lines_len xs hv _ (by decide))]
  have h1 : lineW (xs, zeros16) (cut 32 wDirty) = ((xs, zeros16), skyStr zeros16) := by
    rw [show cut 32 wDirty = [wDirty] by decide]
    show lineR (xs, zeros16) wDirty [] = _
    rw [lineR_ask (by decide) (by decide) (by decide)]
    dsimp only
    rw [if_pos hv]
    unfold askB
    rw [if_neg (by decide), if_neg (by decide), if_neg (by decide), if_pos rfl]
    unfold dirtyB
    dsimp only
    rw [dirtyR_zeros]
  have h2 : lineW (xs, zeros16) (cut 32 wClean9) = ((xs, zeros16), skyStr zeros16 ++ [115, 116, 101, 112, 115, 32, 48, 10]) := by
    rw [show cut 32 wClean9 = [wClean, [57]] by decide]
    show lineR (xs, zeros16) wClean [[57]] = _
    rw [lineR_ask (by decide) (by decide) (by decide)]
    dsimp only
    rw [if_pos hv]
    unfold askB
    rw [if_neg (by decide), if_neg (by decide), if_neg (by decide), if_neg (by decide), if_neg (by decide)]
    unfold cleanB
    dsimp only
    rw [dirtyR_zeros]
    simp only [List.getD_cons_zero]
    rw [show num7 [57] = 9 by decide, if_pos (by decide), show (9 : Int).toNat = 9 from rfl, clean_zeros]
    dsimp only
    rw [show Lib.itoa ((0 : Nat) : Int) = [48] by rw [show ((0 : Nat) : Int) = 0 from rfl, itoa_one (by decide) (by decide)]; rfl]
    rfl
  simp only [runL, h1, h2]
  simp
theorem law_bases {xs : List (Int × Int)} (hv : arrV xs = true) : exeB (antsB xs ++ [98, 97, 115, 101, 115, 10]) = oksB xs.length ++ (basesB xs ++ endB xs.length) := by
  have e2 : ([98, 97, 115, 101, 115, 10] : List UInt8) = [wBases].flatMap (· ++ [10]) := by decide
  rw [e2, exe_ants hv _ (fun x hx => by simp at hx; subst hx; decide) (lines_len xs hv _ (by decide))]
  have h1 : lineW (xs, zeros16) (cut 32 wBases) = ((xs, zeros16), basesB xs) := by
    rw [show cut 32 wBases = [wBases] by decide]
    show lineR (xs, zeros16) wBases [] = _
    rw [lineR_ask (by decide) (by decide) (by decide)]
    dsimp only
    rw [if_pos hv]
    unfold askB
    rw [if_pos rfl]
  simp only [runL, h1]
  simp
end Go.Proofs.YtipgpafgampfbaaGreatDoor
