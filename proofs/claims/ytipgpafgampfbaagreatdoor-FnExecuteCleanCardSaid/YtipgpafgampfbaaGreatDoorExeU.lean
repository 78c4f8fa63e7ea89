/- What the scripts of FnExecuteClean return: plain. -/
import Derived.Test.YtipgpafgampfbaaGreatDoorExeQ
namespace Go.Proofs.YtipgpafgampfbaaGreatDoor
open Go

/-- A line that sets a cell, without its end. -/
def cellLn (x y n : Int) : List UInt8 := wCell ++ 32 :: (Lib.itoa x ++ 32 :: (Lib.itoa y ++ 32 :: Lib.itoa n))
theorem cellLn_no (x y n : Int) : (10 : UInt8) ∉ cellLn x y n := by
  unfold cellLn
  have h : ∀ n, (10 : UInt8) ∉ Lib.itoa n := fun n => itoa_no (by decide)
  simp only [List.mem_append, List.mem_cons, not_or]
  exact ⟨by decide, by decide, h _, by decide, h _, by decide, h _⟩
theorem cellLn_cut (x y n : Int) : cut 32 (cellLn x y n) = [wCell, Lib.itoa x, Lib.itoa y, Lib.itoa n] := by
  have hn : ∀ n, (32 : UInt8) ∉ Lib.itoa n := fun n => itoa_no (by decide)
  unfold cellLn
  rw [cut_hit _ (by decide), cut_hit _ (hn _), cut_hit _ (hn _), cut_none (hn _)]
theorem cellLn_line (s : St) {x y n : Int} (h1 : 0 ≤ x ∧ x ≤ 3) (h2 : 0 ≤ y ∧ y ≤ 3) (h3 : -100000 ≤ n ∧ n ≤ 100000) : lineW s (cut 32 (cellLn x y n)) = ((s.1, s.2.set (4 * y + x).toNat n), oOk) := by
  rw [cellLn_cut]
  show lineR s wCell [Lib.itoa x, Lib.itoa y, Lib.itoa n] = _
  have e : wantL wCell = some ([Lib.itoa x, Lib.itoa y, Lib.itoa n] : List Word).length := (by decide : wantL wCell = some 3)
  unfold lineR
  rw [if_pos e, if_neg (by decide), if_pos rfl]
  simp only [List.getD_cons_zero, List.getD_cons_succ]
  rw [num7_itoa (by omega) (by omega), num7_itoa (by omega) (by omega), num7_itoa (by omega) (by omega)]
  unfold cellR cellOk
  rw [inR_iff.2 h1, inR_iff.2 h2, inR_iff.2 h3]
  rfl
def wClean5 : Word := [99, 108, 101, 97, 110, 32, 53]
theorem law_clean {xs : List (Int × Int)} (hv : arrV xs = true) (k : Nat) (n x y : Int) (hk : k < 16) (hn : 1 ≤ n ∧ n ≤ 90) (hx : (k : Int) % 4 = x) (hy : (k : Int) / 4 = y) (D : List Int) (hD : dirtyR (spotL k n) (covL xs) = some D) :
    exeB (antsB xs ++ (cellLn x y n ++ [10, 100, 105, 114, 116, 121, 10, 99, 108, 101, 97, 110, 32, 53, 10])) =
      oksB xs.length ++ oOk ++ skyStr D ++ skyStr (cleanIter (beamL (covL xs)) 5 (zeros16, D)).1.1 ++ oSteps ++ Lib.itoa ((cleanIter (beamL (covL xs)) 5 (zeros16, D)).2 : Nat) ++ [10] ++ endB xs.length := by
  have e2 : (cellLn x y n ++ [10, 100, 105, 114, 116, 121, 10, 99, 108, 101, 97, 110, 32, 53, 10] : List UInt8) = [cellLn x y n, wDirty, wClean5].flatMap (· ++ [10]) := by
    simp [wDirty, wClean5]
  have i1 := itoa_small (n := x) (by omega)
  have i2 := itoa_small (n := y) (by omega)
  have i3 := itoa_small (n := n) (by omega)
  rw [e2, exe_ants hv _ (fun w hw => by
    simp only [List.mem_cons, List.not_mem_nil, or_false] at hw
    rcases hw with rfl | rfl | rfl
    · exact cellLn_no x y n
    · decide
    · decide) (lines_len xs hv _ (by rw [← e2]; unfold cellLn; simp [wCell]; omega))]
  have h1 : lineW (xs, zeros16) (cut 32 (cellLn x y n)) = ((xs, spotL k n), oOk) := by
    rw [cellLn_line _ (by omega) (by omega) (by omega)]
    unfold spotL
    rw [show (4 * y + x).toNat = k by omega]
  have h2 : lineW (xs, spotL k n) (cut 32 wDirty) = ((xs, spotL k n), skyStr D) := by
    rw [show cut 32 wDirty = [wDirty] by decide]
    show lineR (xs, spotL k n) wDirty [] = _
    rw [lineR_ask (by decide) (by decide) (by decide)]
    dsimp only
    rw [if_pos hv]
    unfold askB
    rw [if_neg (by decide), if_neg (by decide), if_neg (by decide), if_pos rfl]
    unfold dirtyB
    dsimp only
    rw [hD]
  have h3 : lineW (xs, spotL k n) (cut 32 wClean5) = ((xs, spotL k n), skyStr (cleanIter (beamL (covL xs)) 5 (zeros16, D)).1.1 ++ (oSteps ++ (Lib.itoa ((cleanIter (beamL (covL xs)) 5 (zeros16, D)).2 : Nat) ++ [10]))) := by
    rw [show cut 32 wClean5 = [wClean, [53]] by decide]
    show lineR (xs, spotL k n) wClean [[53]] = _
    rw [lineR_ask (by decide) (by decide) (by decide)]
    dsimp only
    rw [if_pos hv]
    unfold askB
    rw [if_neg (by decide), if_neg (by decide), if_neg (by decide), if_neg (by decide), if_neg (by decide)]
    unfold cleanB
    dsimp only
    rw [hD]
    simp only [List.getD_cons_zero]
    rw [show num7 [53] = 5 by decide, if_pos (by decide)]
    rfl
  simp only [runL, h1, h2, h3]
  simp
end Go.Proofs.YtipgpafgampfbaaGreatDoor
