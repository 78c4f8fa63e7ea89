/- What the scripts of FnExecuteCover return: plain. -/
import Derived.Test.YtipgpafgampfbaaGreatDoorExeQ
namespace Go.Proofs.YtipgpafgampfbaaGreatDoor
open Go

theorem law_cover {xs : List (Int × Int)} (hv : arrV xs = true) : exeB (antsB xs ++ [99, 111, 118, 101, 114, 10, 98, 101, 97, 109, 10]) = ((oksB xs.length ++ covText (covL xs)) ++ skyStr (beamL (covL xs))) ++ endB xs.length := by
  have e2 : ([99, 111, 118, 101, 114, 10, 98, 101, 97, 109, 10] : List UInt8) = [wCover, wBeam].flatMap (· ++ [10]) := by decide
  rw [e2, exe_ants hv _ (fun x hx => by simp at hx; rcases hx with rfl | rfl <;> decide) (lines_len xs hv _ (by decide))]
  have h1 : lineW (xs, zeros16) (cut 32 wCover) = ((xs, zeros16), covText (covL xs)) := by
    rw [show cut 32 wCover = [wCover] by decide]
    show lineR (xs, zeros16) wCover [] = _
    rw [lineR_ask (by decide) (by decide) (by decide)]
    dsimp only
    rw [if_pos hv]
    unfold askB
    rw [if_neg (by decide), if_pos rfl]
  have h2 : lineW (xs, zeros16) (cut 32 wBeam) = ((xs, zeros16), skyStr (beamL (covL xs))) := by
    rw [show cut 32 wBeam = [wBeam] by decide]
    show lineR (xs, zeros16) wBeam [] = _
    rw [lineR_ask (by decide) (by decide) (by decide)]
    dsimp only
    rw [if_pos hv]
    unfold askB
    rw [if_neg (by decide), if_neg (by decide), if_pos rfl]
  simp only [runL, h1, h2]
  simp
end Go.Proofs.YtipgpafgampfbaaGreatDoor
