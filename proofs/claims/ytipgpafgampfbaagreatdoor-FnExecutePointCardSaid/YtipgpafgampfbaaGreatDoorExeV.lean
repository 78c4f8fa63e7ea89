/- What the scripts of FnExecutePoint return: plain. -/
import Derived.Test.YtipgpafgampfbaaGreatDoorExeQ
namespace Go.Proofs.YtipgpafgampfbaaGreatDoor
open Go

/-- A line that asks for a point source, without its end. -/
def pointLn (x y : Int) : List UInt8 := wPoint ++ 32 :: (Lib.itoa x ++ 32 :: Lib.itoa y)
theorem pointLn_no (x y : Int) : (10 : UInt8) ∉ pointLn x y := by
  unfold pointLn
  have h : ∀ n, (10 : UInt8) ∉ Lib.itoa n := fun n => itoa_no (by decide)
  simp only [List.mem_append, List.mem_cons, not_or]
  exact ⟨by decide, by decide, h _, by decide, h _⟩
theorem pointLn_cut (x y : Int) : cut 32 (pointLn x y) = [wPoint, Lib.itoa x, Lib.itoa y] := by
  have hn : ∀ n, (32 : UInt8) ∉ Lib.itoa n := fun n => itoa_no (by decide)
  unfold pointLn
  rw [cut_hit _ (by decide), cut_hit _ (hn _), cut_none (hn _)]
def phS (ps : List Int) (k : Nat) : List UInt8 := oPhases ++ (ps.take k).flatMap fun p => 32 :: Lib.itoa p
theorem phS_zero (ps : List Int) : phS ps 0 = [112, 104, 97, 115, 101, 115] := by unfold phS; simp [oPhases]
theorem phS_succ (ps : List Int) (k : Nat) {p : Int} (h : ps[k]? = some p) : phS ps (k + 1) = (phS ps k ++ [32]) ++ Lib.itoa p := by
  unfold phS
  rw [List.take_add_one, h, Option.toList_some, List.flatMap_append]
  simp
theorem phS_all (ps : List Int) : phS ps ps.length ++ [10] = phasesB ps := by unfold phS phasesB; rw [List.take_length, List.append_assoc]
theorem phS_len {ps : List Int} (h : ∀ p ∈ ps, 0 ≤ p ∧ p ≤ 1000) : ∀ k, k ≤ ps.length → (phS ps k).length ≤ 6 + 40 * k
  | 0, _ => by rw [phS_zero]; simp
  | k + 1, hk => by
    obtain ⟨p, hp⟩ : ∃ p, ps[k]? = some p := ⟨_, List.getElem?_eq_getElem (by omega)⟩
    have ih := phS_len h k (by omega)
    have hp2 := h p (List.mem_of_getElem? hp)
    have := itoa_small (n := p) (by omega)
    rw [phS_succ ps k hp]; simp; omega
theorem ptL_phs (xs : List (Int × Int)) (d : Int × Int) (a b : Int) (ps : List (Nat × Nat)) : (ptL xs d a ps).map (·.2) = (ptL xs d b ps).map (·.2) := by unfold ptL; simp
theorem ptV_one {xs : List (Int × Int)} {d : Int × Int} {amp : Int} (h : ptV xs d amp = true) : ptV xs d 1 = true := by
  unfold ptV at h ⊢
  rw [Bool.and_eq_true, Bool.and_eq_true] at h
  rw [h.1, h.2.1]; decide
theorem law_point {xs : List (Int × Int)} {x y amp : Int} (h : ptV xs (x, y) amp = true) (hx : -1001 ≤ x ∧ x ≤ 1001) (hy : -1001 ≤ y ∧ y ≤ 1001) :
    exeB (antsB xs ++ (pointLn x y ++ [10])) = oksB xs.length ++ (phS ((ptL xs (x, y) amp (pairsN xs.length)).map (·.2)) (pairsN xs.length).length ++ [10]) ++ endB xs.length := by
  have hv : arrV xs = true := by unfold ptV at h; rw [Bool.and_eq_true] at h; exact h.1
  have e2 : (pointLn x y ++ [10] : List UInt8) = [pointLn x y].flatMap (· ++ [10]) := by simp
  have i1 := itoa_small (n := x) (by omega)
  have i2 := itoa_small (n := y) (by omega)
  rw [e2, exe_ants hv _ (fun w hw => by simp only [List.mem_singleton] at hw; subst hw; exact pointLn_no x y) (lines_len xs hv _ (by rw [← e2]; unfold pointLn; simp [wPoint]; omega))]
  have hl : ((ptL xs (x, y) amp (pairsN xs.length)).map (·.2)).length = (pairsN xs.length).length := by rw [List.length_map, ptL_len]
  have h1 : lineW (xs, zeros16) (cut 32 (pointLn x y)) = ((xs, zeros16), phS ((ptL xs (x, y) amp (pairsN xs.length)).map (·.2)) (pairsN xs.length).length ++ [10]) := by
    rw [pointLn_cut]
    show lineR (xs, zeros16) wPoint [Lib.itoa x, Lib.itoa y] = _
    rw [lineR_ask (by show wantL wPoint = some 2; decide) (by decide) (by decide)]
    dsimp only
    rw [if_pos hv]
    unfold askB
    rw [if_neg (by decide), if_neg (by decide), if_neg (by decide), if_neg (by decide), if_pos rfl]
    simp only [List.getD_cons_zero, List.getD_cons_succ]
    rw [num7_itoa (by omega) (by omega), num7_itoa (by omega) (by omega)]
    unfold pointB
    rw [if_pos (ptV_one h), ← hl, phS_all, ptL_phs xs (x, y) 1 amp]
  simp only [runL, h1]
  simp
end Go.Proofs.YtipgpafgampfbaaGreatDoor
