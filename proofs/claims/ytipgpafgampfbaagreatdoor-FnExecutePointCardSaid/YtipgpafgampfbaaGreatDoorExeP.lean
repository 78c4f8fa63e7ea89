/- Scripts of antennas: plain. -/
import Derived.Test.YtipgpafgampfbaaGreatDoorExeT
namespace Go.Proofs.YtipgpafgampfbaaGreatDoor
open Go

theorem cut_more {c : UInt8} : ∀ (ls : List (List UInt8)) (r : List UInt8), (∀ x ∈ ls, c ∉ x) → cut c (ls.flatMap (· ++ [c]) ++ r) = ls ++ cut c r
  | [], _, _ => rfl
  | a :: t, r, h => by
    rw [List.flatMap_cons, List.append_assoc, List.append_assoc, List.singleton_append, cut_hit _ (h a (by simp)), cut_more t r fun x hx => h x (by simp [hx])]
    rfl
/-- A line that adds an antenna, without its end. -/
def antLn (a : Int × Int) : List UInt8 := wAnt ++ 32 :: (Lib.itoa a.1 ++ 32 :: Lib.itoa a.2)
theorem antLine_eq (a : Int × Int) : antLine a = antLn a ++ [10] := by unfold antLine antLn; simp [wAnt]
theorem antsB_eq (xs : List (Int × Int)) : antsB xs = (xs.map antLn).flatMap (· ++ [10]) := by
  unfold antsB
  rw [List.flatMap_map, show (antLine) = fun a => antLn a ++ [10] from funext antLine_eq]
theorem antLn_no (a : Int × Int) : (10 : UInt8) ∉ antLn a := by
  unfold antLn
  have h : ∀ n, (10 : UInt8) ∉ Lib.itoa n := fun n => itoa_no (by decide)
  simp only [List.mem_append, List.mem_cons, not_or]
  exact ⟨by decide, by decide, h _, by decide, h _⟩
theorem antLn_cut (a : Int × Int) : cut 32 (antLn a) = [wAnt, Lib.itoa a.1, Lib.itoa a.2] := by
  have hn : ∀ n, (32 : UInt8) ∉ Lib.itoa n := fun n => itoa_no (by decide)
  unfold antLn
  rw [cut_hit _ (by decide), cut_hit _ (hn _), cut_none (hn _)]
theorem antLn_line (s : St) {a : Int × Int} (h1 : -9999999 ≤ a.1 ∧ a.1 ≤ 9999999) (h2 : -9999999 ≤ a.2 ∧ a.2 ≤ 9999999) : lineW s (cut 32 (antLn a)) = antR s a := by
  rw [antLn_cut]
  show lineR s wAnt [Lib.itoa a.1, Lib.itoa a.2] = _
  have e : wantL wAnt = some ([Lib.itoa a.1, Lib.itoa a.2] : List Word).length := (by decide : wantL wAnt = some 2)
  unfold lineR
  rw [if_pos e, if_pos rfl]
  simp only [List.getD_cons_zero, List.getD_cons_succ]
  rw [num7_itoa h1.1 h1.2, num7_itoa h2.1 h2.2]
theorem addOk_take {xs : List (Int × Int)} (hv : arrV xs = true) {k : Nat} {a : Int × Int} (ha : xs[k]? = some a) : addOk (xs.take k) a = true := by
  have hk : k < xs.length := (List.getElem?_eq_some_iff.1 ha).1
  have hl := arrV_len hv
  have hgd : xs.getD k (0, 0) = a := by rw [List.getD_eq_getElem?_getD, ha]; rfl
  unfold arrV at hv
  rw [Bool.and_eq_true] at hv
  have h := List.all_eq_true.1 hv.2 k (List.mem_range.2 hk)
  rw [hgd, Bool.and_eq_true] at h
  unfold addOk
  rw [Bool.and_eq_true, Bool.and_eq_true]
  refine ⟨h.1, ?_, h.2⟩
  rw [List.length_take]
  simp; omega
theorem run_ants {xs : List (Int × Int)} (hv : arrV xs = true) (sk : List Int) : ∀ k, k ≤ xs.length → runL (([], sk), []) ((xs.take k).map antLn) = ((xs.take k, sk), oksB k)
  | 0, _ => rfl
  | k + 1, hk => by
    obtain ⟨a, ha⟩ : ∃ a, xs[k]? = some a := ⟨_, List.getElem?_eq_getElem (by omega)⟩
    have hg := arrV_gLe hv a (List.mem_of_getElem? ha)
    rw [List.take_add_one, ha, Option.toList_some, List.map_append, List.map_singleton, runL_snoc, run_ants hv sk k (by omega), antLn_line _ (by omega) (by omega), oksB_succ]
    unfold antR
    rw [if_pos (addOk_take hv ha)]
theorem itoa_len5 {n : Int} (h0 : -9999 ≤ n) (h1 : n ≤ 9999) : (Lib.itoa n).length ≤ 5 := by
  unfold Lib.itoa
  split
  · rw [List.length_cons, Lib.decDigits_length]
    have := nDigits_le (u := n.natAbs) (k := 4) (by decide) (by omega)
    omega
  · rw [Lib.decDigits_length]
    have := nDigits_le (u := n.toNat) (k := 4) (by decide) (by omega)
    omega
theorem antsB_len {xs : List (Int × Int)} (h : gLe 1000 xs) : (antsB xs).length ≤ 16 * xs.length := by
  unfold antsB
  induction xs with
  | nil => simp
  | cons a t ih =>
    have ih := ih fun x hx => h x (by simp [hx])
    obtain ⟨g1, g2⟩ := h a (by simp)
    have i1 := itoa_len5 (n := a.1) (by omega) (by omega)
    have i2 := itoa_len5 (n := a.2) (by omega) (by omega)
    have : (antLine a).length ≤ 16 := by unfold antLine; simp; omega
    rw [List.flatMap_cons, List.length_append, List.length_cons]; omega
/-- A script that adds an array's antennas and goes on with some lines. -/
theorem exe_ants {xs : List (Int × Int)} (hv : arrV xs = true) (rs : List Word) (hr : ∀ x ∈ rs, (10 : UInt8) ∉ x) (hl : (antsB xs ++ rs.flatMap (· ++ [10])).length ≤ 500) :
    exeB (antsB xs ++ rs.flatMap (· ++ [10])) = oksB xs.length ++ ((runL ((xs, zeros16), []) rs).2 ++ endB (runL ((xs, zeros16), []) rs).1.1.length) := by
  unfold exeB runB
  rw [if_neg (by omega), antsB_eq, cut_more _ _ (fun x hx => by obtain ⟨a, _, rfl⟩ := List.mem_map.1 hx; exact antLn_no a), cut_lines _ hr, ← List.append_assoc, List.dropLast_concat, runL_app]
  have h0 := run_ants hv zeros16 xs.length (Nat.le_refl _)
  rw [List.take_length] at h0
  rw [show st0 = ([], zeros16) from rfl, h0, runL_out]
  simp
theorem lines_len (xs : List (Int × Int)) (hv : arrV xs = true) (r : List UInt8) (h : r.length ≤ 380) : (antsB xs ++ r).length ≤ 500 := by
  have := antsB_len (arrV_gLe hv)
  have := arrV_len hv
  rw [List.length_append]; omega
end Go.Proofs.YtipgpafgampfbaaGreatDoor
