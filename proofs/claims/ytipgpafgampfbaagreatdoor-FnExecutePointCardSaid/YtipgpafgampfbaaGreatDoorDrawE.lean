/- The draws of arrays. -/
import Derived.Test.YtipgpafgampfbaaGreatDoorB5
namespace Go.Proofs.YtipgpafgampfbaaGreatDoor
open Go.RowKit

theorem pairs_take (xs : List (Int × Int)) (k : Nat) : (xs.take k).flatMap pairCells = (xs.flatMap pairCells).take (k * 2) := by
  induction xs generalizing k with
  | nil => simp
  | cons a t ih =>
    cases k with
    | zero => simp
    | succ k =>
      rw [List.take_succ_cons, List.flatMap_cons, List.flatMap_cons, ih, show (k + 1) * 2 = k * 2 + 2 by omega]
      simp [pairCells]
theorem own_take1 {w : World} {B e n c : Nat} {A : Option Addr} {xs : List (Int × Int)} (h : w.ownsRow B e 2 (.slice A n c) n (xs.flatMap pairCells)) (hn : 1 ≤ n) : w.ownsRow B e 2 (.slice A 1 c) 1 ((xs.take 1).flatMap pairCells) := by
  rw [pairs_take]
  rcases h with ⟨hl, ⟨h1, h2⟩ | ⟨g, cap, cur, hv, hB, hg, h1, h2, h3, h4⟩⟩
  · omega
  · injection hv with e1 _ e3
    subst e1 e3
    refine ⟨by rw [List.length_take, hl]; omega, .inr ⟨g, c, cur, rfl, hB, hg, by omega, h2, h3, ?_⟩⟩
    rw [← h4, List.take_take]
    congr 1
    omega
set_option maxRecDepth 100000 in
set_option maxHeartbeats 2000000 in
theorem l91Array_own (R : Nat) (p : Int) (w : World) (hp : 0 ≤ p ∧ p ≤ 800000) (h : IsRd w R p) :
    Calls Tryz.prog 47 #[.pointer (some ⟨R, 0, none⟩)] w fun e w' =>
      ∃ (A : Option Addr) (k c : Nat) (xs : List (Int × Int)) (p' : Int), e = .returned (.slice A k c) ∧ xs.length = k ∧ k ≤ 7 ∧ k ≤ c ∧ w'.ownsRow w.heap.size 50 2 (.slice A k c) k (xs.flatMap pairCells) ∧ (0 ≤ p' ∧ p' ≤ p + 100) ∧ IsRd w' R p' ∧ w.grownBy w' (some R) := by
  obtain ⟨i1, hj, hy0, hy1, hy2⟩ := info_parts antInfo
  have hlt := h.lt
  have r0 := Row.new w 50 []
  have o0 := r0.own (base := w.heap.size) (n := 0) (size := 2) (Nat.le_refl _) rfl (by decide)
  have h1 := h.kept (bA1 (o := .cells #[] 50))
  have g0 := World.grownBy_alloc w (.cells #[] 50) (some R)
  go_enter Tryz.func47, Tryz.ntmps47
  go_wp2_with fail
  refine (pick2 R p 4 _ (by omega) (by omega) h1).mono ?_
  rintro e w1 ⟨x, rfl, x0, x4, hrd1, g1⟩
  have o1 := own_over o0 g1 (fun j hj e => by have := (own_lt o0 hj).1; injection e with e; omega)
  have G1 := grown_trans g0 g1
  clear h1 g0 g1 o0 r0
  obtain ⟨n, hn⟩ : ∃ n : Nat, 2 + x = n := ⟨(2 + x).toNat, by omega⟩
  have hR1 := hrd1.lt
  have hbs1 := G1.size
  go_wp2_with fail
  have rb := Row.new w1 3 [.int .i64 1, .int .i64 1, .int .i64 7]
  have g1' := World.grownBy_alloc w1 (.cells #[.int .i64 1, .int .i64 1, .int .i64 7] 3) (some R)
  refine (pick2 R (p + 1) 3 _ (by omega) (by omega) (hrd1.kept bA1)).mono ?_
  rintro e w2 ⟨y, rfl, y0, y3, hrd2, g2⟩
  have rb2 := rb.grown g2 (by simp; omega)
  obtain ⟨m, hm, hm1⟩ : ∃ m : Int, w2.cell? ⟨w1.heap.size, y.toNat, none⟩ = some (.int .i64 m) ∧ 1 ≤ m ∧ m ≤ 7 := by
    rw [rb2.cell]
    have : y = 0 ∨ y = 1 ∨ y = 2 := by omega
    rcases this with rfl | rfl | rfl
    · exact ⟨_, rfl, by omega, by omega⟩
    · exact ⟨_, rfl, by omega, by omega⟩
    · exact ⟨_, rfl, by omega, by omega⟩
  obtain ⟨a, rfl⟩ : ∃ a : Nat, y = a := ⟨y.toNat, by omega⟩
  rw [Int.toNat_natCast] at hm
  have o2 := own_over (o1.alloc (.cells #[.int .i64 1, .int .i64 1, .int .i64 7] 3)) g2 (fun j hj e => by have := (own_lt o1 hj).1; injection e with e; omega)
  have G2 := grown_trans (grown_trans G1 g1') g2
  clear G1 g1' g2 o1 rb rb2 hrd1
  go_wp2_with fail
  have Hn := Lib.hid hn
  clear hn hm
  go_loopw [3, 6] (fun v i wr => ∃ (k : Nat) (xs : List (Int × Int)), k ≤ n ∧ i = .int .i64 k ∧ xs.length ≤ k ∧ wr.ownsRow w.heap.size 50 2 v xs.length (xs.flatMap pairCells) ∧ IsRd wr R (p + 2 + 2 * k) ∧ w.grownBy wr (some R)) (fun _ i _ => n - (intOf i).toNat)
  case atStart => exact ⟨0, [], by omega, rfl, by simp, o2, by rw [show p + 2 + 2 * ((0 : Nat) : Int) = p + 1 + 1 from by omega]; exact hrd2, G2⟩
  case round =>
    clear o2 hrd2 G2
    obtain ⟨k, xs, hk, rfl, hxl, hrow, hrd, hgr⟩ := hrel
    have hn7 : n ≤ 5 := by have := Hn.out; omega
    by_cases hlt2 : k < n
    · have hkn : (k : Int) < n := by omega
      go_wp2_with fail
      refine (pick2 R (p + 2 + 2 * k) 6 _ (by omega) (by omega) hrd).mono ?_
      rintro e w3 ⟨x, rfl, x0, x6, hrd3, g3⟩
      have o3 := own_over hrow g3 (fun j hj e => by have := (own_lt hrow hj).1; injection e with e; omega)
      have G3 := grown_trans hgr g3
      clear hrow hrd hgr g3
      have mx := mul_bd m (x - 2) 7 3 (by omega) (by omega)
      simp only [Int.reduceMul, Int.reduceNeg] at mx
      obtain ⟨X, hX⟩ : ∃ X, m * (x - 2) = X := ⟨_, rfl⟩
      rw [hX] at mx
      go_wp2_with fail
      refine (pick2 R (p + 2 + 2 * k + 1) 4 _ (by omega) (by omega) hrd3).mono ?_
      rintro e w4 ⟨y, rfl, y0, y6, hrd4, g4⟩
      have o4 := own_over o3 g4 (fun j hj e => by have := (own_lt o3 hj).1; injection e with e; omega)
      have G4 := grown_trans G3 g4
      clear o3 hrd3 G3 g4
      have my := mul_bd m (y - 1) 7 2 (by omega) (by omega)
      simp only [Int.reduceMul, Int.reduceNeg] at my
      obtain ⟨Y, hY⟩ : ∃ Y, m * (y - 1) = Y := ⟨_, rfl⟩
      rw [hY] at my
      go_wp2_with fail
      have hbs4 := G4.size
      have o5 := o4.alloc (.cells #[.int .i64 X, .int .i64 Y] 50)
      have rv := Row.new w4 50 [.int .i64 X, .int .i64 Y]
      have hrd5 := hrd4.kept (bA1 (o := .cells #[.int .i64 X, .int .i64 Y] 50))
      have G5 := grown_trans G4 (World.grownBy_alloc w4 (.cells #[.int .i64 X, .int .i64 Y] 50) (some R))
      obtain ⟨A3, c3, rfl⟩ := own_form o5
      refine (l91Has_any A3 xs.length c3 xs (X, Y) _ rfl (by omega) (Rd.of_own o5)).mono ?_
      rintro e w6 ⟨rfl, b6⟩
      have o6 := own_ext o5 b6
      have rv6 := rv.kept b6
      have hrd6 := hrd5.kept b6
      have G6 := grown_trans G5 (below_grown b6 R)
      have hbs6 := G6.size
      obtain ⟨d0, d1, _, _⟩ := rv6.two
      clear o5 o4 rv hrd4 hrd5 G4 G5 b6 hX hY
      cases hin : decide ((X, Y) ∈ xs)
      · have Hin := Lib.hid hin; clear hin
        have O6 := Lib.hid o6; clear o6
        have Hrd6 := Lib.hid hrd6; clear hrd6
        have hidX := Lib.hid G6; clear G6; have G6 := hidX; clear hidX
        have Rv6 := Lib.hid rv6; clear rv6
        go_wp2_with (at_builtin; refine wpList_append_own _ rfl _ _ 26 rfl w.heap.size 50 i1 (.agg #[.int .i64 0, .int .i64 0]) 2 16 (by kernel_rfl) hj hy0 hy1 hy2 rfl (by decide) _ xs.length _ rfl (O6.out.alloc _) ⟨w6.heap.size, 0, none⟩ 1 1 [.int .i64 (X), .int .i64 (Y)] rfl rfl (cell_two_new _ _ _ _) (by simp [Value.oneCell']) (by unfold maxLen; omega) (by omega) (by simp; omega) ?_; intro v' w7 hown' hgrow _; obtain ⟨g', cap', rfl⟩ := ownsRow_succ hown')
        have hrd7 := (Hrd6.out.kept bA1).over hgrow (fun j hj => by have := (own_lt O6.out hj).1; omega)
        have G7 := grown_far (grown_trans G6.out (World.grownBy_alloc w6 (.cells #[.int .i64 X, .int .i64 Y] 50) (some R))) hgrow (fun j hj => (own_lt O6.out hj).1)
        have Hown' := Lib.hid hown'; clear hown'
        have Hrd7 := Lib.hid hrd7; clear hrd7
        have hidX := Lib.hid G7; clear G7; have G7 := hidX; clear hidX
        clear hgrow
        go_wp2_with fail
        go_roundw
        case measure => simp [intOf]; omega
        case rel =>
          refine ⟨k + 1, xs ++ [(X, Y)], by omega, by go_num, by simp; omega, ?_, by rw [show p + 2 + 2 * ((k + 1 : Nat) : Int) = p + 2 + 2 * k + 1 + 1 from by omega]; exact Hrd7.out, G7.out⟩
          rw [List.length_append, List.flatMap_append]
          exact Hown'.out
      · have Hin := Lib.hid hin; clear hin
        have O6 := Lib.hid o6; clear o6
        have Hrd6 := Lib.hid hrd6; clear hrd6
        have hidX := Lib.hid G6; clear G6; have G6 := hidX; clear hidX
        have Rv6 := Lib.hid rv6; clear rv6
        go_wp2_with fail
        go_roundw
        case measure => simp [intOf]; omega
        case rel => exact ⟨k + 1, xs, by omega, by go_num, by omega, O6.out, by rw [show p + 2 + 2 * ((k + 1 : Nat) : Int) = p + 2 + 2 * k + 1 + 1 from by omega]; exact Hrd6.out, G6.out⟩
    · obtain rfl : k = n := by omega
      have hbs := hgr.size
      have hRlt := hrd.lt
      obtain ⟨q, hq⟩ : ∃ q, p + 2 + 2 * (k : Int) = q := ⟨_, rfl⟩
      have hq0 : 0 ≤ q ∧ q ≤ p + 20 := by omega
      rw [hq] at hrd
      clear hq
      obtain ⟨A3, c3, rfl⟩ := own_form hrow
      by_cases hl2 : xs.length < 2
      · have hlI : (xs.length : Int) < 2 := by omega
        have Hrow := Lib.hid hrow; clear hrow
        go_wp2_with fail
        refine (pick2 R q 3 _ (by omega) (by omega) hrd).mono ?_
        rintro e w3 ⟨u, rfl, u0, u3', hrd3, g3⟩
        have G3 := grown_trans hgr g3
        clear g3 hrd hgr
        go_wp2_with fail
        refine (pick2 R (q + 1) 3 _ (by omega) (by omega) hrd3).mono ?_
        rintro e w4 ⟨v, rfl, v0, v3, hrd4, g4⟩
        have G4 := grown_trans G3 g4
        have hbs4 := G4.size
        clear g4 hrd3 G3
        have rn := Row.new w4 50 [.int .i64 0, .int .i64 0, .int .i64 (1 + u), .int .i64 v, .int .i64 5, .int .i64 1]
        have on := rn.own (base := w.heap.size) (n := 3) (size := 2) hbs4 rfl (by decide)
        have hrd5 := hrd4.kept (bA1 (o := .cells #[.int .i64 0, .int .i64 0, .int .i64 (1 + u), .int .i64 v, .int .i64 5, .int .i64 1] 50))
        have G5 := grown_trans G4 (World.grownBy_alloc w4 (.cells #[.int .i64 0, .int .i64 0, .int .i64 (1 + u), .int .i64 v, .int .i64 5, .int .i64 1] 50) (some R))
        have On := Lib.hid (show World.ownsRow _ w.heap.size 50 2 _ ([(0, 0), (1 + u, v), (5, 1)] : List (Int × Int)).length (([(0, 0), (1 + u, v), (5, 1)] : List (Int × Int)).flatMap pairCells) from on)
        clear hrd4 G4 rn on
        obtain ⟨ys, hys⟩ : ∃ ys : List (Int × Int), [(0, 0), (1 + u, v), (5, 1)] = ys := ⟨_, rfl⟩
        have hyl : ys.length = 3 := by rw [← hys]; rfl
        rw [hys] at On
        rw [hyl] at On
        clear hys
        go_wp2_with fail
        obtain ⟨A3, hA3⟩ : ∃ A3, some (⟨w4.heap.size, 0, none⟩ : Addr) = A3 := ⟨_, rfl⟩
        rw [hA3] at On ⊢
        clear hA3
        refine (pick2 R (q + 1 + 1) 40 _ (by omega) (by omega) hrd5).mono ?_
        rintro e w9 ⟨z, rfl, z0, z40, hrd9, g9⟩
        have o9 := own_over On.out g9 (fun j hj e => by have := (own_lt On.out hj).1; injection e with e; omega)
        have G9 := grown_trans G5 g9
        have hcap := own_cap o9
        have hbs9 := G9.size
        clear g9
        by_cases hz0 : z = 0
        · subst hz0
          obtain ⟨y0, hy0⟩ : ∃ y, ys[0]? = some y := ⟨_, List.getElem?_eq_getElem (by omega)⟩
          obtain ⟨y1, hy1⟩ : ∃ y, ys[1]? = some y := ⟨_, List.getElem?_eq_getElem (by omega)⟩
          obtain ⟨b9, off9, e9, hb9, hd1, hd2⟩ := rd_pair (Rd.of_own o9) hy1
          obtain ⟨g, rfl, hBg, hob, hc, hf, hset⟩ := own_set o9 (i := 0) (u := .int .i64 y0.1) (pairCells_get ys 0 y0 hy0).1
          cases e9
          have o10 := hset (.int .i64 y1.1)
          obtain ⟨g2, e2, _, _, hc2, hf2, hset2⟩ := own_set o10 (i := 1) (u := .int .i64 y0.2) (by rw [List.getElem?_set_ne (by omega)]; exact (pairCells_get ys 0 y0 hy0).2)
          cases e2
          have o11 := hset2 (.int .i64 y1.2)
          have hf1 := hf2
          rw [show (w9.setCell ⟨b9, 0, none⟩ (.int .i64 y1.1)).frozen? ⟨b9, 1, none⟩ = w9.frozen? ⟨b9, 1, none⟩ from frozen_set _ _ _ _] at hf1
          have hc1 := (pairCells_get ys 0 y0 hy0).2
          have hrd11 := (hrd9.over (grown_set w9 b9 0 (.int .i64 y1.1)) (fun j e => by cases e; omega)).over (grown_set _ b9 1 (.int .i64 y1.2)) (fun j e => by cases e; omega)
          have G11 := grown_far (grown_far G9 (grown_set w9 b9 0 (.int .i64 y1.1)) (fun j e => by cases e; exact hBg)) (grown_set _ b9 1 (.int .i64 y1.2)) (fun j e => by cases e; exact hBg)
          obtain ⟨_, e3, _, _, hc1b, hf1b, _⟩ := own_set o9 (i := 1) (u := .int .i64 y0.2) (pairCells_get ys 0 y0 hy0).2
          cases e3
          have he := pairs_set ys 0 y1 (by omega)
          simp only [Nat.zero_mul, Nat.zero_add, Nat.one_mul] at hd1 hd2 he
          have O11 := Lib.hid o11; clear o11
          have Hrd11 := Lib.hid hrd11; clear hrd11
          have hidX := Lib.hid G11; clear G11; have G11 := hidX; clear hidX
          have He := Lib.hid he; clear he
          clear o9 o10 hset hset2 hrd9 G9 hc2 hf2 hf1 hc1 hy0 hy1
          go_wp2_with fail
          go_ret
          refine ⟨_, _, _, ys.set 0 y1, _, rfl, by first | exact List.length_set .. | exact (List.length_set ..).trans hyl, by omega, hcap, ?_, by omega, Hrd11.out, G11.out⟩
          rw [← He.out]
          exact O11.out
        · have hz0 : (z == 0) = false := beq_eq_false_iff_ne.2 hz0
          by_cases hz1 : z = 1
          · subst hz1
            obtain ⟨y0, hy0⟩ : ∃ y, ys[0]? = some y := ⟨_, List.getElem?_eq_getElem (by omega)⟩
            obtain ⟨g, rfl, hBg, hob, hc, hf, hset⟩ := own_set o9 (i := 0) (u := .int .i64 y0.1) (pairCells_get ys 0 y0 hy0).1
            have o10 := hset (.int .i64 1001)
            have hrd11 := hrd9.over (grown_set w9 g 0 (.int .i64 1001)) (fun j e => by cases e; omega)
            have G11 := grown_far G9 (grown_set w9 g 0 (.int .i64 1001)) (fun j e => by cases e; exact hBg)
            have he := pairs_set0 hy0 (x := 1001)
            have O10 := Lib.hid o10; clear o10
            have Hrd11 := Lib.hid hrd11; clear hrd11
            have hidX := Lib.hid G11; clear G11; have G11 := hidX; clear hidX
            have He := Lib.hid he; clear he
            clear o9 hset hrd9 G9
            go_wp2_with fail
            go_ret
            refine ⟨_, _, _, ys.set 0 (1001, y0.2), _, rfl, by first | exact List.length_set .. | exact (List.length_set ..).trans hyl, by omega, hcap, ?_, by omega, Hrd11.out, G11.out⟩
            rw [He.out]
            exact O10.out
          · have hz1 : (z == 1) = false := beq_eq_false_iff_ne.2 hz1
            by_cases hz2 : z = 2
            · subst hz2
              obtain ⟨g, cap, eA⟩ : ∃ g cap, Value.slice A3 3 3 = .slice (some ⟨g, 0, none⟩) 3 cap := by
                rcases o9.2 with ⟨h1, h2⟩ | ⟨g, cap, _, h, _⟩
                · exfalso; omega
                · exact ⟨_, _, h⟩
              injection eA with eA _ eC
              subst eA eC
              have hrd1 := own_take1 o9 (by omega)
              have Hrd1 := Lib.hid hrd1; clear hrd1
              have Hrd9 := Lib.hid hrd9; clear hrd9
              have hidX := Lib.hid G9; clear G9; have G9 := hidX; clear hidX
              go_wp2_with fail
              go_ret
              exact ⟨_, _, _, ys.take 1, _, rfl, by rw [List.length_take]; omega, by omega, by omega, Hrd1.out, by omega, Hrd9.out, G9.out⟩
            · have hz2 : (z == 2) = false := beq_eq_false_iff_ne.2 hz2
              have hr9 := o9
              have Hr9 := Lib.hid hr9; clear hr9
              have Hrd9 := Lib.hid hrd9; clear hrd9
              have hidX := Lib.hid G9; clear G9; have G9 := hidX; clear hidX
              go_wp2_with fail
              go_ret
              exact ⟨_, _, _, ys, _, rfl, by first | rfl | exact hyl, by omega, hcap, Hr9.out, by omega, Hrd9.out, G9.out⟩
      · have hlI : ¬ (xs.length : Int) < 2 := by omega
        have hx7 : xs.length ≤ 7 := by omega
        have Hrow := Lib.hid hrow; clear hrow
        go_wp2_with fail
        refine (pick2 R q 40 _ (by omega) (by omega) hrd).mono ?_
        rintro e w9 ⟨z, rfl, z0, z40, hrd9, g9⟩
        have o9 := own_over Hrow.out g9 (fun j hj e => by have := (own_lt Hrow.out hj).1; injection e with e; omega)
        have G9 := grown_trans hgr g9
        have hcap := own_cap o9
        have hbs9 := G9.size
        clear g9
        by_cases hz0 : z = 0
        · subst hz0
          obtain ⟨y0, hy0⟩ : ∃ y, xs[0]? = some y := ⟨_, List.getElem?_eq_getElem (by omega)⟩
          obtain ⟨y1, hy1⟩ : ∃ y, xs[1]? = some y := ⟨_, List.getElem?_eq_getElem (by omega)⟩
          obtain ⟨b9, off9, e9, hb9, hd1, hd2⟩ := rd_pair (Rd.of_own o9) hy1
          obtain ⟨g, rfl, hBg, hob, hc, hf, hset⟩ := own_set o9 (i := 0) (u := .int .i64 y0.1) (pairCells_get xs 0 y0 hy0).1
          cases e9
          have o10 := hset (.int .i64 y1.1)
          obtain ⟨g2, e2, _, _, hc2, hf2, hset2⟩ := own_set o10 (i := 1) (u := .int .i64 y0.2) (by rw [List.getElem?_set_ne (by omega)]; exact (pairCells_get xs 0 y0 hy0).2)
          cases e2
          have o11 := hset2 (.int .i64 y1.2)
          have hf1 := hf2
          rw [show (w9.setCell ⟨b9, 0, none⟩ (.int .i64 y1.1)).frozen? ⟨b9, 1, none⟩ = w9.frozen? ⟨b9, 1, none⟩ from frozen_set _ _ _ _] at hf1
          have hc1 := (pairCells_get xs 0 y0 hy0).2
          have hrd11 := (hrd9.over (grown_set w9 b9 0 (.int .i64 y1.1)) (fun j e => by cases e; omega)).over (grown_set _ b9 1 (.int .i64 y1.2)) (fun j e => by cases e; omega)
          have G11 := grown_far (grown_far G9 (grown_set w9 b9 0 (.int .i64 y1.1)) (fun j e => by cases e; exact hBg)) (grown_set _ b9 1 (.int .i64 y1.2)) (fun j e => by cases e; exact hBg)
          obtain ⟨_, e3, _, _, hc1b, hf1b, _⟩ := own_set o9 (i := 1) (u := .int .i64 y0.2) (pairCells_get xs 0 y0 hy0).2
          cases e3
          have he := pairs_set xs 0 y1 (by omega)
          simp only [Nat.zero_mul, Nat.zero_add, Nat.one_mul] at hd1 hd2 he
          have O11 := Lib.hid o11; clear o11
          have Hrd11 := Lib.hid hrd11; clear hrd11
          have hidX := Lib.hid G11; clear G11; have G11 := hidX; clear hidX
          have He := Lib.hid he; clear he
          clear o9 o10 hset hset2 hrd9 G9 hc2 hf2 hf1 hc1 hy0 hy1
          go_wp2_with fail
          go_ret
          refine ⟨_, _, _, xs.set 0 y1, _, rfl, by first | exact List.length_set .. | exact (List.length_set ..).trans hyl, by omega, hcap, ?_, by omega, Hrd11.out, G11.out⟩
          rw [← He.out]
          exact O11.out
        · have hz0 : (z == 0) = false := beq_eq_false_iff_ne.2 hz0
          by_cases hz1 : z = 1
          · subst hz1
            obtain ⟨y0, hy0⟩ : ∃ y, xs[0]? = some y := ⟨_, List.getElem?_eq_getElem (by omega)⟩
            obtain ⟨g, rfl, hBg, hob, hc, hf, hset⟩ := own_set o9 (i := 0) (u := .int .i64 y0.1) (pairCells_get xs 0 y0 hy0).1
            have o10 := hset (.int .i64 1001)
            have hrd11 := hrd9.over (grown_set w9 g 0 (.int .i64 1001)) (fun j e => by cases e; omega)
            have G11 := grown_far G9 (grown_set w9 g 0 (.int .i64 1001)) (fun j e => by cases e; exact hBg)
            have he := pairs_set0 hy0 (x := 1001)
            have O10 := Lib.hid o10; clear o10
            have Hrd11 := Lib.hid hrd11; clear hrd11
            have hidX := Lib.hid G11; clear G11; have G11 := hidX; clear hidX
            have He := Lib.hid he; clear he
            clear o9 hset hrd9 G9
            go_wp2_with fail
            go_ret
            refine ⟨_, _, _, xs.set 0 (1001, y0.2), _, rfl, by first | exact List.length_set .. | exact (List.length_set ..).trans hyl, by omega, hcap, ?_, by omega, Hrd11.out, G11.out⟩
            rw [He.out]
            exact O10.out
          · have hz1 : (z == 1) = false := beq_eq_false_iff_ne.2 hz1
            by_cases hz2 : z = 2
            · subst hz2
              obtain ⟨g, cap, eA⟩ : ∃ g cap, Value.slice A3 xs.length c3 = .slice (some ⟨g, 0, none⟩) xs.length cap := by
                rcases o9.2 with ⟨h1, h2⟩ | ⟨g, cap, _, h, _⟩
                · exfalso; omega
                · exact ⟨_, _, h⟩
              injection eA with eA _ eC
              subst eA eC
              have hrd1 := own_take1 o9 (by omega)
              have Hrd1 := Lib.hid hrd1; clear hrd1
              have Hrd9 := Lib.hid hrd9; clear hrd9
              have hidX := Lib.hid G9; clear G9; have G9 := hidX; clear hidX
              go_wp2_with fail
              go_ret
              exact ⟨_, _, _, xs.take 1, _, rfl, by rw [List.length_take]; omega, by omega, by omega, Hrd1.out, by omega, Hrd9.out, G9.out⟩
            · have hz2 : (z == 2) = false := beq_eq_false_iff_ne.2 hz2
              have hr9 := o9
              have Hr9 := Lib.hid hr9; clear hr9
              have Hrd9 := Lib.hid hrd9; clear hrd9
              have hidX := Lib.hid G9; clear G9; have G9 := hidX; clear hidX
              go_wp2_with fail
              go_ret
              exact ⟨_, _, _, xs, _, rfl, by first | rfl | exact hyl, by omega, hcap, Hr9.out, by omega, Hrd9.out, G9.out⟩

theorem drawCoverOf_any (A : Option Addr) (n cap : Nat) (bs : List Int) (w : World) (hn : bs.length = n) (hm : n ≤ 9223372036854775807) (hc : n ≤ cap) (hb : BytesOk bs) (hr : Rd w w.heap.size A (bs.map (Value.int .u8))) :
    Calls Tryz.prog 27 #[.slice A n cap] w fun e w' =>
      ∃ (A1 : Option Addr) (k c : Nat) (xs : List (Int × Int)), e = .returned (.slice A1 k c) ∧ xs.length = k ∧ k ≤ 20 ∧ k ≤ c ∧ Rd w' w'.heap.size A1 (xs.flatMap pairCells) ∧ Below w.heap.size w w' := by
  go_enter Tryz.func27, Tryz.ntmps27
  go_wp2_with fail
  refine (l6Open_any A n cap bs w hn hm hc hr).mono ?_
  rintro e w1 ⟨rfl, hR, hb1⟩
  have hrd := isRd_open hn hb hr hR hb1
  clear hR
  go_wp2_with fail
  refine (l91Array_any _ 0 _ (by omega) hrd).mono ?_
  rintro e w2 ⟨A1, k1, c1, ants, p', rfl, hs, hk1, hkc, hr1, hp1, hrd2, g2⟩
  have B2 : Below w.heap.size w w2 := hb1.grown g2 hb1.size fun j e => by cases e; exact Nat.le_refl _
  go_wp2_with fail
  go_ret
  exact ⟨A1, k1, c1, ants, rfl, hs, by omega, hkc, hr1, B2⟩

set_option maxRecDepth 100000 in
set_option maxHeartbeats 1000000 in
theorem drawArrayValid_any (A : Option Addr) (n cap : Nat) (bs : List Int) (w : World) (hn : bs.length = n) (hm : n ≤ 9223372036854775807) (hc : n ≤ cap) (hb : BytesOk bs) (hr : Rd w w.heap.size A (bs.map (Value.int .u8))) :
    Calls Tryz.prog 20 #[.slice A n cap] w fun e w' =>
      ∃ (A1 : Option Addr) (k c : Nat) (xs : List (Int × Int)), e = .returned (.slice A1 k c) ∧ xs.length = k ∧ k ≤ 20 ∧ k ≤ c ∧ Rd w' w'.heap.size A1 (xs.flatMap pairCells) ∧ Below w.heap.size w w' := by
  obtain ⟨i1, hj, hy0, hy1, hy2⟩ := info_parts antInfo
  go_enter Tryz.func20, Tryz.ntmps20
  go_wp2_with fail
  refine (l6Open_any A n cap bs w hn hm hc hr).mono ?_
  rintro e w1 ⟨rfl, hR, hb1⟩
  have hrd := isRd_open hn hb hr hR hb1
  clear hR
  go_wp2_with fail
  refine (l91Array_own _ 0 _ (by omega) hrd).mono ?_
  rintro e w2 ⟨A1, k1, c1, ants, p', rfl, hs, hk1, hkc, o1, hp1, hrd2, g2⟩
  have B2 : Below w.heap.size w w2 := hb1.grown g2 hb1.size fun j e => by cases e; exact Nat.le_refl _
  have hlt := hrd.lt
  go_wp2_with fail
  refine (pick2 _ p' 12 _ (by omega) (by omega) hrd2).mono ?_
  rintro e w3 ⟨x, rfl, x0, x12, hrd3, g3⟩
  have B3 : Below w.heap.size w w3 := B2.grown g3 B2.size fun j e => by cases e; exact Nat.le_refl _
  have o3 := own_over o1 g3 (fun j hj e => by have := (own_lt o1 hj).1; injection e with e; omega)
  have hw1 := hb1.size
  by_cases hx : x = 0
  · subst hx
    have hs1 : w1.heap.size ≤ w3.heap.size := Nat.le_trans g2.size g3.size
    clear g2 g3 o1 B2 hb1 hrd hrd2 hrd3
    have O3 := Lib.hid o3; clear o3
    go_wp2_with fail
    go_loopw [4, 5] (fun v i wr => ∃ (k : Nat) (xs : List (Int × Int)), k ≤ 4 ∧ i = .int .i64 k ∧ xs.length = k1 + k ∧ wr.ownsRow w1.heap.size 50 2 v xs.length (xs.flatMap pairCells) ∧ Below w.heap.size w wr ∧ w1.heap.size ≤ wr.heap.size) (fun _ i _ => 4 - (intOf i).toNat)
    case atStart => exact ⟨0, ants, by omega, rfl, by omega, by rw [hs]; exact O3.out, B3, hs1⟩
    case round =>
      obtain ⟨k, xs, hk, rfl, hxl, hrow, hbel, hsw⟩ := hrel
      obtain ⟨A3, c3, rfl⟩ := own_form hrow
      have hbs := hbel.size
      by_cases hlt2 : k < 4
      · have hkI : (k : Int) < 4 := by omega
        have hwr : IntKind.i64.wrap (100 + (k : Int)) = 100 + k := IntWalk.i64_in _ (by omega)
        have hxb : xs.length ≤ 11 := by omega
        have Hrow := Lib.hid hrow; clear hrow
        have Hxl := Lib.hid hxl; clear hxl
        go_wp2_with (at_builtin; refine wpList_append_own _ rfl _ _ 26 rfl w1.heap.size 50 i1 (.agg #[.int .i64 0, .int .i64 0]) 2 16 (by kernel_rfl) hj hy0 hy1 hy2 rfl (by decide) _ xs.length _ rfl (Hrow.out.alloc _) ⟨wr.heap.size, 0, none⟩ 1 1 [.int .i64 (100 + (k : Int)), .int .i64 (-1000)] rfl rfl (cell_two_new _ _ _ _) (by simp [Value.oneCell']) (by unfold maxLen; omega) (by omega) (by simp; omega) ?_; intro v' w7 hown' hgrow _; obtain ⟨g', cap', rfl⟩ := ownsRow_succ hown')
        have B7 := (hbel.alloc hbs (.cells #[.int .i64 (100 + (k : Int)), .int .i64 (-1000)] 50)).grown hgrow (by simp; omega) fun j hj => by have := (own_lt Hrow.out hj).1; omega
        have hs7 := hgrow.size
        rw [World.size_alloc] at hs7
        have hs8 : w1.heap.size ≤ w7.heap.size := by omega
        have Hown' := Lib.hid hown'; clear hown'
        have hidX := Lib.hid B7; clear B7; have B7 := hidX; clear hidX
        have Hs8 := Lib.hid hs8; clear hs8
        clear hgrow
        go_wp2_with fail
        go_roundw
        case measure => simp [intOf]; omega
        case rel =>
          refine ⟨k + 1, xs ++ [(100 + (k : Int), -1000)], by omega, by go_num, by have := Hxl.out; simp; omega, ?_, B7.out, Hs8.out⟩
          rw [List.length_append, List.flatMap_append]
          exact Hown'.out
      · obtain rfl : k = 4 := by omega
        have hcap := own_cap hrow
        have hr7 := Rd.of_own hrow
        have Hr7 := Lib.hid hr7; clear hr7
        clear hrow
        go_wp2_with fail
        go_ret
        exact ⟨A3, _, _, xs, rfl, rfl, by omega, hcap, Hr7.out, hbel⟩
  · have hxi : (x == 0) = false := beq_eq_false_iff_ne.2 hx
    have hr3 := Rd.of_own o3
    clear g2 g3 o1 o3
    have Hs := Lib.hid hs; clear hs
    go_wp2_with fail
    go_ret
    exact ⟨A1, k1, c1, ants, rfl, Hs.out, by omega, hkc, hr3, B3⟩
end Go.Proofs.YtipgpafgampfbaaGreatDoor
