/- 'spec.l91Array': a drawn array, whose places are small. · 'spec.DrawSkyFrom': a drawn text. · 'spec.l6Many', 'spec.l93Line', 'spec.DrawExecute': a drawn script. · 'spec.DrawExecute': a drawn script. -/
import Derived.Test.YtipgpafgampfbaaGreatDoorB5
import Derived.Test.YtipgpafgampfbaaGreatDoorB4
import Derived.Test.YtipgpafgampfbaaGreatDoorRunU
namespace Go.Proofs.YtipgpafgampfbaaGreatDoor
open Go.RowKit

theorem gLe_snoc {M : Int} {xs : List (Int × Int)} {a : Int × Int} (h : gLe M xs) (h1 : -M ≤ a.1 ∧ a.1 ≤ M) (h2 : -M ≤ a.2 ∧ a.2 ≤ M) : gLe M (xs ++ [a]) := fun x hx => by
  rcases List.mem_append.1 hx with hx | hx
  · exact h x hx
  · obtain rfl : x = a := by simpa using hx
    exact ⟨h1, h2⟩
theorem gLe_set {M : Int} {xs : List (Int × Int)} {k : Nat} {a : Int × Int} (h : gLe M xs) (h1 : (-M ≤ a.1 ∧ a.1 ≤ M) ∧ -M ≤ a.2 ∧ a.2 ≤ M) : gLe M (xs.set k a) := fun x hx => by
  rcases List.mem_or_eq_of_mem_set hx with hx | rfl
  · exact h x hx
  · exact h1
set_option maxRecDepth 100000 in
set_option maxHeartbeats 2000000 in
theorem l91ArrayG_any (R : Nat) (p : Int) (w : World) (hp : 0 ≤ p ∧ p ≤ 800000) (h : IsRd w R p) :
    Calls Tryz.prog 47 #[.pointer (some ⟨R, 0, none⟩)] w fun e w' =>
      ∃ (A : Option Addr) (k c : Nat) (xs : List (Int × Int)) (p' : Int), e = .returned (.slice A k c) ∧ xs.length = k ∧ k ≤ 7 ∧ k ≤ c ∧ gLe 10000 xs ∧ Rd w' w'.heap.size A (xs.flatMap pairCells) ∧ (0 ≤ p' ∧ p' ≤ p + 100) ∧ IsRd w' R p' ∧ w.grownBy w' (some R) := by
  obtain ⟨i1, hj, hy0, hy1, hy2⟩ := info_parts antInfo
  have hlt := h.lt
  have r0 := Row.new w 50 []
  have o0 := r0.own (base := w.heap.size) (n := 0) (size := 2) (Nat.le_refl _) rfl (by decide)
  have h1 := h.kept (bA1 (o := .cells #[] 50))
  have g0 := World.grownBy_alloc w (.cells #[] 50) (some R)
  go_enter Tryz.func47, Tryz.ntmps47
  go_wp2_with fail
  refine (pick2 R p 4 _ (by omega) (by omega) h1).mono ?_
  rintro e w1 ⟨x, rfl, x0, x4, hrd1, g1⟩
  have o1 := own_over o0 g1 (fun j hj e => by have := (own_lt o0 hj).1; injection e with e; omega)
  have G1 := grown_trans g0 g1
  clear h1 g0 g1 o0 r0
  obtain ⟨n, hn⟩ : ∃ n : Nat, 2 + x = n := ⟨(2 + x).toNat, by omega⟩
  have hR1 := hrd1.lt
  have hbs1 := G1.size
  go_wp2_with fail
  have rb := Row.new w1 3 [.int .i64 1, .int .i64 1, .int .i64 7]
  have g1' := World.grownBy_alloc w1 (.cells #[.int .i64 1, .int .i64 1, .int .i64 7] 3) (some R)
  refine (pick2 R (p + 1) 3 _ (by omega) (by omega) (hrd1.kept bA1)).mono ?_
  rintro e w2 ⟨y, rfl, y0, y3, hrd2, g2⟩
  have rb2 := rb.grown g2 (by simp; omega)
  obtain ⟨m, hm, hm1⟩ : ∃ m : Int, w2.cell? ⟨w1.heap.size, y.toNat, none⟩ = some (.int .i64 m) ∧ 1 ≤ m ∧ m ≤ 7 := by
    rw [rb2.cell]
    have : y = 0 ∨ y = 1 ∨ y = 2 := by omega
    rcases this with rfl | rfl | rfl
    · exact ⟨_, rfl, by omega, by omega⟩
    · exact ⟨_, rfl, by omega, by omega⟩
    · exact ⟨_, rfl, by omega, by omega⟩
  obtain ⟨a, rfl⟩ : ∃ a : Nat, y = a := ⟨y.toNat, by omega⟩
  rw [Int.toNat_natCast] at hm
  have o2 := own_over (o1.alloc (.cells #[.int .i64 1, .int .i64 1, .int .i64 7] 3)) g2 (fun j hj e => by have := (own_lt o1 hj).1; injection e with e; omega)
  have G2 := grown_trans (grown_trans G1 g1') g2
  clear G1 g1' g2 o1 rb rb2 hrd1
  go_wp2_with fail
  have Hn := Lib.hid hn
  clear hn hm
  go_loopw [3, 6] (fun v i wr => ∃ (k : Nat) (xs : List (Int × Int)), k ≤ n ∧ i = .int .i64 k ∧ xs.length ≤ k ∧ gLe 10000 xs ∧ wr.ownsRow w.heap.size 50 2 v xs.length (xs.flatMap pairCells) ∧ IsRd wr R (p + 2 + 2 * k) ∧ w.grownBy wr (some R)) (fun _ i _ => n - (intOf i).toNat)
  case atStart => exact ⟨0, [], by omega, rfl, by simp, fun _ h => by simp at h, o2, by rw [show p + 2 + 2 * ((0 : Nat) : Int) = p + 1 + 1 from by omega]; exact hrd2, G2⟩
  case round =>
    clear o2 hrd2 G2
    obtain ⟨k, xs, hk, rfl, hxl, hgl, hrow, hrd, hgr⟩ := hrel
    have Hgl := Lib.hid hgl; clear hgl
    have hn7 : n ≤ 5 := by have := Hn.out; omega
    by_cases hlt2 : k < n
    · have hkn : (k : Int) < n := by omega
      go_wp2_with fail
      refine (pick2 R (p + 2 + 2 * k) 6 _ (by omega) (by omega) hrd).mono ?_
      rintro e w3 ⟨x, rfl, x0, x6, hrd3, g3⟩
      have o3 := own_over hrow g3 (fun j hj e => by have := (own_lt hrow hj).1; injection e with e; omega)
      have G3 := grown_trans hgr g3
      clear hrow hrd hgr g3
      have mx := mul_bd m (x - 2) 7 3 (by omega) (by omega)
      simp only [Int.reduceMul, Int.reduceNeg] at mx
      obtain ⟨X, hX⟩ : ∃ X, m * (x - 2) = X := ⟨_, rfl⟩
      rw [hX] at mx
      go_wp2_with fail
      refine (pick2 R (p + 2 + 2 * k + 1) 4 _ (by omega) (by omega) hrd3).mono ?_
      rintro e w4 ⟨y, rfl, y0, y6, hrd4, g4⟩
      have o4 := own_over o3 g4 (fun j hj e => by have := (own_lt o3 hj).1; injection e with e; omega)
      have G4 := grown_trans G3 g4
      clear o3 hrd3 G3 g4
      have my := mul_bd m (y - 1) 7 2 (by omega) (by omega)
      simp only [Int.reduceMul, Int.reduceNeg] at my
      obtain ⟨Y, hY⟩ : ∃ Y, m * (y - 1) = Y := ⟨_, rfl⟩
      rw [hY] at my
      go_wp2_with fail
      have hbs4 := G4.size
      have o5 := o4.alloc (.cells #[.int .i64 X, .int .i64 Y] 50)
      have rv := Row.new w4 50 [.int .i64 X, .int .i64 Y]
      have hrd5 := hrd4.kept (bA1 (o := .cells #[.int .i64 X, .int .i64 Y] 50))
      have G5 := grown_trans G4 (World.grownBy_alloc w4 (.cells #[.int .i64 X, .int .i64 Y] 50) (some R))
      obtain ⟨A3, c3, rfl⟩ := own_form o5
      refine (l91Has_any A3 xs.length c3 xs (X, Y) _ rfl (by omega) (Rd.of_own o5)).mono ?_
      rintro e w6 ⟨rfl, b6⟩
      have o6 := own_ext o5 b6
      have rv6 := rv.kept b6
      have hrd6 := hrd5.kept b6
      have G6 := grown_trans G5 (below_grown b6 R)
      have hbs6 := G6.size
      obtain ⟨d0, d1, _, _⟩ := rv6.two
      clear o5 o4 rv hrd4 hrd5 G4 G5 b6 hX hY
      cases hin : decide ((X, Y) ∈ xs)
      · have Hin := Lib.hid hin; clear hin
        have O6 := Lib.hid o6; clear o6
        have Hrd6 := Lib.hid hrd6; clear hrd6
        have hidX := Lib.hid G6; clear G6; have G6 := hidX; clear hidX
        have Rv6 := Lib.hid rv6; clear rv6
        go_wp2_with (at_builtin; refine wpList_append_own _ rfl _ _ 26 rfl w.heap.size 50 i1 (.agg #[.int .i64 0, .int .i64 0]) 2 16 (by kernel_rfl) hj hy0 hy1 hy2 rfl (by decide) _ xs.length _ rfl (O6.out.alloc _) ⟨w6.heap.size, 0, none⟩ 1 1 [.int .i64 (X), .int .i64 (Y)] rfl rfl (cell_two_new _ _ _ _) (by simp [Value.oneCell']) (by unfold maxLen; omega) (by omega) (by simp; omega) ?_; intro v' w7 hown' hgrow _; obtain ⟨g', cap', rfl⟩ := ownsRow_succ hown')
        have hrd7 := (Hrd6.out.kept bA1).over hgrow (fun j hj => by have := (own_lt O6.out hj).1; omega)
        have G7 := grown_far (grown_trans G6.out (World.grownBy_alloc w6 (.cells #[.int .i64 X, .int .i64 Y] 50) (some R))) hgrow (fun j hj => (own_lt O6.out hj).1)
        have Hown' := Lib.hid hown'; clear hown'
        have Hrd7 := Lib.hid hrd7; clear hrd7
        have hidX := Lib.hid G7; clear G7; have G7 := hidX; clear hidX
        clear hgrow
        go_wp2_with fail
        go_roundw
        case measure => simp [intOf]; omega
        case rel =>
          refine ⟨k + 1, xs ++ [(X, Y)], by omega, by go_num, by simp; omega, gLe_snoc Hgl.out (by omega) (by omega), ?_, by rw [show p + 2 + 2 * ((k + 1 : Nat) : Int) = p + 2 + 2 * k + 1 + 1 from by omega]; exact Hrd7.out, G7.out⟩
          rw [List.length_append, List.flatMap_append]
          exact Hown'.out
      · have Hin := Lib.hid hin; clear hin
        have O6 := Lib.hid o6; clear o6
        have Hrd6 := Lib.hid hrd6; clear hrd6
        have hidX := Lib.hid G6; clear G6; have G6 := hidX; clear hidX
        have Rv6 := Lib.hid rv6; clear rv6
        go_wp2_with fail
        go_roundw
        case measure => simp [intOf]; omega
        case rel => exact ⟨k + 1, xs, by omega, by go_num, by omega, Hgl.out, O6.out, by rw [show p + 2 + 2 * ((k + 1 : Nat) : Int) = p + 2 + 2 * k + 1 + 1 from by omega]; exact Hrd6.out, G6.out⟩
    · obtain rfl : k = n := by omega
      have hbs := hgr.size
      have hRlt := hrd.lt
      obtain ⟨q, hq⟩ : ∃ q, p + 2 + 2 * (k : Int) = q := ⟨_, rfl⟩
      have hq0 : 0 ≤ q ∧ q ≤ p + 20 := by omega
      rw [hq] at hrd
      clear hq
      obtain ⟨A3, c3, rfl⟩ := own_form hrow
      by_cases hl2 : xs.length < 2
      · have hlI : (xs.length : Int) < 2 := by omega
        have Hrow := Lib.hid hrow; clear hrow
        go_wp2_with fail
        refine (pick2 R q 3 _ (by omega) (by omega) hrd).mono ?_
        rintro e w3 ⟨u, rfl, u0, u3', hrd3, g3⟩
        have G3 := grown_trans hgr g3
        clear g3 hrd hgr
        go_wp2_with fail
        refine (pick2 R (q + 1) 3 _ (by omega) (by omega) hrd3).mono ?_
        rintro e w4 ⟨v, rfl, v0, v3, hrd4, g4⟩
        have G4 := grown_trans G3 g4
        have hbs4 := G4.size
        clear g4 hrd3 G3
        have rn := Row.new w4 50 [.int .i64 0, .int .i64 0, .int .i64 (1 + u), .int .i64 v, .int .i64 5, .int .i64 1]
        have on := rn.own (base := w.heap.size) (n := 3) (size := 2) hbs4 rfl (by decide)
        have hrd5 := hrd4.kept (bA1 (o := .cells #[.int .i64 0, .int .i64 0, .int .i64 (1 + u), .int .i64 v, .int .i64 5, .int .i64 1] 50))
        have G5 := grown_trans G4 (World.grownBy_alloc w4 (.cells #[.int .i64 0, .int .i64 0, .int .i64 (1 + u), .int .i64 v, .int .i64 5, .int .i64 1] 50) (some R))
        have On := Lib.hid (show World.ownsRow _ w.heap.size 50 2 _ ([(0, 0), (1 + u, v), (5, 1)] : List (Int × Int)).length (([(0, 0), (1 + u, v), (5, 1)] : List (Int × Int)).flatMap pairCells) from on)
        clear hrd4 G4 rn on
        obtain ⟨ys, hys⟩ : ∃ ys : List (Int × Int), [(0, 0), (1 + u, v), (5, 1)] = ys := ⟨_, rfl⟩
        have hyl : ys.length = 3 := by rw [← hys]; rfl
        have Hyg := Lib.hid (show gLe 10000 ys by rw [← hys]; intro x hx; simp only [List.mem_cons, List.not_mem_nil, or_false] at hx; rcases hx with rfl | rfl | rfl <;> dsimp only <;> omega)
        rw [hys] at On
        rw [hyl] at On
        clear hys
        go_wp2_with fail
        obtain ⟨A3, hA3⟩ : ∃ A3, some (⟨w4.heap.size, 0, none⟩ : Addr) = A3 := ⟨_, rfl⟩
        rw [hA3] at On ⊢
        clear hA3
        refine (pick2 R (q + 1 + 1) 40 _ (by omega) (by omega) hrd5).mono ?_
        rintro e w9 ⟨z, rfl, z0, z40, hrd9, g9⟩
        have o9 := own_over On.out g9 (fun j hj e => by have := (own_lt On.out hj).1; injection e with e; omega)
        have G9 := grown_trans G5 g9
        have hcap := own_cap o9
        have hbs9 := G9.size
        clear g9
        by_cases hz0 : z = 0
        · subst hz0
          obtain ⟨y0, hy0⟩ : ∃ y, ys[0]? = some y := ⟨_, List.getElem?_eq_getElem (by omega)⟩
          obtain ⟨y1, hy1⟩ : ∃ y, ys[1]? = some y := ⟨_, List.getElem?_eq_getElem (by omega)⟩
          obtain ⟨b9, off9, e9, hb9, hd1, hd2⟩ := rd_pair (Rd.of_own o9) hy1
          obtain ⟨g, rfl, hBg, hob, hc, hf, hset⟩ := own_set o9 (i := 0) (u := .int .i64 y0.1) (pairCells_get ys 0 y0 hy0).1
          cases e9
          have o10 := hset (.int .i64 y1.1)
          obtain ⟨g2, e2, _, _, hc2, hf2, hset2⟩ := own_set o10 (i := 1) (u := .int .i64 y0.2) (by rw [List.getElem?_set_ne (by omega)]; exact (pairCells_get ys 0 y0 hy0).2)
          cases e2
          have o11 := hset2 (.int .i64 y1.2)
          have hf1 := hf2
          rw [show (w9.setCell ⟨b9, 0, none⟩ (.int .i64 y1.1)).frozen? ⟨b9, 1, none⟩ = w9.frozen? ⟨b9, 1, none⟩ from frozen_set _ _ _ _] at hf1
          have hc1 := (pairCells_get ys 0 y0 hy0).2
          have hrd11 := (hrd9.over (grown_set w9 b9 0 (.int .i64 y1.1)) (fun j e => by cases e; omega)).over (grown_set _ b9 1 (.int .i64 y1.2)) (fun j e => by cases e; omega)
          have G11 := grown_far (grown_far G9 (grown_set w9 b9 0 (.int .i64 y1.1)) (fun j e => by cases e; exact hBg)) (grown_set _ b9 1 (.int .i64 y1.2)) (fun j e => by cases e; exact hBg)
          obtain ⟨_, e3, _, _, hc1b, hf1b, _⟩ := own_set o9 (i := 1) (u := .int .i64 y0.2) (pairCells_get ys 0 y0 hy0).2
          cases e3
          have he := pairs_set ys 0 y1 (by omega)
          simp only [Nat.zero_mul, Nat.zero_add, Nat.one_mul] at hd1 hd2 he
          have O11 := Lib.hid o11; clear o11
          have Hrd11 := Lib.hid hrd11; clear hrd11
          have hidX := Lib.hid G11; clear G11; have G11 := hidX; clear hidX
          have He := Lib.hid he; clear he
          have Hy1 := Lib.hid hy1
          clear o9 o10 hset hset2 hrd9 G9 hc2 hf2 hf1 hc1 hy0 hy1
          go_wp2_with fail
          go_ret
          refine ⟨_, _, _, ys.set 0 y1, _, rfl, by first | exact List.length_set .. | exact (List.length_set ..).trans hyl, by omega, hcap, gLe_set Hyg.out (Hyg.out y1 (List.mem_of_getElem? Hy1.out)), ?_, by omega, Hrd11.out, G11.out⟩
          rw [← He.out]
          exact Rd.of_own O11.out
        · have hz0 : (z == 0) = false := beq_eq_false_iff_ne.2 hz0
          by_cases hz1 : z = 1
          · subst hz1
            obtain ⟨y0, hy0⟩ : ∃ y, ys[0]? = some y := ⟨_, List.getElem?_eq_getElem (by omega)⟩
            obtain ⟨g, rfl, hBg, hob, hc, hf, hset⟩ := own_set o9 (i := 0) (u := .int .i64 y0.1) (pairCells_get ys 0 y0 hy0).1
            have o10 := hset (.int .i64 1001)
            have hrd11 := hrd9.over (grown_set w9 g 0 (.int .i64 1001)) (fun j e => by cases e; omega)
            have G11 := grown_far G9 (grown_set w9 g 0 (.int .i64 1001)) (fun j e => by cases e; exact hBg)
            have he := pairs_set0 hy0 (x := 1001)
            have O10 := Lib.hid o10; clear o10
            have Hrd11 := Lib.hid hrd11; clear hrd11
            have hidX := Lib.hid G11; clear G11; have G11 := hidX; clear hidX
            have He := Lib.hid he; clear he
            clear o9 hset hrd9 G9
            go_wp2_with fail
            go_ret
            refine ⟨_, _, _, ys.set 0 (1001, y0.2), _, rfl, by first | exact List.length_set .. | exact (List.length_set ..).trans hyl, by omega, hcap, gLe_set Hyg.out ⟨by dsimp only; omega, (Hyg.out y0 (List.mem_of_getElem? hy0)).2⟩, ?_, by omega, Hrd11.out, G11.out⟩
            rw [He.out]
            exact Rd.of_own O10.out
          · have hz1 : (z == 1) = false := beq_eq_false_iff_ne.2 hz1
            by_cases hz2 : z = 2
            · subst hz2
              obtain ⟨g, cap, eA⟩ : ∃ g cap, Value.slice A3 3 3 = .slice (some ⟨g, 0, none⟩) 3 cap := by
                rcases o9.2 with ⟨h1, h2⟩ | ⟨g, cap, _, h, _⟩
                · exfalso; omega
                · exact ⟨_, _, h⟩
              injection eA with eA _ _
              subst eA
              have hrd1 : Rd w9 w9.heap.size (some ⟨g, 0, none⟩) ((ys.take 1).flatMap pairCells) := rd_take (Rd.of_own o9) 1
              have Hrd1 := Lib.hid hrd1; clear hrd1
              have Hrd9 := Lib.hid hrd9; clear hrd9
              have hidX := Lib.hid G9; clear G9; have G9 := hidX; clear hidX
              go_wp2_with fail
              go_ret
              exact ⟨_, _, _, ys.take 1, _, rfl, by rw [List.length_take]; omega, by omega, by omega, (fun x h => Hyg.out x (List.mem_of_mem_take h)), Hrd1.out, by omega, Hrd9.out, G9.out⟩
            · have hz2 : (z == 2) = false := beq_eq_false_iff_ne.2 hz2
              have hr9 := Rd.of_own o9
              have Hr9 := Lib.hid hr9; clear hr9
              have Hrd9 := Lib.hid hrd9; clear hrd9
              have hidX := Lib.hid G9; clear G9; have G9 := hidX; clear hidX
              go_wp2_with fail
              go_ret
              exact ⟨_, _, _, ys, _, rfl, by first | rfl | exact hyl, by omega, hcap, Hyg.out, Hr9.out, by omega, Hrd9.out, G9.out⟩
      · have hlI : ¬ (xs.length : Int) < 2 := by omega
        have hx7 : xs.length ≤ 7 := by omega
        have Hrow := Lib.hid hrow; clear hrow
        go_wp2_with fail
        refine (pick2 R q 40 _ (by omega) (by omega) hrd).mono ?_
        rintro e w9 ⟨z, rfl, z0, z40, hrd9, g9⟩
        have o9 := own_over Hrow.out g9 (fun j hj e => by have := (own_lt Hrow.out hj).1; injection e with e; omega)
        have G9 := grown_trans hgr g9
        have hcap := own_cap o9
        have hbs9 := G9.size
        clear g9
        by_cases hz0 : z = 0
        · subst hz0
          obtain ⟨y0, hy0⟩ : ∃ y, xs[0]? = some y := ⟨_, List.getElem?_eq_getElem (by omega)⟩
          obtain ⟨y1, hy1⟩ : ∃ y, xs[1]? = some y := ⟨_, List.getElem?_eq_getElem (by omega)⟩
          obtain ⟨b9, off9, e9, hb9, hd1, hd2⟩ := rd_pair (Rd.of_own o9) hy1
          obtain ⟨g, rfl, hBg, hob, hc, hf, hset⟩ := own_set o9 (i := 0) (u := .int .i64 y0.1) (pairCells_get xs 0 y0 hy0).1
          cases e9
          have o10 := hset (.int .i64 y1.1)
          obtain ⟨g2, e2, _, _, hc2, hf2, hset2⟩ := own_set o10 (i := 1) (u := .int .i64 y0.2) (by rw [List.getElem?_set_ne (by omega)]; exact (pairCells_get xs 0 y0 hy0).2)
          cases e2
          have o11 := hset2 (.int .i64 y1.2)
          have hf1 := hf2
          rw [show (w9.setCell ⟨b9, 0, none⟩ (.int .i64 y1.1)).frozen? ⟨b9, 1, none⟩ = w9.frozen? ⟨b9, 1, none⟩ from frozen_set _ _ _ _] at hf1
          have hc1 := (pairCells_get xs 0 y0 hy0).2
          have hrd11 := (hrd9.over (grown_set w9 b9 0 (.int .i64 y1.1)) (fun j e => by cases e; omega)).over (grown_set _ b9 1 (.int .i64 y1.2)) (fun j e => by cases e; omega)
          have G11 := grown_far (grown_far G9 (grown_set w9 b9 0 (.int .i64 y1.1)) (fun j e => by cases e; exact hBg)) (grown_set _ b9 1 (.int .i64 y1.2)) (fun j e => by cases e; exact hBg)
          obtain ⟨_, e3, _, _, hc1b, hf1b, _⟩ := own_set o9 (i := 1) (u := .int .i64 y0.2) (pairCells_get xs 0 y0 hy0).2
          cases e3
          have he := pairs_set xs 0 y1 (by omega)
          simp only [Nat.zero_mul, Nat.zero_add, Nat.one_mul] at hd1 hd2 he
          have O11 := Lib.hid o11; clear o11
          have Hrd11 := Lib.hid hrd11; clear hrd11
          have hidX := Lib.hid G11; clear G11; have G11 := hidX; clear hidX
          have He := Lib.hid he; clear he
          have Hy1 := Lib.hid hy1
          clear o9 o10 hset hset2 hrd9 G9 hc2 hf2 hf1 hc1 hy0 hy1
          go_wp2_with fail
          go_ret
          refine ⟨_, _, _, xs.set 0 y1, _, rfl, by first | exact List.length_set .. | exact (List.length_set ..).trans hyl, by omega, hcap, gLe_set Hgl.out (Hgl.out y1 (List.mem_of_getElem? Hy1.out)), ?_, by omega, Hrd11.out, G11.out⟩
          rw [← He.out]
          exact Rd.of_own O11.out
        · have hz0 : (z == 0) = false := beq_eq_false_iff_ne.2 hz0
          by_cases hz1 : z = 1
          · subst hz1
            obtain ⟨y0, hy0⟩ : ∃ y, xs[0]? = some y := ⟨_, List.getElem?_eq_getElem (by omega)⟩
            obtain ⟨g, rfl, hBg, hob, hc, hf, hset⟩ := own_set o9 (i := 0) (u := .int .i64 y0.1) (pairCells_get xs 0 y0 hy0).1
            have o10 := hset (.int .i64 1001)
            have hrd11 := hrd9.over (grown_set w9 g 0 (.int .i64 1001)) (fun j e => by cases e; omega)
            have G11 := grown_far G9 (grown_set w9 g 0 (.int .i64 1001)) (fun j e => by cases e; exact hBg)
            have he := pairs_set0 hy0 (x := 1001)
            have O10 := Lib.hid o10; clear o10
            have Hrd11 := Lib.hid hrd11; clear hrd11
            have hidX := Lib.hid G11; clear G11; have G11 := hidX; clear hidX
            have He := Lib.hid he; clear he
            clear o9 hset hrd9 G9
            go_wp2_with fail
            go_ret
            refine ⟨_, _, _, xs.set 0 (1001, y0.2), _, rfl, by first | exact List.length_set .. | exact (List.length_set ..).trans hyl, by omega, hcap, gLe_set Hgl.out ⟨by dsimp only; omega, (Hgl.out y0 (List.mem_of_getElem? hy0)).2⟩, ?_, by omega, Hrd11.out, G11.out⟩
            rw [He.out]
            exact Rd.of_own O10.out
          · have hz1 : (z == 1) = false := beq_eq_false_iff_ne.2 hz1
            by_cases hz2 : z = 2
            · subst hz2
              obtain ⟨g, cap, eA⟩ : ∃ g cap, Value.slice A3 xs.length c3 = .slice (some ⟨g, 0, none⟩) xs.length cap := by
                rcases o9.2 with ⟨h1, h2⟩ | ⟨g, cap, _, h, _⟩
                · exfalso; omega
                · exact ⟨_, _, h⟩
              injection eA with eA _ _
              subst eA
              have hrd1 : Rd w9 w9.heap.size (some ⟨g, 0, none⟩) ((xs.take 1).flatMap pairCells) := rd_take (Rd.of_own o9) 1
              have Hrd1 := Lib.hid hrd1; clear hrd1
              have Hrd9 := Lib.hid hrd9; clear hrd9
              have hidX := Lib.hid G9; clear G9; have G9 := hidX; clear hidX
              go_wp2_with fail
              go_ret
              exact ⟨_, _, _, xs.take 1, _, rfl, by rw [List.length_take]; omega, by omega, by omega, (fun x h => Hgl.out x (List.mem_of_mem_take h)), Hrd1.out, by omega, Hrd9.out, G9.out⟩
            · have hz2 : (z == 2) = false := beq_eq_false_iff_ne.2 hz2
              have hr9 := Rd.of_own o9
              have Hr9 := Lib.hid hr9; clear hr9
              have Hrd9 := Lib.hid hrd9; clear hrd9
              have hidX := Lib.hid G9; clear G9; have G9 := hidX; clear hidX
              go_wp2_with fail
              go_ret
              exact ⟨_, _, _, xs, _, rfl, by first | rfl | exact hyl, by omega, hcap, Hgl.out, Hr9.out, by omega, Hrd9.out, G9.out⟩
end Go.Proofs.YtipgpafgampfbaaGreatDoor

namespace Go.Proofs.YtipgpafgampfbaaGreatDoor
open Go.RowKit

theorem of_any (R : Nat) (p : Int) (g n cap : Nat) (ls : List (List UInt8)) (w : World) (hp : 0 ≤ p ∧ p ≤ 1000000) (hl : ls.length = n) (hn : 1 ≤ n ∧ n ≤ 100) (hb : ∀ x ∈ ls, x.length ≤ 100) (h : IsRd w R p)
    (hr : Row w g 9 (strs ls)) (hne : g ≠ R) :
    Calls Tryz.prog 88 #[.pointer (some ⟨R, 0, none⟩), .slice (some ⟨g, 0, none⟩) n cap] w fun e w' =>
      ∃ x : List UInt8, e = .returned (.string ⟨x.toArray⟩) ∧ x.length ≤ 100 ∧ IsRd w' R (p + 1) ∧ w.grownBy w' (some R) := by
  go_enter Tryz.func88, Tryz.ntmps88
  go_wp2_with fail
  refine (pick2 R p n _ hp (by omega) h).mono ?_
  rintro e w1 ⟨x, rfl, x0, xn, hrd, g1⟩
  obtain ⟨k, rfl⟩ : ∃ k : Nat, x = k := ⟨x.toNat, by omega⟩
  have hk : k < n := by omega
  have hc : w1.cell? ⟨g, k, none⟩ = some (.string ⟨(ls.getD k []).toArray⟩) := by rw [(hr.grown g1 (by simpa using hne)).cell]; exact strs_get (by omega)
  have hx := hb _ (getD_mem (d := []) (show k < ls.length by omega))
  generalize ls.getD k [] = y at *
  have G := Lib.hid g1
  clear g1 hb hr
  go_wp2_with fail
  go_ret
  exact ⟨y, rfl, hx, hrd, G.out⟩

end Go.Proofs.YtipgpafgampfbaaGreatDoor

namespace Go.Proofs.YtipgpafgampfbaaGreatDoor
open Go.RowKit

set_option maxRecDepth 100000 in
theorem l6Many_any (s : List UInt8) (n : Nat) (w : World) (hs : s.length * n ≤ 100000) (hn : n ≤ 100000) :
    Calls Tryz.prog 51 #[.string ⟨s.toArray⟩, .int .i64 n] w fun e w' => ∃ o : List UInt8, e = .returned (.string ⟨o.toArray⟩) ∧ o.length ≤ s.length * n ∧ w = w' := by
  obtain ⟨c, hc⟩ : ∃ c, s.length * n = c := ⟨_, rfl⟩
  rw [hc] at hs ⊢
  have Hc := Lib.hid hc; clear hc
  go_enter Tryz.func51, Tryz.ntmps51
  go_wp2_with fail
  go_loop [0, 1, 5] (fun a i o => ∃ (x y : List UInt8) (k : Nat), a = .string ⟨x.toArray⟩ ∧ i = .int .i64 k ∧ o = .string ⟨y.toArray⟩ ∧ k ≤ n ∧ x.length * k + y.length ≤ c) (fun _ i _ => (intOf i).toNat)
  case atStart => exact ⟨s, [], n, rfl, rfl, rfl, Nat.le_refl _, by rw [Hc.out]; simp⟩
  case round =>
    obtain ⟨x, y, k, rfl, rfl, rfl, hkn, hle⟩ := hrel
    by_cases hk : 0 < k
    · have hxc : x.length ≤ c := by
        have : x.length * 1 ≤ x.length * k := Nat.mul_le_mul_left _ hk
        omega
      have hs1 : ¬ 9223372036854775807 < x.length + x.length := by omega
      have hs2 : ¬ 9223372036854775807 < y.length + x.length := by omega
      have hkI : (0 : Int) < (k : Int) := by omega
      obtain ⟨q, hq⟩ : ∃ q : Nat, k / 2 = q := ⟨_, rfl⟩
      have t1 : ((k : Int)).tmod 2 = ((k % 2 : Nat) : Int) := by rw [Int.tmod_eq_emod_of_nonneg (by omega)]; omega
      have t2 : ((k : Int)).tdiv 2 = (q : Int) := by rw [Int.tdiv_eq_ediv_of_nonneg (by omega)]; omega
      have t3 : ((k : Int)) % 2 = ((k % 2 : Nat) : Int) := by omega
      have t4 : ((k : Int)) / 2 = (q : Int) := by omega
      have j0 : IntKind.i64.wrap (q : Int) = q := IntWalk.i64_in _ (by omega)
      rcases Nat.mod_two_eq_zero_or_one k with h2 | h2
      · have hkq : k = q + q := by omega
        have hle2 : (x ++ x).length * q + y.length ≤ c := by
          rw [hkq, Nat.mul_add] at hle
          rw [List.length_append, Nat.add_mul]; exact hle
        rw [h2] at t1 t3
        have hqn : q ≤ n := by omega
        have Hq := Lib.hid hq; clear hq
        have H2 := Lib.hid h2; clear h2
        have Hle2 := Lib.hid hle2; clear hle2
        have Hkq := Lib.hid hkq; clear hkq
        go_wp2_with fail
        go_round
        case rel => exact ⟨x ++ x, y, q, by rw [← str_app], rfl, rfl, by omega, Hle2.out⟩
        case measure => simp [intOf]; have := Hkq.out; omega
      · have hkq : k = q + q + 1 := by omega
        have hle2 : (x ++ x).length * q + (y ++ x).length ≤ c := by
          rw [hkq, Nat.mul_add, Nat.mul_add, Nat.mul_one] at hle
          rw [List.length_append, List.length_append, Nat.add_mul]; omega
        rw [h2] at t1 t3
        have hqn : q ≤ n := by omega
        have Hq := Lib.hid hq; clear hq
        have H2 := Lib.hid h2; clear h2
        have Hle2 := Lib.hid hle2; clear hle2
        have Hkq := Lib.hid hkq; clear hkq
        go_wp2_with fail
        go_round
        case rel => exact ⟨x ++ x, y ++ x, q, by rw [← str_app], rfl, by rw [← str_app], by omega, Hle2.out⟩
        case measure => simp [intOf]; have := Hkq.out; omega
    · obtain rfl : k = 0 := by omega
      go_wp2_with fail
      go_ret
      exact ⟨y, rfl, by omega, rfl⟩

set_option maxRecDepth 100000 in
set_option maxHeartbeats 1000000 in
theorem l93Line_any (R : Nat) (p : Int) (w : World) (hp : 0 ≤ p ∧ p ≤ 900000) (h : IsRd w R p) :
    Calls Tryz.prog 50 #[.pointer (some ⟨R, 0, none⟩)] w fun e w' => ∃ (o : List UInt8) (p' : Int), e = .returned (.string ⟨o.toArray⟩) ∧ o.length ≤ 100 ∧ (0 ≤ p' ∧ p' ≤ p + 10) ∧ IsRd w' R p' ∧ w.grownBy w' (some R) := by
  go_enter Tryz.func50, Tryz.ntmps50
  go_wp2_with fail
  refine (pick2 R p 9 _ (by omega) (by omega) h).mono ?_
  rintro e w1 ⟨z, rfl, z0, z9, hrd, G⟩
  clear h
  by_cases hz0 : z = 0
  · subst hz0
    go_wp2_with fail
    refine (pick2 R (p + 1) 4 _ (by omega) (by omega) hrd).mono ?_
    rintro e wa0 ⟨x0, rfl, l0, u0, hrd0, g0⟩
    have G0 := grown_trans G g0
    clear g0 hrd G
    have i0 := itoa_small (n := x0) (by omega)
    go_wp2_with fail
    refine (sDec_any (x0) (by omega) _).mono ?_
    rintro e wb0 ⟨rfl, b0⟩
    have hrd := hrd0.kept b0
    have D0 := grown_trans G0 (below_grown b0 R)
    clear b0 hrd0 G0
    have n0b : ¬ 9223372036854775807 < 5 + (Lib.itoa (x0)).length := by omega
    have n1a : ¬ 9223372036854775807 < 5 + (Lib.itoa (x0)).length + 1 := by omega
    go_wp2_with fail
    refine (pick2 R (p + 1 + 1) 4 _ (by omega) (by omega) hrd).mono ?_
    rintro e wa1 ⟨x1, rfl, l1, u1, hrd1, g1⟩
    have G1 := grown_trans D0 g1
    clear g1 hrd D0
    have i1 := itoa_small (n := x1) (by omega)
    go_wp2_with fail
    refine (sDec_any (x1) (by omega) _).mono ?_
    rintro e wb1 ⟨rfl, b1⟩
    have hrd := hrd1.kept b1
    have D1 := grown_trans G1 (below_grown b1 R)
    clear b1 hrd1 G1
    have n1b : ¬ 9223372036854775807 < 5 + (Lib.itoa (x0)).length + 1 + (Lib.itoa (x1)).length := by omega
    have n2a : ¬ 9223372036854775807 < 5 + (Lib.itoa (x0)).length + 1 + (Lib.itoa (x1)).length + 1 := by omega
    go_wp2_with fail
    refine (pick2 R (p + 1 + 1 + 1) 40 _ (by omega) (by omega) hrd).mono ?_
    rintro e wa2 ⟨x2, rfl, l2, u2, hrd2, g2⟩
    have G2 := grown_trans D1 g2
    clear g2 hrd D1
    have i2 := itoa_small (n := x2) (by omega)
    go_wp2_with fail
    refine (sDec_any (x2) (by omega) _).mono ?_
    rintro e wb2 ⟨rfl, b2⟩
    have hrd := hrd2.kept b2
    have D2 := grown_trans G2 (below_grown b2 R)
    clear b2 hrd2 G2
    have n2b : ¬ 9223372036854775807 < 5 + (Lib.itoa (x0)).length + 1 + (Lib.itoa (x1)).length + 1 + (Lib.itoa (x2)).length := by omega
    have eE : (⟨#[99, 101, 108, 108, 32]⟩ ++ ⟨(Lib.itoa (x0)).toArray⟩ ++ ⟨#[32]⟩ ++ ⟨(Lib.itoa (x1)).toArray⟩ ++ ⟨#[32]⟩ ++ ⟨(Lib.itoa (x2)).toArray⟩ : ByteArray) = ⟨(((((([99, 101, 108, 108, 32] ++ Lib.itoa (x0)) ++ [32]) ++ Lib.itoa (x1)) ++ [32]) ++ Lib.itoa (x2))).toArray⟩ := by rw [← str_app, ← str_app, ← str_app, ← str_app, ← str_app]
    have hO : (((((([99, 101, 108, 108, 32] ++ Lib.itoa (x0)) ++ [32]) ++ Lib.itoa (x1)) ++ [32]) ++ Lib.itoa (x2)) : List UInt8).length ≤ 100 := by simp only [List.length_append, List.length_cons, List.length_nil]; omega
    have EE := Lib.hid eE; clear eE
    have HO := Lib.hid hO; clear hO
    go_wp2_with fail
    go_ret
    exact ⟨_, p + 1 + 1 + 1 + 1, congrArg (fun b => Ending.returned (Value.string b)) EE.out, HO.out, by omega, hrd, D2⟩
  have hi0 : (z == 0) = false := beq_eq_false_iff_ne.2 hz0
  by_cases hz1 : z = 1
  · clear hz0
    subst hz1
    go_wp2_with fail
    refine (pick2 R (p + 1) 200 _ (by omega) (by omega) hrd).mono ?_
    rintro e wa0 ⟨x0, rfl, l0, u0, hrd0, g0⟩
    have G0 := grown_trans G g0
    clear g0 hrd G
    have i0 := itoa_small (n := x0 - 100) (by omega)
    go_wp2_with fail
    refine (sDec_any (x0 - 100) (by omega) _).mono ?_
    rintro e wb0 ⟨rfl, b0⟩
    have hrd := hrd0.kept b0
    have D0 := grown_trans G0 (below_grown b0 R)
    clear b0 hrd0 G0
    have n0b : ¬ 9223372036854775807 < 6 + (Lib.itoa (x0 - 100)).length := by omega
    have n1a : ¬ 9223372036854775807 < 6 + (Lib.itoa (x0 - 100)).length + 1 := by omega
    go_wp2_with fail
    refine (pick2 R (p + 1 + 1) 200 _ (by omega) (by omega) hrd).mono ?_
    rintro e wa1 ⟨x1, rfl, l1, u1, hrd1, g1⟩
    have G1 := grown_trans D0 g1
    clear g1 hrd D0
    have i1 := itoa_small (n := x1 - 100) (by omega)
    go_wp2_with fail
    refine (sDec_any (x1 - 100) (by omega) _).mono ?_
    rintro e wb1 ⟨rfl, b1⟩
    have hrd := hrd1.kept b1
    have D1 := grown_trans G1 (below_grown b1 R)
    clear b1 hrd1 G1
    have n1b : ¬ 9223372036854775807 < 6 + (Lib.itoa (x0 - 100)).length + 1 + (Lib.itoa (x1 - 100)).length := by omega
    have eE : (⟨#[112, 111, 105, 110, 116, 32]⟩ ++ ⟨(Lib.itoa (x0 - 100)).toArray⟩ ++ ⟨#[32]⟩ ++ ⟨(Lib.itoa (x1 - 100)).toArray⟩ : ByteArray) = ⟨(((([112, 111, 105, 110, 116, 32] ++ Lib.itoa (x0 - 100)) ++ [32]) ++ Lib.itoa (x1 - 100))).toArray⟩ := by rw [← str_app, ← str_app, ← str_app]
    have hO : (((([112, 111, 105, 110, 116, 32] ++ Lib.itoa (x0 - 100)) ++ [32]) ++ Lib.itoa (x1 - 100)) : List UInt8).length ≤ 100 := by simp only [List.length_append, List.length_cons, List.length_nil]; omega
    have EE := Lib.hid eE; clear eE
    have HO := Lib.hid hO; clear hO
    go_wp2_with fail
    go_ret
    exact ⟨_, p + 1 + 1 + 1, congrArg (fun b => Ending.returned (Value.string b)) EE.out, HO.out, by omega, hrd, D1⟩
  have hi1 : (z == 1) = false := beq_eq_false_iff_ne.2 hz1
  by_cases hz2 : z = 2
  · clear hz0 hz1
    subst hz2
    go_wp2_with fail
    refine (pick2 R (p + 1) 12 _ (by omega) (by omega) hrd).mono ?_
    rintro e wa0 ⟨x0, rfl, l0, u0, hrd0, g0⟩
    have G0 := grown_trans G g0
    clear g0 hrd G
    have i0 := itoa_small (n := x0) (by omega)
    go_wp2_with fail
    refine (sDec_any (x0) (by omega) _).mono ?_
    rintro e wb0 ⟨rfl, b0⟩
    have hrd := hrd0.kept b0
    have D0 := grown_trans G0 (below_grown b0 R)
    clear b0 hrd0 G0
    have n0b : ¬ 9223372036854775807 < 6 + (Lib.itoa (x0)).length := by omega
    have eE : (⟨#[99, 108, 101, 97, 110, 32]⟩ ++ ⟨(Lib.itoa (x0)).toArray⟩ : ByteArray) = ⟨(([99, 108, 101, 97, 110, 32] ++ Lib.itoa (x0))).toArray⟩ := by rw [← str_app]
    have hO : (([99, 108, 101, 97, 110, 32] ++ Lib.itoa (x0)) : List UInt8).length ≤ 100 := by simp only [List.length_append, List.length_cons, List.length_nil]; omega
    have EE := Lib.hid eE; clear eE
    have HO := Lib.hid hO; clear hO
    go_wp2_with fail
    go_ret
    exact ⟨_, p + 1 + 1, congrArg (fun b => Ending.returned (Value.string b)) EE.out, HO.out, by omega, hrd, D0⟩
  have hi2 : (z == 2) = false := beq_eq_false_iff_ne.2 hz2
  by_cases hz3 : z = 3
  · clear hz0 hz1 hz2
    subst hz3
    go_wp2_with fail
    refine (pick2 R (p + 1) 9 _ (by omega) (by omega) hrd).mono ?_
    rintro e wa0 ⟨x0, rfl, l0, u0, hrd0, g0⟩
    have G0 := grown_trans G g0
    clear g0 hrd G
    have i0 := itoa_small (n := x0 - 3) (by omega)
    go_wp2_with fail
    refine (sDec_any (x0 - 3) (by omega) _).mono ?_
    rintro e wb0 ⟨rfl, b0⟩
    have hrd := hrd0.kept b0
    have D0 := grown_trans G0 (below_grown b0 R)
    clear b0 hrd0 G0
    have n0b : ¬ 9223372036854775807 < 4 + (Lib.itoa (x0 - 3)).length := by omega
    have n1a : ¬ 9223372036854775807 < 4 + (Lib.itoa (x0 - 3)).length + 1 := by omega
    go_wp2_with fail
    refine (pick2 R (p + 1 + 1) 9 _ (by omega) (by omega) hrd).mono ?_
    rintro e wa1 ⟨x1, rfl, l1, u1, hrd1, g1⟩
    have G1 := grown_trans D0 g1
    clear g1 hrd D0
    have i1 := itoa_small (n := x1 - 3) (by omega)
    go_wp2_with fail
    refine (sDec_any (x1 - 3) (by omega) _).mono ?_
    rintro e wb1 ⟨rfl, b1⟩
    have hrd := hrd1.kept b1
    have D1 := grown_trans G1 (below_grown b1 R)
    clear b1 hrd1 G1
    have n1b : ¬ 9223372036854775807 < 4 + (Lib.itoa (x0 - 3)).length + 1 + (Lib.itoa (x1 - 3)).length := by omega
    have eE : (⟨#[97, 110, 116, 32]⟩ ++ ⟨(Lib.itoa (x0 - 3)).toArray⟩ ++ ⟨#[32]⟩ ++ ⟨(Lib.itoa (x1 - 3)).toArray⟩ : ByteArray) = ⟨(((([97, 110, 116, 32] ++ Lib.itoa (x0 - 3)) ++ [32]) ++ Lib.itoa (x1 - 3))).toArray⟩ := by rw [← str_app, ← str_app, ← str_app]
    have hO : (((([97, 110, 116, 32] ++ Lib.itoa (x0 - 3)) ++ [32]) ++ Lib.itoa (x1 - 3)) : List UInt8).length ≤ 100 := by simp only [List.length_append, List.length_cons, List.length_nil]; omega
    have EE := Lib.hid eE; clear eE
    have HO := Lib.hid hO; clear hO
    go_wp2_with fail
    go_ret
    exact ⟨_, p + 1 + 1 + 1, congrArg (fun b => Ending.returned (Value.string b)) EE.out, HO.out, by omega, hrd, D1⟩
  have hi3 : (z == 3) = false := beq_eq_false_iff_ne.2 hz3
  by_cases hz4 : z = 4
  · clear hz0 hz1 hz2 hz3
    subst hz4
    go_wp2_with fail
    refine (of_any R (p + 1) w1.heap.size 12 12 [[], [122, 122, 122], [97, 110, 116, 32, 49], [97, 110, 116, 32, 120, 32, 49], [99, 101, 108, 108, 32, 52, 32, 48, 32, 49], [99, 101, 108, 108, 32, 48, 32, 48, 32, 49, 48, 48, 48, 48, 49], [99, 108, 101, 97, 110, 32, 45, 49], [99, 108, 101, 97, 110, 32, 50, 48, 49], [112, 111, 105, 110, 116, 32, 49, 48, 48, 49, 32, 48], [99, 111, 118, 101, 114, 32, 49], [97, 110, 116, 32, 48, 48, 55, 32, 45, 48], [98, 97, 115, 101, 115, 32]] _ (by omega) rfl (by omega) (by decide) (hrd.kept bA1) (Row.new w1 _ _) (by have := hrd.lt; omega)).mono ?_
    rintro e w5 ⟨x, rfl, hx, hrd5, g5⟩
    have G5 := grown_trans (grown_trans G (World.grownBy_alloc w1 _ (some R))) g5
    clear g5 G
    go_wp2_with fail
    go_ret
    exact ⟨x, p + 1 + 1, rfl, hx, by omega, hrd5, G5⟩
  have hi4 : (z == 4) = false := beq_eq_false_iff_ne.2 hz4
  clear hz0 hz1 hz2 hz3 hz4
  go_wp2_with fail
  refine (of_any R (p + 1) w1.heap.size 4 4 [[98, 97, 115, 101, 115], [99, 111, 118, 101, 114], [98, 101, 97, 109], [100, 105, 114, 116, 121]] _ (by omega) rfl (by omega) (by decide) (hrd.kept bA1) (Row.new w1 _ _) (by have := hrd.lt; omega)).mono ?_
  rintro e w5 ⟨x, rfl, hx, hrd5, g5⟩
  have G5 := grown_trans (grown_trans G (World.grownBy_alloc w1 _ (some R))) g5
  clear g5 G
  go_wp2_with fail
  go_ret
  exact ⟨x, p + 1 + 1, rfl, hx, by omega, hrd5, G5⟩
end Go.Proofs.YtipgpafgampfbaaGreatDoor

namespace Go.Proofs.YtipgpafgampfbaaGreatDoor
open Go.RowKit

set_option maxRecDepth 100000 in
set_option maxHeartbeats 2000000 in
theorem drawExecute_any (A : Option Addr) (n cap : Nat) (bs : List Int) (w : World) (hn : bs.length = n) (hm : n ≤ 9223372036854775807) (hc : n ≤ cap) (hb : BytesOk bs) (hr : Rd w w.heap.size A (bs.map (Value.int .u8))) :
    Calls Tryz.prog 15 #[.slice A n cap] w fun e w' => ∃ l : List UInt8, e = .returned (.string ⟨l.toArray⟩) ∧ l.length ≤ 3000 ∧ Below w.heap.size w w' := by
  go_enter Tryz.func15, Tryz.ntmps15
  go_wp2_with fail
  refine (l6Open_any A n cap bs w hn hm hc hr).mono ?_
  rintro e w1 ⟨rfl, hR, hb1⟩
  have hrd := isRd_open hn hb hr hR hb1
  clear hR
  obtain ⟨R, hRR⟩ : ∃ R, w.heap.size = R := ⟨_, rfl⟩
  rw [hRR] at hrd hb1 ⊢
  have HR := Lib.hid hRR; clear hRR
  go_wp2_with fail
  refine (l91ArrayG_any _ 0 _ (by omega) hrd).mono ?_
  rintro e w2 ⟨A2, k0, c0, xs, p0, rfl, hx, hk7, hkc, hgl, hr2, hp0, hrd2, g2⟩
  have B2 : Below R w w2 := hb1.grown g2 (by rw [← HR.out]; exact hb1.size) fun j e => by cases e; exact Nat.le_refl _
  have Hx := Lib.hid hx; clear hx
  have Hgl := Lib.hid hgl; clear hgl
  clear g2 hrd hb1 hn hr
  go_wp2_with fail
  go_loopw [4, 6] (fun s i wr => ∃ (k : Nat) (o : List UInt8) (p : Int), k ≤ k0 ∧ i = .int .i64 k ∧ s = .string ⟨o.toArray⟩ ∧ o.length ≤ 60 * k ∧ (0 ≤ p ∧ p ≤ 200 + k) ∧ IsRd wr R p ∧ Rd wr wr.heap.size A2 (xs.flatMap pairCells) ∧ Below R w wr) (fun _ i _ => k0 - (intOf i).toNat)
  case atStart => exact ⟨0, [], p0, by omega, rfl, rfl, by simp, by omega, hrd2, hr2, B2⟩
  case round =>
    clear hrd2 hr2 B2
    obtain ⟨k, o, p, hk, rfl, rfl, hol, hp, hrd, hr', hbel⟩ := hrel
    have hRl := hrd.lt
    by_cases hlt : k < k0
    · have hkI : (k : Int) < k0 := by omega
      have hap := hr'.apart hrd (pairs_int xs) (by rw [pairCells_len]; omega)
      go_wp2_with fail
      refine (pick2 R p 12 _ (by omega) (by omega) hrd).mono ?_
      rintro e w3 ⟨z, rfl, z0, z12, hrd3, g3⟩
      have B3 := hbel.grown g3 (Nat.le_of_lt hRl) fun j e => by cases e; exact Nat.le_refl _
      have hr3 := hr'.over g3 hap
      have hRl3 := hrd3.lt
      clear g3 hap hrd hr' hbel hRl
      by_cases hz : 0 < z
      · have hzI : (0 : Int) < z := hz
        have hgt : (z > 0) = True := eq_true hz
        have hxb := gLe_get Hgl.out (by omega) k
        obtain ⟨b, off, rfl, hbb, hc1, hc2⟩ := rd_pair hr3 (getD_of (gs := xs) (k := k) (by rw [Hx.out]; exact hlt))
        obtain ⟨a, ha⟩ : ∃ a, xs.getD k (0, 0) = a := ⟨_, rfl⟩
        rw [ha] at hxb hc1 hc2
        have i1 := itoa_small (n := a.1) (by omega)
        have i2 := itoa_small (n := a.2) (by omega)
        have f1 : ∀ w', Below w3.heap.size w3 w' → w'.cell? ⟨b, off + k * 2, none⟩ = some (.int .i64 a.1) := fun w' h => (h.cell (p := ⟨b, off + k * 2, none⟩) hbb).trans hc1
        have f2 : ∀ w', Below w3.heap.size w3 w' → w'.cell? ⟨b, off + k * 2 + 1, none⟩ = some (.int .i64 a.2) := fun w' h => (h.cell (p := ⟨b, off + k * 2 + 1, none⟩) hbb).trans hc2
        have Ha := Lib.hid ha; clear ha
        clear hc1 hc2
        go_wp2_with fail
        refine wp_region_N [] [] (by kernel_rfl) (by kernel_rfl) ?_
        refine wpStill_go (v := .string ⟨o.toArray⟩) rfl rfl (stays_run fun w' h => ex_move rfl rfl) ?_
        simp only [Act.put, List.setIfInBounds_toArray, List.set_cons_succ, List.set_cons_zero]
        refine wpStill_go (v := .string ⟨(o ++ [97, 110, 116, 32]).toArray⟩) rfl rfl (stays_run fun w' h => by exact ex_addS rfl (by kernel_rfl) rfl rfl (by simp; omega)) ?_
        simp only [Act.put, List.setIfInBounds_toArray, List.set_cons_succ, List.set_cons_zero]
        refine wpStill_go (v := .slice (some ⟨b, off, none⟩) k0 c0) rfl rfl (stays_run fun w' h => ex_move rfl rfl) ?_
        simp only [Act.put, List.setIfInBounds_toArray, List.set_cons_succ, List.set_cons_zero]
        refine wpStill_go (v := .int .i64 k) rfl rfl (stays_run fun w' h => ex_move rfl rfl) ?_
        simp only [Act.put, List.setIfInBounds_toArray, List.set_cons_succ, List.set_cons_zero]
        refine wpStill_go (v := .pointer (some ⟨b, off + k * 2, none⟩)) rfl rfl (stays_run fun w' h => ex_index rfl (by kernel_rfl) (by kernel_rfl) rfl rfl (hlt)) ?_
        simp only [Act.put, List.setIfInBounds_toArray, List.set_cons_succ, List.set_cons_zero]
        refine wpStill_go (v := .pointer (some ⟨b, off + k * 2, none⟩)) rfl rfl (stays_run fun w' h => by simp [go_sem]) ?_
        simp only [Act.put, List.setIfInBounds_toArray, List.set_cons_succ, List.set_cons_zero]
        refine wpStill_go (v := .int .i64 a.1) rfl rfl (stays_run fun w' h => ex_load rfl rfl (ld_one (by kernel_rfl) (f1 w' h))) ?_
        simp only [Act.put, List.setIfInBounds_toArray, List.set_cons_succ, List.set_cons_zero]
        refine wpStill_go (v := .string ⟨(Lib.itoa a.1).toArray⟩) rfl rfl (stays_call (f := 49) (args := #[.int .i64 a.1]) (fun w' h => by simp [go_sem]) (fun w' _ => sDec_any a.1 (by omega) w')) ?_
        simp only [Act.put, List.setIfInBounds_toArray, List.set_cons_succ, List.set_cons_zero]
        refine wpStill_go (v := .string ⟨((o ++ [97, 110, 116, 32]) ++ Lib.itoa a.1).toArray⟩) rfl rfl (stays_run fun w' h => by exact ex_addS rfl (by kernel_rfl) rfl rfl (by simp; omega)) ?_
        simp only [Act.put, List.setIfInBounds_toArray, List.set_cons_succ, List.set_cons_zero]
        refine wpStill_go (v := .string ⟨(((o ++ [97, 110, 116, 32]) ++ Lib.itoa a.1) ++ [32]).toArray⟩) rfl rfl (stays_run fun w' h => by exact ex_addS rfl (by kernel_rfl) rfl rfl (by simp; omega)) ?_
        simp only [Act.put, List.setIfInBounds_toArray, List.set_cons_succ, List.set_cons_zero]
        refine wpStill_go (v := .slice (some ⟨b, off, none⟩) k0 c0) rfl rfl (stays_run fun w' h => ex_move rfl rfl) ?_
        simp only [Act.put, List.setIfInBounds_toArray, List.set_cons_succ, List.set_cons_zero]
        refine wpStill_go (v := .int .i64 k) rfl rfl (stays_run fun w' h => ex_move rfl rfl) ?_
        simp only [Act.put, List.setIfInBounds_toArray, List.set_cons_succ, List.set_cons_zero]
        refine wpStill_go (v := .pointer (some ⟨b, off + k * 2, none⟩)) rfl rfl (stays_run fun w' h => ex_index rfl (by kernel_rfl) (by kernel_rfl) rfl rfl (hlt)) ?_
        simp only [Act.put, List.setIfInBounds_toArray, List.set_cons_succ, List.set_cons_zero]
        refine wpStill_go (v := .pointer (some ⟨b, off + k * 2 + 1, none⟩)) rfl rfl (stays_run fun w' h => by simp [go_sem]) ?_
        simp only [Act.put, List.setIfInBounds_toArray, List.set_cons_succ, List.set_cons_zero]
        refine wpStill_go (v := .int .i64 a.2) rfl rfl (stays_run fun w' h => ex_load rfl rfl (ld_one (by kernel_rfl) (f2 w' h))) ?_
        simp only [Act.put, List.setIfInBounds_toArray, List.set_cons_succ, List.set_cons_zero]
        refine wpStill_go (v := .string ⟨(Lib.itoa a.2).toArray⟩) rfl rfl (stays_call (f := 49) (args := #[.int .i64 a.2]) (fun w' h => by simp [go_sem]) (fun w' _ => sDec_any a.2 (by omega) w')) ?_
        simp only [Act.put, List.setIfInBounds_toArray, List.set_cons_succ, List.set_cons_zero]
        refine wpStill_go (v := .string ⟨((((o ++ [97, 110, 116, 32]) ++ Lib.itoa a.1) ++ [32]) ++ Lib.itoa a.2).toArray⟩) rfl rfl (stays_run fun w' h => by exact ex_addS rfl (by kernel_rfl) rfl rfl (by simp; omega)) ?_
        simp only [Act.put, List.setIfInBounds_toArray, List.set_cons_succ, List.set_cons_zero]
        refine wpStill_go (v := .string ⟨(((((o ++ [97, 110, 116, 32]) ++ Lib.itoa a.1) ++ [32]) ++ Lib.itoa a.2) ++ [10]).toArray⟩) rfl rfl (stays_run fun w' h => by exact ex_addS rfl (by kernel_rfl) rfl rfl (by simp; omega)) ?_
        simp only [Act.put, List.setIfInBounds_toArray, List.set_cons_succ, List.set_cons_zero]
        refine wpStill_go (v := .string ⟨(((((o ++ [97, 110, 116, 32]) ++ Lib.itoa a.1) ++ [32]) ++ Lib.itoa a.2) ++ [10]).toArray⟩) rfl rfl (stays_run fun w' h => by simp [go_sem]) ?_
        simp only [Act.put, List.setIfInBounds_toArray, List.set_cons_succ, List.set_cons_zero]
        refine wpStill_nil ?_
        repeat (refine wpMark_skip rfl ?_)
        refine wpMark_nil fun w5 h5 => ?_
        simp only [onlyN]
        have b5 : Below w3.heap.size w3 w5 := (Below.refl _ w3).drew.trans h5
        have B5 := B3.trans (b5.mono (by omega))
        have hrd5 := hrd3.kept b5
        have hr5 := (hr3.below b5).more b5.size
        have hlen : (((((o ++ [97, 110, 116, 32]) ++ Lib.itoa a.1) ++ [32]) ++ Lib.itoa a.2) ++ [10]).length ≤ 60 * (k + 1) := by simp only [List.length_append, List.length_cons, List.length_nil]; omega
        clear f1 f2 h5 b5 hr3 hrd3
        have Hlen := Lib.hid hlen; clear hlen
        have Hr5 := Lib.hid hr5; clear hr5
        go_wp2_with fail
        go_roundw
        case measure => simp [intOf]; omega
        case rel => exact ⟨k + 1, _, p + 1, by omega, by go_num, rfl, Hlen.out, by omega, hrd5, Hr5.out, B5⟩
      · have hzI : ¬ (0 : Int) < z := hz
        clear hr3
        go_wp2_with fail
        refine (pick2 R (p + 1) 7 _ (by omega) (by omega) hrd3).mono ?_
        rintro e v1 ⟨y, rfl, y0, y7, hrdA, gA⟩
        obtain ⟨n, rfl⟩ : ∃ n : Nat, y = n := ⟨y.toNat, by omega⟩
        have C1 := B3.grown gA (by have := hrd3.lt; omega) fun j e => by cases e; exact Nat.le_refl _
        clear gA
        go_wp2_with fail
        go_loopw [4, 8] (fun s i wr => ∃ (k : Nat) (o : List UInt8) (q : Int), k ≤ n ∧ i = .int .i64 k ∧ s = .string ⟨o.toArray⟩ ∧ o.length ≤ 500 + 101 * k ∧ (0 ≤ q ∧ q ≤ 400 + 11 * k) ∧ IsRd wr R q ∧ Below R w wr) (fun _ i _ => n - (intOf i).toNat)
        case atStart => exact ⟨0, o, (p + 1) + 1, by omega, rfl, rfl, by omega, by omega, hrdA, C1⟩
        case round =>
          clear hrdA C1
          obtain ⟨k2, o2, q, hk2, rfl, rfl, ho2, hq, hrd, hbel⟩ := hrel
          have hRl := hrd.lt
          by_cases hlt : k2 < n
          · have hkI : (k2 : Int) < n := by omega
            go_wp2_with fail
            refine (l93Line_any R q _ (by omega) hrd).mono ?_
            rintro e v2 ⟨t, q', rfl, ht, hq', hrd2, g2⟩
            have C2 := hbel.grown g2 (Nat.le_of_lt hRl) fun j e => by cases e; exact Nat.le_refl _
            have s1 : ¬ 9223372036854775807 < o2.length + t.length := by omega
            have s2 : ¬ 9223372036854775807 < o2.length + t.length + 1 := by omega
            have hlen : (o2 ++ t ++ [10]).length ≤ 500 + 101 * (k2 + 1) := by simp only [List.length_append, List.length_cons, List.length_nil]; omega
            clear g2 hrd hbel
            have Hlen := Lib.hid hlen; clear hlen
            go_wp2_with fail
            go_roundw
            case measure => simp [intOf]; omega
            case rel => exact ⟨k2 + 1, o2 ++ t ++ [10], q', by omega, by go_num, by rw [← str_app, ← str_app], Hlen.out, by omega, hrd2, C2⟩
          · obtain rfl : k2 = n := by omega
            have hkI : ¬ (k2 : Int) < k2 := by omega
            go_wp2_with fail
            refine (pick2 R q 24 _ (by omega) (by omega) hrd).mono ?_
            rintro e v3 ⟨z, rfl, z0, z24, hrd3, g3⟩
            have C3 := hbel.grown g3 (Nat.le_of_lt hRl) fun j e => by cases e; exact Nat.le_refl _
            clear g3 hbel hrd
            by_cases h0 : z = 0
            · subst h0
              have s1 : ¬ 9223372036854775807 < o2.length + 4 := by omega
              have hlen : (o2 ++ [98, 101, 97, 109]).length ≤ 3000 := by simp only [List.length_append, List.length_cons, List.length_nil]; omega
              have Hlen := Lib.hid hlen; clear hlen
              go_wp2_with fail
              go_ret
              exact ⟨o2 ++ [98, 101, 97, 109], by rw [← str_app]; rfl, Hlen.out, by rw [HR.out]; exact C3⟩
            · have h0i : (z == 0) = false := beq_eq_false_iff_ne.2 h0
              by_cases h1 : z = 1
              · subst h1
                clear h0
                go_wp2_with fail
                refine (l6Many_any [98, 97, 115, 101, 115, 10] 90 _ (by decide) (by decide)).mono ?_
                rintro e v4 ⟨x, rfl, hx, rfl⟩
                have hx2 : x.length ≤ 540 := hx
                have s1 : ¬ 9223372036854775807 < o2.length + x.length := by omega
                have hlen : (o2 ++ x).length ≤ 3000 := by simp only [List.length_append]; omega
                have Hlen := Lib.hid hlen; clear hlen
                clear hx
                go_wp2_with fail
                go_ret
                exact ⟨o2 ++ x, by rw [← str_app]; rfl, Hlen.out, by rw [HR.out]; exact C3⟩
              · have h1i : (z == 1) = false := beq_eq_false_iff_ne.2 h1
                clear h0 h1
                go_wp2_with fail
                go_ret
                exact ⟨o2, rfl, by omega, by rw [HR.out]; exact C3⟩
    · have hkI : ¬ (k : Int) < k0 := by omega
      clear hr'
      go_wp2_with fail
      refine (pick2 R p 7 _ (by omega) (by omega) hrd).mono ?_
      rintro e v1 ⟨y, rfl, y0, y7, hrdA, gA⟩
      obtain ⟨n, rfl⟩ : ∃ n : Nat, y = n := ⟨y.toNat, by omega⟩
      have C1 := hbel.grown gA (by have := hrd.lt; omega) fun j e => by cases e; exact Nat.le_refl _
      clear gA
      go_wp2_with fail
      go_loopw [4, 8] (fun s i wr => ∃ (k : Nat) (o : List UInt8) (q : Int), k ≤ n ∧ i = .int .i64 k ∧ s = .string ⟨o.toArray⟩ ∧ o.length ≤ 500 + 101 * k ∧ (0 ≤ q ∧ q ≤ 400 + 11 * k) ∧ IsRd wr R q ∧ Below R w wr) (fun _ i _ => n - (intOf i).toNat)
      case atStart => exact ⟨0, o, p + 1, by omega, rfl, rfl, by omega, by omega, hrdA, C1⟩
      case round =>
        clear hrdA C1
        obtain ⟨k2, o2, q, hk2, rfl, rfl, ho2, hq, hrd, hbel⟩ := hrel
        have hRl := hrd.lt
        by_cases hlt : k2 < n
        · have hkI : (k2 : Int) < n := by omega
          go_wp2_with fail
          refine (l93Line_any R q _ (by omega) hrd).mono ?_
          rintro e v2 ⟨t, q', rfl, ht, hq', hrd2, g2⟩
          have C2 := hbel.grown g2 (Nat.le_of_lt hRl) fun j e => by cases e; exact Nat.le_refl _
          have s1 : ¬ 9223372036854775807 < o2.length + t.length := by omega
          have s2 : ¬ 9223372036854775807 < o2.length + t.length + 1 := by omega
          have hlen : (o2 ++ t ++ [10]).length ≤ 500 + 101 * (k2 + 1) := by simp only [List.length_append, List.length_cons, List.length_nil]; omega
          clear g2 hrd hbel
          have Hlen := Lib.hid hlen; clear hlen
          go_wp2_with fail
          go_roundw
          case measure => simp [intOf]; omega
          case rel => exact ⟨k2 + 1, o2 ++ t ++ [10], q', by omega, by go_num, by rw [← str_app, ← str_app], Hlen.out, by omega, hrd2, C2⟩
        · obtain rfl : k2 = n := by omega
          have hkI : ¬ (k2 : Int) < k2 := by omega
          go_wp2_with fail
          refine (pick2 R q 24 _ (by omega) (by omega) hrd).mono ?_
          rintro e v3 ⟨z, rfl, z0, z24, hrd3, g3⟩
          have C3 := hbel.grown g3 (Nat.le_of_lt hRl) fun j e => by cases e; exact Nat.le_refl _
          clear g3 hbel hrd
          by_cases h0 : z = 0
          · subst h0
            have s1 : ¬ 9223372036854775807 < o2.length + 4 := by omega
            have hlen : (o2 ++ [98, 101, 97, 109]).length ≤ 3000 := by simp only [List.length_append, List.length_cons, List.length_nil]; omega
            have Hlen := Lib.hid hlen; clear hlen
            go_wp2_with fail
            go_ret
            exact ⟨o2 ++ [98, 101, 97, 109], by rw [← str_app]; rfl, Hlen.out, by rw [HR.out]; exact C3⟩
          · have h0i : (z == 0) = false := beq_eq_false_iff_ne.2 h0
            by_cases h1 : z = 1
            · subst h1
              clear h0
              go_wp2_with fail
              refine (l6Many_any [98, 97, 115, 101, 115, 10] 90 _ (by decide) (by decide)).mono ?_
              rintro e v4 ⟨x, rfl, hx, rfl⟩
              have hx2 : x.length ≤ 540 := hx
              have s1 : ¬ 9223372036854775807 < o2.length + x.length := by omega
              have hlen : (o2 ++ x).length ≤ 3000 := by simp only [List.length_append]; omega
              have Hlen := Lib.hid hlen; clear hlen
              clear hx
              go_wp2_with fail
              go_ret
              exact ⟨o2 ++ x, by rw [← str_app]; rfl, Hlen.out, by rw [HR.out]; exact C3⟩
            · have h1i : (z == 1) = false := beq_eq_false_iff_ne.2 h1
              clear h0 h1
              go_wp2_with fail
              go_ret
              exact ⟨o2, rfl, by omega, by rw [HR.out]; exact C3⟩
end Go.Proofs.YtipgpafgampfbaaGreatDoor
