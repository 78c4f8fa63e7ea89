/- The draws of regular arrays. -/
import Derived.Test.YtipgpafgampfbaaGreatDoorDrawE
namespace Go.Proofs.YtipgpafgampfbaaGreatDoor
open Go.RowKit

set_option maxRecDepth 100000 in
set_option maxHeartbeats 2000000 in
theorem l92Regular_any (R : Nat) (p : Int) (w : World) (hp : 0 ≤ p ∧ p ≤ 700000) (h : IsRd w R p) :
    Calls Tryz.prog 83 #[.pointer (some ⟨R, 0, none⟩)] w fun e w' =>
      ∃ (A : Option Addr) (k c : Nat) (xs : List (Int × Int)), e = .returned (.slice A k c) ∧ xs.length = k ∧ k ≤ 20 ∧ k ≤ c ∧ Rd w' w'.heap.size A (xs.flatMap pairCells) ∧ w.grownBy w' (some R) := by
  obtain ⟨i1, hj, hy0, hy1, hy2⟩ := info_parts antInfo
  have hlt := h.lt
  go_enter Tryz.func83, Tryz.ntmps83
  go_wp2_with fail
  refine (pick2 R p 3 _ (by omega) (by omega) h).mono ?_
  rintro e w1 ⟨u, rfl, u0, u3, hrd1, g1⟩
  by_cases hu : u = 0
  · subst hu
    go_wp2_with fail
    refine (l91Array_any R (p + 1) _ (by omega) hrd1).mono ?_
    rintro e w2 ⟨A2, k2, c2, xs, p', rfl, hx, hk, hkc, hr2, hp', hrd2, g2⟩
    have G := grown_trans g1 g2
    clear g1 g2
    go_wp2_with fail
    go_ret
    exact ⟨A2, k2, c2, xs, rfl, hx, by omega, hkc, hr2, G⟩
  · have hui : (u == 0) = false := beq_eq_false_iff_ne.2 hu
    have r0 := Row.new w1 50 []
    have o0 := r0.own (base := w1.heap.size) (n := 0) (size := 2) (Nat.le_refl _) rfl (by decide)
    have h1 := hrd1.kept (bA1 (o := .cells #[] 50))
    have G0 := grown_trans g1 (World.grownBy_alloc w1 (.cells #[] 50) (some R))
    have hs1 := g1.size
    clear g1 hrd1 r0
    go_wp2_with fail
    refine (pick2 R (p + 1) 3 _ (by omega) (by omega) h1).mono ?_
    rintro e w2 ⟨nn, rfl, n0, n3, hrd2, g2⟩
    have o2 := own_over o0 g2 (fun j hj e => by have := (own_lt o0 hj).1; injection e with e; omega)
    have z2 : w1.heap.size ≤ w2.heap.size := by have := g2.size; simp at this; omega
    have G2 := grown_trans G0 g2
    clear o0 g2 G0 h1
    obtain ⟨n, hn⟩ : ∃ n : Nat, 2 + nn = n := ⟨(2 + nn).toNat, by omega⟩
    have hwn : IntKind.i64.wrap (2 + nn) = n := by rw [IntWalk.i64_in _ (by omega)]; exact hn
    go_wp2_with fail
    refine (pick2 R (p + 1 + 1) 3 _ (by omega) (by omega) hrd2).mono ?_
    rintro e w3 ⟨xx, rfl, x0, x3, hrd3, g3⟩
    have o3 := own_over o2 g3 (fun j hj e => by have := (own_lt o2 hj).1; injection e with e; omega)
    have G3 := grown_trans G2 g3
    have z3 := g3.size
    clear o2 g3 G2 hrd2
    obtain ⟨x, hx⟩ : ∃ x : Int, 1 + xx = x := ⟨_, rfl⟩
    have hwx : IntKind.i64.wrap (1 + xx) = x := by rw [IntWalk.i64_in _ (by omega)]; exact hx
    go_wp2_with fail
    refine (pick2 R (p + 1 + 1 + 1) 3 _ (by omega) (by omega) hrd3).mono ?_
    rintro e w4 ⟨y, rfl, y0, y3, hrd4, g4⟩
    have o4 := own_over o3 g4 (fun j hj e => by have := (own_lt o3 hj).1; injection e with e; omega)
    have G4 := grown_trans G3 g4
    have z4 := g4.size
    have hsW : w1.heap.size ≤ w4.heap.size := by omega
    have HsW := Lib.hid hsW; clear hsW
    have hs4 := G4.size
    clear o3 g4 G3 hrd3
    have O4 := Lib.hid o4; clear o4
    have hidX := Lib.hid G4; clear G4; have G4 := hidX; clear hidX
    go_wp2_with fail
    go_loopw [3, 7] (fun v i wr => ∃ (k : Nat) (xs : List (Int × Int)), k ≤ n ∧ i = .int .i64 k ∧ xs.length = k ∧ wr.ownsRow w1.heap.size 50 2 v xs.length (xs.flatMap pairCells) ∧ IsRd wr R (p + 1 + 1 + 1 + 1) ∧ w.grownBy wr (some R) ∧ w1.heap.size ≤ wr.heap.size) (fun _ i _ => n - (intOf i).toNat)
    case atStart => exact ⟨0, [], by omega, rfl, rfl, O4.out, hrd4, G4.out, HsW.out⟩
    case round =>
      clear hrd4
      obtain ⟨k, xs, hk, rfl, hxl, hrow, hrd, hgr, hsw⟩ := hrel
      have hbs := hgr.size
      have hRlt := hrd.lt
      have hxb : xs.length ≤ 4 := by omega
      by_cases hkn : k < n
      · have mx := mul_bd x (k : Int) 3 4 (by omega) (by omega)
        have my := mul_bd y (k : Int) 3 4 (by omega) (by omega)
        simp only [Int.reduceMul, Int.reduceNeg] at mx my
        have i1' : IntKind.i64.wrap (x * (k : Int)) = x * k := IntWalk.i64_in _ (by omega)
        have i2' : IntKind.i64.wrap (y * (k : Int)) = y * k := IntWalk.i64_in _ (by omega)
        obtain ⟨A3, c3, rfl⟩ := own_form hrow
        have Hxl := Lib.hid hxl; clear hxl
        have Hrow := Lib.hid hrow; clear hrow
        go_wp2_with (at_builtin; refine wpList_append_own _ rfl _ _ 26 rfl w1.heap.size 50 i1 (.agg #[.int .i64 0, .int .i64 0]) 2 16 (by kernel_rfl) hj hy0 hy1 hy2 rfl (by decide) _ xs.length _ rfl (Hrow.out.alloc _) ⟨wr.heap.size, 0, none⟩ 1 1 [.int .i64 (x * (k : Int)), .int .i64 (y * (k : Int))] rfl rfl (cell_two_new _ _ _ _) (by simp [Value.oneCell']) (by unfold maxLen; omega) (by omega) (by simp; omega) ?_; intro v' w7 hown' hgrow _; obtain ⟨g', cap', rfl⟩ := ownsRow_succ hown')
        have hrd7 := (hrd.kept (bA1 (o := .cells #[.int .i64 (x * (k : Int)), .int .i64 (y * (k : Int))] 50))).over hgrow (fun j hj => by have := (own_lt Hrow.out hj).1; omega)
        have G7 := grown_far (grown_trans hgr (World.grownBy_alloc wr (.cells #[.int .i64 (x * (k : Int)), .int .i64 (y * (k : Int))] 50) (some R))) hgrow (fun j hj => by have := (own_lt Hrow.out hj).1; omega)
        have hs7 := hgrow.size
        rw [World.size_alloc] at hs7
        have hs8 : w1.heap.size ≤ w7.heap.size := by omega
        have Hown' := Lib.hid hown'; clear hown'
        have Hrd7 := Lib.hid hrd7; clear hrd7
        have hidX := Lib.hid G7; clear G7; have G7 := hidX; clear hidX
        have Hs8 := Lib.hid hs8; clear hs8
        clear hgrow
        go_wp2_with fail
        go_roundw
        case measure => simp [intOf]; omega
        case rel =>
          refine ⟨k + 1, xs ++ [(x * (k : Int), y * (k : Int))], by omega, by go_num, by have := Hxl.out; simp; omega, ?_, Hrd7.out, G7.out, Hs8.out⟩
          rw [List.length_append, List.flatMap_append]
          exact Hown'.out
      · obtain rfl : k = n := by omega
        have h2x : 2 ≤ xs.length := by omega
        clear hxl
        have Hrow := Lib.hid hrow; clear hrow
        obtain ⟨A3, c3, rfl⟩ := own_form Hrow.out
        go_wp2_with fail
        refine (pick2 R (p + 1 + 1 + 1 + 1) 2 _ (by omega) (by omega) hrd).mono ?_
        rintro e w5 ⟨u5, rfl, u50, u52, hrd5, g5⟩
        have o5 := own_over Hrow.out g5 (fun j hj e => by have := (own_lt Hrow.out hj).1; injection e with e; omega)
        have G5 := grown_trans hgr g5
        have hs5 := g5.size
        have hR5 := hrd5.lt
        clear g5 hgr hrd
        by_cases hu5 : u5 = 0
        · subst hu5
          have O5 := Lib.hid o5; clear o5
          go_wp2_with (at_builtin; refine wpList_append_own _ rfl _ _ 26 rfl w1.heap.size 50 i1 (.agg #[.int .i64 0, .int .i64 0]) 2 16 (by kernel_rfl) hj hy0 hy1 hy2 rfl (by decide) _ xs.length _ rfl (O5.out.alloc _) ⟨w5.heap.size, 0, none⟩ 1 1 [.int .i64 (-3), .int .i64 (7)] rfl rfl (cell_two_new _ _ _ _) (by simp [Value.oneCell']) (by unfold maxLen; omega) (by omega) (by simp; omega) ?_; intro v' w7 hown' hgrow _; obtain ⟨g', cap', rfl⟩ := ownsRow_succ hown')
          have hrd7 := (hrd5.kept (bA1 (o := .cells #[.int .i64 (-3), .int .i64 7] 50))).over hgrow (fun j hj => by have := (own_lt O5.out hj).1; omega)
          have G7 := grown_far (grown_trans G5 (World.grownBy_alloc w5 (.cells #[.int .i64 (-3), .int .i64 7] 50) (some R))) hgrow (fun j hj => by have := (own_lt O5.out hj).1; omega)
          have Hown2 := Lib.hid (show World.ownsRow _ w1.heap.size 50 2 _ (xs.length + 1) ((xs ++ [(-3, 7)]).flatMap pairCells) by rw [List.flatMap_append]; exact hown')
          clear hgrow hown'
          obtain ⟨ys, hys⟩ : ∃ ys, xs ++ [((-3 : Int), (7 : Int))] = ys := ⟨_, rfl⟩
          have hyl : ys.length = xs.length + 1 := by rw [← hys]; simp
          rw [hys] at Hown2
          clear hys
          obtain ⟨L, hL⟩ : ∃ L, xs.length + 1 = L := ⟨_, rfl⟩
          have hLx : ys.length = L := by omega
          rw [hL] at Hown2 ⊢
          have hL2 : 2 ≤ L ∧ L ≤ 5 := by omega
          clear hyl hL
          obtain ⟨AA, hAA⟩ : ∃ AA, some (⟨g', 0, none⟩ : Addr) = AA := ⟨_, rfl⟩
          rw [hAA] at Hown2 ⊢
          clear hAA
          have Hlx := Lib.hid hLx
          have hy2 : 2 ≤ ys.length ∧ ys.length ≤ 5 := by omega
          clear hLx
          go_wp2_with fail
          refine (pick2 R (p + 1 + 1 + 1 + 1 + 1) 3 _ (by omega) (by omega) hrd7).mono ?_
          rintro e w8 ⟨z, rfl, z0, z3, hrd8, g8⟩
          have o8 := own_over Hown2.out g8 (fun j hj e => by have := (own_lt Hown2.out hj).1; injection e with e; omega)
          have G8 := grown_trans G7 g8
          have hcap := own_cap o8
          have hs8 := G8.size
          clear g8
          by_cases hz : z = 0
          · subst hz
            obtain ⟨a, ha⟩ : ∃ y, ys[0]? = some y := ⟨_, List.getElem?_eq_getElem (by omega)⟩
            obtain ⟨b, hb⟩ : ∃ y, ys[1]? = some y := ⟨_, List.getElem?_eq_getElem (by omega)⟩
            obtain ⟨a0, a1⟩ := pairCells_get ys 0 a ha
            obtain ⟨b0, b1⟩ := pairCells_get ys 1 b hb
            have rv := Row.new w8 50 [.int .i64 a.1, .int .i64 a.2]
            obtain ⟨g, eg, hBg, _, k0, f0, s0⟩ := own_set o8 (i := 0) a0
            cases eg
            obtain ⟨_, e1, _, _, k1, f1, _⟩ := own_set o8 (i := 1) a1
            cases e1
            obtain ⟨_, e2, _, _, k2, f2, _⟩ := own_set o8 (i := 2) b0
            cases e2
            obtain ⟨_, e3, _, _, k3, f3, _⟩ := own_set o8 (i := 3) b1
            cases e3
            have q0 := s0 (.int .i64 b.1)
            obtain ⟨_, e2, _, _, k1', f1', s1'⟩ := own_set q0 (i := 1) (u := .int .i64 a.2) (by rw [List.getElem?_set_ne (by omega)]; exact a1)
            cases e2
            have q1 := s1' (.int .i64 b.2)
            obtain ⟨_, e3, _, _, k2', f2', s2'⟩ := own_set q1 (i := 2) (u := .int .i64 b.1) (by rw [List.getElem?_set_ne (by omega), List.getElem?_set_ne (by omega)]; exact b0)
            cases e3
            have q2 := s2' (.int .i64 a.1)
            obtain ⟨_, e4, _, _, k3', f3', s3'⟩ := own_set q2 (i := 3) (u := .int .i64 b.2) (by rw [List.getElem?_set_ne (by omega), List.getElem?_set_ne (by omega), List.getElem?_set_ne (by omega)]; exact b1)
            cases e4
            have q3 := s3' (.int .i64 a.2)
            have he : (((((ys.flatMap pairCells).set 0 (.int .i64 b.1)).set 1 (.int .i64 b.2)).set 2 (.int .i64 a.1)).set 3 (.int .i64 a.2)) = ((ys.set 0 b).set 1 a).flatMap pairCells := by
              rw [← pairs_set (ys.set 0 b) 1 a (by rw [List.length_set]; omega), ← pairs_set ys 0 b (by omega)]
            have hgR : R < g := by omega
            have hrd10 := (((hrd8.over (grown_set _ g 0 (.int .i64 b.1)) (fun j e => by cases e; exact hgR)).over (grown_set _ g 1 (.int .i64 b.2)) (fun j e => by cases e; exact hgR)).over (grown_set _ g 2 (.int .i64 a.1)) (fun j e => by cases e; exact hgR)).over (grown_set _ g 3 (.int .i64 a.2)) (fun j e => by cases e; exact hgR)
            have G10 := grown_far (grown_far (grown_far (grown_far G8 (grown_set _ g 0 (.int .i64 b.1)) (fun j e => by cases e; omega)) (grown_set _ g 1 (.int .i64 b.2)) (fun j e => by cases e; omega)) (grown_set _ g 2 (.int .i64 a.1)) (fun j e => by cases e; omega)) (grown_set _ g 3 (.int .i64 a.2)) (fun j e => by cases e; omega)
            have q3 := q3.alloc (.cells #[.int .i64 a.1, .int .i64 a.2] 50)
            have hrd11 := hrd10.kept (bA1 (o := .cells #[.int .i64 a.1, .int .i64 a.2] 50))
            have G10 := grown_trans G10 (World.grownBy_alloc _ (.cells #[.int .i64 a.1, .int .i64 a.2] 50) (some R))
            have hgw : g < w8.heap.size := (own_lt o8 (j := g) rfl).2.1
            have hgne : w8.heap.size ≠ g := by omega
            obtain ⟨v0, v1, _, _⟩ := rv.two
            rw [he] at q3
            have hr3 := Rd.of_own q3
            have Hr3 := Lib.hid hr3; clear hr3
            have hidX := Lib.hid G10; clear G10; have G10 := hidX; clear hidX
            clear q3 o8 q0 q1 q2 s0 s1' s2' s3' k1' k2' k3' f1' f2' f3' hrd8 hrd10 hrd11 G8 he rv a0 a1 b0 b1 ha hb
            go_wp2_with fail
            go_ret
            exact ⟨_, _, _, (ys.set 0 b).set 1 a, rfl, by first | (rw [List.length_set, List.length_set]; exact Hlx.out) | rw [List.length_set, List.length_set], by omega, hcap, Hr3.out, G10.out⟩
          · have hzi : (z == 0) = false := beq_eq_false_iff_ne.2 hz
            have hr8 := Rd.of_own o8
            have Hr8 := Lib.hid hr8; clear hr8
            have hidX := Lib.hid G8; clear G8; have G8 := hidX; clear hidX
            clear o8
            go_wp2_with fail
            go_ret
            exact ⟨_, _, _, ys, rfl, by first | exact Hlx.out | rfl, by omega, hcap, Hr8.out, G8.out⟩
        · have hu5i : (u5 == 0) = false := beq_eq_false_iff_ne.2 hu5
          have O5 := Lib.hid o5; clear o5
          go_wp2_with fail
          refine (pick2 R (p + 1 + 1 + 1 + 1 + 1) 3 _ (by omega) (by omega) hrd5).mono ?_
          rintro e w8 ⟨z, rfl, z0, z3, hrd8, g8⟩
          have o8 := own_over O5.out g8 (fun j hj e => by have := (own_lt O5.out hj).1; injection e with e; omega)
          have G8 := grown_trans G5 g8
          have hcap := own_cap o8
          have hs8 := G8.size
          clear g8
          by_cases hz : z = 0
          · subst hz
            obtain ⟨a, ha⟩ : ∃ y, xs[0]? = some y := ⟨_, List.getElem?_eq_getElem (by omega)⟩
            obtain ⟨b, hb⟩ : ∃ y, xs[1]? = some y := ⟨_, List.getElem?_eq_getElem (by omega)⟩
            obtain ⟨a0, a1⟩ := pairCells_get xs 0 a ha
            obtain ⟨b0, b1⟩ := pairCells_get xs 1 b hb
            have rv := Row.new w8 50 [.int .i64 a.1, .int .i64 a.2]
            obtain ⟨g, eg, hBg, _, k0, f0, s0⟩ := own_set o8 (i := 0) a0
            cases eg
            obtain ⟨_, e1, _, _, k1, f1, _⟩ := own_set o8 (i := 1) a1
            cases e1
            obtain ⟨_, e2, _, _, k2, f2, _⟩ := own_set o8 (i := 2) b0
            cases e2
            obtain ⟨_, e3, _, _, k3, f3, _⟩ := own_set o8 (i := 3) b1
            cases e3
            have q0 := s0 (.int .i64 b.1)
            obtain ⟨_, e2, _, _, k1', f1', s1'⟩ := own_set q0 (i := 1) (u := .int .i64 a.2) (by rw [List.getElem?_set_ne (by omega)]; exact a1)
            cases e2
            have q1 := s1' (.int .i64 b.2)
            obtain ⟨_, e3, _, _, k2', f2', s2'⟩ := own_set q1 (i := 2) (u := .int .i64 b.1) (by rw [List.getElem?_set_ne (by omega), List.getElem?_set_ne (by omega)]; exact b0)
            cases e3
            have q2 := s2' (.int .i64 a.1)
            obtain ⟨_, e4, _, _, k3', f3', s3'⟩ := own_set q2 (i := 3) (u := .int .i64 b.2) (by rw [List.getElem?_set_ne (by omega), List.getElem?_set_ne (by omega), List.getElem?_set_ne (by omega)]; exact b1)
            cases e4
            have q3 := s3' (.int .i64 a.2)
            have he : (((((xs.flatMap pairCells).set 0 (.int .i64 b.1)).set 1 (.int .i64 b.2)).set 2 (.int .i64 a.1)).set 3 (.int .i64 a.2)) = ((xs.set 0 b).set 1 a).flatMap pairCells := by
              rw [← pairs_set (xs.set 0 b) 1 a (by rw [List.length_set]; omega), ← pairs_set xs 0 b (by omega)]
            have hgR : R < g := by omega
            have hrd10 := (((hrd8.over (grown_set _ g 0 (.int .i64 b.1)) (fun j e => by cases e; exact hgR)).over (grown_set _ g 1 (.int .i64 b.2)) (fun j e => by cases e; exact hgR)).over (grown_set _ g 2 (.int .i64 a.1)) (fun j e => by cases e; exact hgR)).over (grown_set _ g 3 (.int .i64 a.2)) (fun j e => by cases e; exact hgR)
            have G10 := grown_far (grown_far (grown_far (grown_far G8 (grown_set _ g 0 (.int .i64 b.1)) (fun j e => by cases e; omega)) (grown_set _ g 1 (.int .i64 b.2)) (fun j e => by cases e; omega)) (grown_set _ g 2 (.int .i64 a.1)) (fun j e => by cases e; omega)) (grown_set _ g 3 (.int .i64 a.2)) (fun j e => by cases e; omega)
            have q3 := q3.alloc (.cells #[.int .i64 a.1, .int .i64 a.2] 50)
            have hrd11 := hrd10.kept (bA1 (o := .cells #[.int .i64 a.1, .int .i64 a.2] 50))
            have G10 := grown_trans G10 (World.grownBy_alloc _ (.cells #[.int .i64 a.1, .int .i64 a.2] 50) (some R))
            have hgw : g < w8.heap.size := (own_lt o8 (j := g) rfl).2.1
            have hgne : w8.heap.size ≠ g := by omega
            obtain ⟨v0, v1, _, _⟩ := rv.two
            rw [he] at q3
            have hr3 := Rd.of_own q3
            have Hr3 := Lib.hid hr3; clear hr3
            have hidX := Lib.hid G10; clear G10; have G10 := hidX; clear hidX
            clear q3 o8 q0 q1 q2 s0 s1' s2' s3' k1' k2' k3' f1' f2' f3' hrd8 hrd10 hrd11 G8 he rv a0 a1 b0 b1 ha hb
            go_wp2_with fail
            go_ret
            exact ⟨_, _, _, (xs.set 0 b).set 1 a, rfl, by first | (rw [List.length_set, List.length_set]; exact Hlx.out) | rw [List.length_set, List.length_set], by omega, hcap, Hr3.out, G10.out⟩
          · have hzi : (z == 0) = false := beq_eq_false_iff_ne.2 hz
            have hr8 := Rd.of_own o8
            have Hr8 := Lib.hid hr8; clear hr8
            have hidX := Lib.hid G8; clear G8; have G8 := hidX; clear hidX
            clear o8
            go_wp2_with fail
            go_ret
            exact ⟨_, _, _, xs, rfl, by first | exact Hlx.out | rfl, by omega, hcap, Hr8.out, G8.out⟩
theorem drawRedundantMany_any (A : Option Addr) (n cap : Nat) (bs : List Int) (w : World) (hn : bs.length = n) (hm : n ≤ 9223372036854775807) (hc : n ≤ cap) (hb : BytesOk bs) (hr : Rd w w.heap.size A (bs.map (Value.int .u8))) :
    Calls Tryz.prog 42 #[.slice A n cap] w fun e w' =>
      ∃ (A1 : Option Addr) (k c : Nat) (xs : List (Int × Int)), e = .returned (.slice A1 k c) ∧ xs.length = k ∧ k ≤ 20 ∧ k ≤ c ∧ Rd w' w'.heap.size A1 (xs.flatMap pairCells) ∧ Below w.heap.size w w' := by
  go_enter Tryz.func42, Tryz.ntmps42
  go_wp2_with fail
  refine (l6Open_any A n cap bs w hn hm hc hr).mono ?_
  rintro e w1 ⟨rfl, hR, hb1⟩
  have hrd := isRd_open hn hb hr hR hb1
  clear hR
  go_wp2_with fail
  refine (l92Regular_any _ 0 _ (by omega) hrd).mono ?_
  rintro e w2 ⟨A1, k1, c1, ants, rfl, hs, hk1, hkc, hr1, g2⟩
  have B2 : Below w.heap.size w w2 := hb1.grown g2 hb1.size fun j e => by cases e; exact Nat.le_refl _
  go_wp2_with fail
  go_ret
  exact ⟨A1, k1, c1, ants, rfl, hs, hk1, hkc, hr1, B2⟩
end Go.Proofs.YtipgpafgampfbaaGreatDoor
