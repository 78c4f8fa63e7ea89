/- The draws of an array. -/
import Derived.Test.YtfandpgjlahnpaaDrawS
import Derived.Test.YtfandpgjlahnpaaArr
namespace Go.Proofs.Ytfandpgjlahnpaa
open Go.RowKit

theorem l91Has_any (A : Option Addr) (n cap : Nat) (xs : List (Int × Int)) (a : Int × Int) (w : World) (hn : xs.length = n) (hb : n ≤ 1048576) (hr : Rd w w.heap.size A (xs.flatMap pairCells)) :
    Calls Try.prog 119 #[.slice A n cap, .agg #[.int .i64 a.1, .int .i64 a.2]] w fun e w' => e = .returned (.bool (decide (a ∈ xs))) ∧ Below w.heap.size w w' := by
  have r0 := Row.new w 35 [.int .i64 a.1, .int .i64 a.2]
  have Hn := Lib.hid hn; clear hn
  go_enter Try.func119, Try.ntmps119
  go_wp2_with fail
  go_loopw [5] (fun i wr => ∃ k : Nat, k ≤ n ∧ i = .int .i64 k ∧ a ∉ xs.take k ∧ Row wr w.heap.size 35 [.int .i64 a.1, .int .i64 a.2] ∧ Below w.heap.size w wr) (fun i _ => n - (intOf i).toNat)
  case atStart => exact ⟨0, by omega, rfl, by simp, r0, bA1⟩
  case round =>
    clear r0
    obtain ⟨k, hk, rfl, hni, r0, hbel⟩ := hrel
    obtain ⟨c0, c1, _, _⟩ := r0.two
    have hr' := hr.below hbel
    by_cases hlt : k < n
    · have hts := take_succ_getD (l := xs) (d := (0, 0)) (k := k) (by rw [Hn.out]; exact hlt)
      have hmem : xs.getD k (0, 0) ∈ xs := getD_mem (by rw [Hn.out]; exact hlt)
      obtain ⟨b, off, rfl, hb2, hc1, hc1'⟩ := rd_pair hr' (getD_of (gs := xs) (k := k) (by rw [Hn.out]; exact hlt))
      generalize xs.getD k (0, 0) = x at *
      have Hbel := Lib.hid hbel; clear hbel
      have R0 := Lib.hid r0; clear r0
      have Hts := Lib.hid hts; clear hts
      have Hni := Lib.hid hni; clear hni
      have Hmem := Lib.hid hmem; clear hmem
      by_cases hxa : x = a
      · subst hxa
        go_wp2_with fail
        go_quiet (fail)
        go_wp2_with fail
        go_ret
        exact ⟨by rw [decide_eq_true Hmem.out]; rfl, below_drewN Hbel.out _⟩
      · have Hxa := Lib.hid hxa
        rcases pair_bne hxa with h1 | ⟨h1, h2⟩
        · clear hxa
          go_wp2_with fail
          go_quiet (fail)
          go_wp2_with fail
          go_roundw
          case measure => simp [intOf]; omega
          case rel =>
            refine ⟨k + 1, by omega, by go_num, ?_, R0.out.drewN _, below_drewN Hbel.out _⟩
            rw [Hts.out]
            simp only [List.mem_append, List.mem_singleton, not_or]
            exact ⟨Hni.out, fun e => Hxa.out e.symm⟩
        · clear hxa
          go_wp2_with fail
          go_quiet (fail)
          go_wp2_with fail
          go_roundw
          case measure => simp [intOf]; omega
          case rel =>
            refine ⟨k + 1, by omega, by go_num, ?_, R0.out.drewN _, below_drewN Hbel.out _⟩
            rw [Hts.out]
            simp only [List.mem_append, List.mem_singleton, not_or]
            exact ⟨Hni.out, fun e => Hxa.out e.symm⟩
    · obtain rfl : k = n := by omega
      rw [List.take_of_length_le (by rw [Hn.out]; exact Nat.le_refl _)] at hni
      have Hni := Lib.hid hni; clear hni
      have Hbel := Lib.hid hbel; clear hbel
      go_wp2_with fail
      go_ret
      exact ⟨by rw [decide_eq_false Hni.out]; rfl, Hbel.out⟩

theorem below_grown {w w' : World} (h : Below w.heap.size w w') (R : Nat) : w.grownBy w' (some R) := ⟨h.os, h.tape, h.output, h.size, fun k hk _ => h.block k hk⟩
theorem own_cap {w : World} {base : Nat} {T : TypeId} {size n c : Nat} {A : Option Addr} {xs : List Value} (h : w.ownsRow base T size (.slice A n c) n xs) : n ≤ c := by
  rcases h.2 with ⟨h1, h2⟩ | ⟨g, cap, _, h1, _, _, hle, _⟩
  · injection h1 with _ h3 h4; omega
  · injection h1 with _ _ h4; omega
theorem frozen_set (w : World) (b i j : Nat) {v : Value} : (w.setCell ⟨b, i, none⟩ v).frozen? ⟨b, j, none⟩ = w.frozen? ⟨b, j, none⟩ := by
  simp [go_sem]
theorem pairs_set0 {xs : List (Int × Int)} {y : Int × Int} (h : xs[0]? = some y) {x : Int} : (xs.set 0 (x, y.2)).flatMap pairCells = (xs.flatMap pairCells).set 0 (.int .i64 x) := by
  cases xs with
  | nil => simp at h
  | cons z r => simp at h; subst h; simp [pairCells]
theorem rd_take {w : World} {B : Nat} {A : Option Addr} {xs : List (Int × Int)} (h : Rd w B A (xs.flatMap pairCells)) (k : Nat) : Rd w B A ((xs.take k).flatMap pairCells) := fun i u hu => by
  refine h i u ?_
  rw [← List.take_append_drop k xs, List.flatMap_append, List.getElem?_append_left]
  · exact hu
  · rcases Nat.lt_or_ge i ((xs.take k).flatMap pairCells).length with h | h
    · exact h
    · rw [List.getElem?_eq_none h] at hu; cases hu
theorem antInfo : (Try.prog.info? 35).map (fun i => (i.zero, i.size, i.bytes)) = some (some (.agg #[.int .i64 0, .int .i64 0]), 2, 16) := by kernel_rfl
set_option maxRecDepth 100000 in
set_option maxHeartbeats 2000000 in
theorem l91Array_any (R : Nat) (p : Int) (w : World) (hp : 0 ≤ p ∧ p ≤ 800000) (h : IsRd w R p) :
    Calls Try.prog 66 #[.pointer (some ⟨R, 0, none⟩)] w fun e w' =>
      ∃ (A : Option Addr) (k c : Nat) (xs : List (Int × Int)) (p' : Int), e = .returned (.slice A k c) ∧ xs.length = k ∧ k ≤ 7 ∧ k ≤ c ∧ Rd w' w'.heap.size A (xs.flatMap pairCells) ∧ (0 ≤ p' ∧ p' ≤ p + 100) ∧ IsRd w' R p' ∧ w.grownBy w' (some R) := by
  obtain ⟨i1, hj, hy0, hy1, hy2⟩ := info_parts antInfo
  have hlt := h.lt
  have r0 := Row.new w 35 []
  have o0 := r0.own (base := w.heap.size) (n := 0) (size := 2) (Nat.le_refl _) rfl (by decide)
  have h1 := h.kept (bA1 (o := .cells #[] 35))
  have g0 := World.grownBy_alloc w (.cells #[] 35) (some R)
  go_enter Try.func66, Try.ntmps66
  go_wp2_with fail
  refine (pick2 R p 4 _ (by omega) (by omega) h1).mono ?_
  rintro e w1 ⟨x, rfl, x0, x4, hrd1, g1⟩
  have o1 := own_over o0 g1 (fun j hj e => by have := (own_lt o0 hj).1; injection e with e; omega)
  have G1 := grown_trans g0 g1
  clear h1 g0 g1 o0 r0
  obtain ⟨n, hn⟩ : ∃ n : Nat, 2 + x = n := ⟨(2 + x).toNat, by omega⟩
  have hR1 := hrd1.lt
  have hbs1 := G1.size
  go_wp2_with fail
  have rb := Row.new w1 3 [.int .i64 1, .int .i64 1, .int .i64 7]
  have g1' := World.grownBy_alloc w1 (.cells #[.int .i64 1, .int .i64 1, .int .i64 7] 3) (some R)
  refine (pick2 R (p + 1) 3 _ (by omega) (by omega) (hrd1.kept bA1)).mono ?_
  rintro e w2 ⟨y, rfl, y0, y3, hrd2, g2⟩
  have rb2 := rb.grown g2 (by simp; omega)
  obtain ⟨m, hm, hm1⟩ : ∃ m : Int, w2.cell? ⟨w1.heap.size, y.toNat, none⟩ = some (.int .i64 m) ∧ 1 ≤ m ∧ m ≤ 7 := by
    rw [rb2.cell]
    have : y = 0 ∨ y = 1 ∨ y = 2 := by omega
    rcases this with rfl | rfl | rfl
    · exact ⟨_, rfl, by omega, by omega⟩
    · exact ⟨_, rfl, by omega, by omega⟩
    · exact ⟨_, rfl, by omega, by omega⟩
  obtain ⟨a, rfl⟩ : ∃ a : Nat, y = a := ⟨y.toNat, by omega⟩
  rw [Int.toNat_natCast] at hm
  have o2 := own_over (o1.alloc (.cells #[.int .i64 1, .int .i64 1, .int .i64 7] 3)) g2 (fun j hj e => by have := (own_lt o1 hj).1; injection e with e; omega)
  have G2 := grown_trans (grown_trans G1 g1') g2
  clear G1 g1' g2 o1 rb rb2 hrd1
  go_wp2_with fail
  have Hn := Lib.hid hn
  clear hn hm
  go_loopw [3, 6] (fun v i wr => ∃ (k : Nat) (xs : List (Int × Int)), k ≤ n ∧ i = .int .i64 k ∧ xs.length ≤ k ∧ wr.ownsRow w.heap.size 35 2 v xs.length (xs.flatMap pairCells) ∧ IsRd wr R (p + 2 + 2 * k) ∧ w.grownBy wr (some R)) (fun _ i _ => n - (intOf i).toNat)
  case atStart => exact ⟨0, [], by omega, rfl, by simp, o2, by rw [show p + 2 + 2 * ((0 : Nat) : Int) = p + 1 + 1 from by omega]; exact hrd2, G2⟩
  case round =>
    clear o2 hrd2 G2
    obtain ⟨k, xs, hk, rfl, hxl, hrow, hrd, hgr⟩ := hrel
    have hn7 : n ≤ 5 := by have := Hn.out; omega
    by_cases hlt2 : k < n
    · have hkn : (k : Int) < n := by omega
      go_wp2_with fail
      refine (pick2 R (p + 2 + 2 * k) 6 _ (by omega) (by omega) hrd).mono ?_
      rintro e w3 ⟨x, rfl, x0, x6, hrd3, g3⟩
      have o3 := own_over hrow g3 (fun j hj e => by have := (own_lt hrow hj).1; injection e with e; omega)
      have G3 := grown_trans hgr g3
      clear hrow hrd hgr g3
      have mx := mul_bd m (x - 2) 7 3 (by omega) (by omega)
      simp only [Int.reduceMul, Int.reduceNeg] at mx
      obtain ⟨X, hX⟩ : ∃ X, m * (x - 2) = X := ⟨_, rfl⟩
      rw [hX] at mx
      go_wp2_with fail
      refine (pick2 R (p + 2 + 2 * k + 1) 4 _ (by omega) (by omega) hrd3).mono ?_
      rintro e w4 ⟨y, rfl, y0, y6, hrd4, g4⟩
      have o4 := own_over o3 g4 (fun j hj e => by have := (own_lt o3 hj).1; injection e with e; omega)
      have G4 := grown_trans G3 g4
      clear o3 hrd3 G3 g4
      have my := mul_bd m (y - 1) 7 2 (by omega) (by omega)
      simp only [Int.reduceMul, Int.reduceNeg] at my
      obtain ⟨Y, hY⟩ : ∃ Y, m * (y - 1) = Y := ⟨_, rfl⟩
      rw [hY] at my
      go_wp2_with fail
      have hbs4 := G4.size
      have o5 := o4.alloc (.cells #[.int .i64 X, .int .i64 Y] 35)
      have rv := Row.new w4 35 [.int .i64 X, .int .i64 Y]
      have hrd5 := hrd4.kept (bA1 (o := .cells #[.int .i64 X, .int .i64 Y] 35))
      have G5 := grown_trans G4 (World.grownBy_alloc w4 (.cells #[.int .i64 X, .int .i64 Y] 35) (some R))
      obtain ⟨A3, c3, rfl⟩ := own_form o5
      refine (l91Has_any A3 xs.length c3 xs (X, Y) _ rfl (by omega) (Rd.of_own o5)).mono ?_
      rintro e w6 ⟨rfl, b6⟩
      have o6 := own_ext o5 b6
      have rv6 := rv.kept b6
      have hrd6 := hrd5.kept b6
      have G6 := grown_trans G5 (below_grown b6 R)
      have hbs6 := G6.size
      obtain ⟨d0, d1, _, _⟩ := rv6.two
      clear o5 o4 rv hrd4 hrd5 G4 G5 b6 hX hY
      cases hin : decide ((X, Y) ∈ xs)
      · have Hin := Lib.hid hin; clear hin
        have O6 := Lib.hid o6; clear o6
        have Hrd6 := Lib.hid hrd6; clear hrd6
        have hidX := Lib.hid G6; clear G6; have G6 := hidX; clear hidX
        have Rv6 := Lib.hid rv6; clear rv6
        go_wp2_with (at_builtin; refine wpList_append_own _ rfl _ _ 23 rfl w.heap.size 35 i1 (.agg #[.int .i64 0, .int .i64 0]) 2 16 (by kernel_rfl) hj hy0 hy1 hy2 rfl (by decide) _ xs.length _ rfl (O6.out.alloc _) ⟨w6.heap.size, 0, none⟩ 1 1 [.int .i64 (X), .int .i64 (Y)] rfl rfl (cell_two_new _ _ _ _) (by simp [Value.oneCell']) (by unfold maxLen; omega) (by omega) (by simp; omega) ?_; intro v' w7 hown' hgrow _; obtain ⟨g', cap', rfl⟩ := ownsRow_succ hown')
        have hrd7 := (Hrd6.out.kept bA1).over hgrow (fun j hj => by have := (own_lt O6.out hj).1; omega)
        have G7 := grown_far (grown_trans G6.out (World.grownBy_alloc w6 (.cells #[.int .i64 X, .int .i64 Y] 35) (some R))) hgrow (fun j hj => (own_lt O6.out hj).1)
        have Hown' := Lib.hid hown'; clear hown'
        have Hrd7 := Lib.hid hrd7; clear hrd7
        have hidX := Lib.hid G7; clear G7; have G7 := hidX; clear hidX
        clear hgrow
        go_wp2_with fail
        go_roundw
        case measure => simp [intOf]; omega
        case rel =>
          refine ⟨k + 1, xs ++ [(X, Y)], by omega, by go_num, by simp; omega, ?_, by rw [show p + 2 + 2 * ((k + 1 : Nat) : Int) = p + 2 + 2 * k + 1 + 1 from by omega]; exact Hrd7.out, G7.out⟩
          rw [List.length_append, List.flatMap_append]
          exact Hown'.out
      · have Hin := Lib.hid hin; clear hin
        have O6 := Lib.hid o6; clear o6
        have Hrd6 := Lib.hid hrd6; clear hrd6
        have hidX := Lib.hid G6; clear G6; have G6 := hidX; clear hidX
        have Rv6 := Lib.hid rv6; clear rv6
        go_wp2_with fail
        go_roundw
        case measure => simp [intOf]; omega
        case rel => exact ⟨k + 1, xs, by omega, by go_num, by omega, O6.out, by rw [show p + 2 + 2 * ((k + 1 : Nat) : Int) = p + 2 + 2 * k + 1 + 1 from by omega]; exact Hrd6.out, G6.out⟩
    · obtain rfl : k = n := by omega
      have hbs := hgr.size
      have hRlt := hrd.lt
      obtain ⟨q, hq⟩ : ∃ q, p + 2 + 2 * (k : Int) = q := ⟨_, rfl⟩
      have hq0 : 0 ≤ q ∧ q ≤ p + 20 := by omega
      rw [hq] at hrd
      clear hq
      obtain ⟨A3, c3, rfl⟩ := own_form hrow
      by_cases hl2 : xs.length < 2
      · have hlI : (xs.length : Int) < 2 := by omega
        have Hrow := Lib.hid hrow; clear hrow
        go_wp2_with fail
        refine (pick2 R q 3 _ (by omega) (by omega) hrd).mono ?_
        rintro e w3 ⟨u, rfl, u0, u3', hrd3, g3⟩
        have G3 := grown_trans hgr g3
        clear g3 hrd hgr
        go_wp2_with fail
        refine (pick2 R (q + 1) 3 _ (by omega) (by omega) hrd3).mono ?_
        rintro e w4 ⟨v, rfl, v0, v3, hrd4, g4⟩
        have G4 := grown_trans G3 g4
        have hbs4 := G4.size
        clear g4 hrd3 G3
        have rn := Row.new w4 35 [.int .i64 0, .int .i64 0, .int .i64 (1 + u), .int .i64 v, .int .i64 5, .int .i64 1]
        have on := rn.own (base := w.heap.size) (n := 3) (size := 2) hbs4 rfl (by decide)
        have hrd5 := hrd4.kept (bA1 (o := .cells #[.int .i64 0, .int .i64 0, .int .i64 (1 + u), .int .i64 v, .int .i64 5, .int .i64 1] 35))
        have G5 := grown_trans G4 (World.grownBy_alloc w4 (.cells #[.int .i64 0, .int .i64 0, .int .i64 (1 + u), .int .i64 v, .int .i64 5, .int .i64 1] 35) (some R))
        have On := Lib.hid (show World.ownsRow _ w.heap.size 35 2 _ ([(0, 0), (1 + u, v), (5, 1)] : List (Int × Int)).length (([(0, 0), (1 + u, v), (5, 1)] : List (Int × Int)).flatMap pairCells) from on)
        clear hrd4 G4 rn on
        obtain ⟨ys, hys⟩ : ∃ ys : List (Int × Int), [(0, 0), (1 + u, v), (5, 1)] = ys := ⟨_, rfl⟩
        have hyl : ys.length = 3 := by rw [← hys]; rfl
        rw [hys] at On
        rw [hyl] at On
        clear hys
        go_wp2_with fail
        obtain ⟨A3, hA3⟩ : ∃ A3, some (⟨w4.heap.size, 0, none⟩ : Addr) = A3 := ⟨_, rfl⟩
        rw [hA3] at On ⊢
        clear hA3
        refine (pick2 R (q + 1 + 1) 40 _ (by omega) (by omega) hrd5).mono ?_
        rintro e w9 ⟨z, rfl, z0, z40, hrd9, g9⟩
        have o9 := own_over On.out g9 (fun j hj e => by have := (own_lt On.out hj).1; injection e with e; omega)
        have G9 := grown_trans G5 g9
        have hcap := own_cap o9
        have hbs9 := G9.size
        clear g9
        by_cases hz0 : z = 0
        · subst hz0
          obtain ⟨y0, hy0⟩ : ∃ y, ys[0]? = some y := ⟨_, List.getElem?_eq_getElem (by omega)⟩
          obtain ⟨y1, hy1⟩ : ∃ y, ys[1]? = some y := ⟨_, List.getElem?_eq_getElem (by omega)⟩
          obtain ⟨b9, off9, e9, hb9, hd1, hd2⟩ := rd_pair (Rd.of_own o9) hy1
          obtain ⟨g, rfl, hBg, hob, hc, hf, hset⟩ := own_set o9 (i := 0) (u := .int .i64 y0.1) (pairCells_get ys 0 y0 hy0).1
          cases e9
          have o10 := hset (.int .i64 y1.1)
          obtain ⟨g2, e2, _, _, hc2, hf2, hset2⟩ := own_set o10 (i := 1) (u := .int .i64 y0.2) (by rw [List.getElem?_set_ne (by omega)]; exact (pairCells_get ys 0 y0 hy0).2)
          cases e2
          have o11 := hset2 (.int .i64 y1.2)
          have hf1 := hf2
          rw [show (w9.setCell ⟨b9, 0, none⟩ (.int .i64 y1.1)).frozen? ⟨b9, 1, none⟩ = w9.frozen? ⟨b9, 1, none⟩ from frozen_set _ _ _ _] at hf1
          have hc1 := (pairCells_get ys 0 y0 hy0).2
          have hrd11 := (hrd9.over (grown_set w9 b9 0 (.int .i64 y1.1)) (fun j e => by cases e; omega)).over (grown_set _ b9 1 (.int .i64 y1.2)) (fun j e => by cases e; omega)
          have G11 := grown_far (grown_far G9 (grown_set w9 b9 0 (.int .i64 y1.1)) (fun j e => by cases e; exact hBg)) (grown_set _ b9 1 (.int .i64 y1.2)) (fun j e => by cases e; exact hBg)
          obtain ⟨_, e3, _, _, hc1b, hf1b, _⟩ := own_set o9 (i := 1) (u := .int .i64 y0.2) (pairCells_get ys 0 y0 hy0).2
          cases e3
          have he := pairs_set ys 0 y1 (by omega)
          simp only [Nat.zero_mul, Nat.zero_add, Nat.one_mul] at hd1 hd2 he
          have O11 := Lib.hid o11; clear o11
          have Hrd11 := Lib.hid hrd11; clear hrd11
          have hidX := Lib.hid G11; clear G11; have G11 := hidX; clear hidX
          have He := Lib.hid he; clear he
          clear o9 o10 hset hset2 hrd9 G9 hc2 hf2 hf1 hc1 hy0 hy1
          go_wp2_with fail
          go_ret
          refine ⟨_, _, _, ys.set 0 y1, _, rfl, by first | exact List.length_set .. | exact (List.length_set ..).trans hyl, by omega, hcap, ?_, by omega, Hrd11.out, G11.out⟩
          rw [← He.out]
          exact Rd.of_own O11.out
        · have hz0 : (z == 0) = false := beq_eq_false_iff_ne.2 hz0
          by_cases hz1 : z = 1
          · subst hz1
            obtain ⟨y0, hy0⟩ : ∃ y, ys[0]? = some y := ⟨_, List.getElem?_eq_getElem (by omega)⟩
            obtain ⟨g, rfl, hBg, hob, hc, hf, hset⟩ := own_set o9 (i := 0) (u := .int .i64 y0.1) (pairCells_get ys 0 y0 hy0).1
            have o10 := hset (.int .i64 1001)
            have hrd11 := hrd9.over (grown_set w9 g 0 (.int .i64 1001)) (fun j e => by cases e; omega)
            have G11 := grown_far G9 (grown_set w9 g 0 (.int .i64 1001)) (fun j e => by cases e; exact hBg)
            have he := pairs_set0 hy0 (x := 1001)
            have O10 := Lib.hid o10; clear o10
            have Hrd11 := Lib.hid hrd11; clear hrd11
            have hidX := Lib.hid G11; clear G11; have G11 := hidX; clear hidX
            have He := Lib.hid he; clear he
            clear o9 hset hrd9 G9
            go_wp2_with fail
            go_ret
            refine ⟨_, _, _, ys.set 0 (1001, y0.2), _, rfl, by first | exact List.length_set .. | exact (List.length_set ..).trans hyl, by omega, hcap, ?_, by omega, Hrd11.out, G11.out⟩
            rw [He.out]
            exact Rd.of_own O10.out
          · have hz1 : (z == 1) = false := beq_eq_false_iff_ne.2 hz1
            by_cases hz2 : z = 2
            · subst hz2
              obtain ⟨g, cap, eA⟩ : ∃ g cap, Value.slice A3 3 3 = .slice (some ⟨g, 0, none⟩) 3 cap := by
                rcases o9.2 with ⟨h1, h2⟩ | ⟨g, cap, _, h, _⟩
                · exfalso; omega
                · exact ⟨_, _, h⟩
              injection eA with eA _ _
              subst eA
              have hrd1 : Rd w9 w9.heap.size (some ⟨g, 0, none⟩) ((ys.take 1).flatMap pairCells) := rd_take (Rd.of_own o9) 1
              have Hrd1 := Lib.hid hrd1; clear hrd1
              have Hrd9 := Lib.hid hrd9; clear hrd9
              have hidX := Lib.hid G9; clear G9; have G9 := hidX; clear hidX
              go_wp2_with fail
              go_ret
              exact ⟨_, _, _, ys.take 1, _, rfl, by rw [List.length_take]; omega, by omega, by omega, Hrd1.out, by omega, Hrd9.out, G9.out⟩
            · have hz2 : (z == 2) = false := beq_eq_false_iff_ne.2 hz2
              have hr9 := Rd.of_own o9
              have Hr9 := Lib.hid hr9; clear hr9
              have Hrd9 := Lib.hid hrd9; clear hrd9
              have hidX := Lib.hid G9; clear G9; have G9 := hidX; clear hidX
              go_wp2_with fail
              go_ret
              exact ⟨_, _, _, ys, _, rfl, by first | rfl | exact hyl, by omega, hcap, Hr9.out, by omega, Hrd9.out, G9.out⟩
      · have hlI : ¬ (xs.length : Int) < 2 := by omega
        have hx7 : xs.length ≤ 7 := by omega
        have Hrow := Lib.hid hrow; clear hrow
        go_wp2_with fail
        refine (pick2 R q 40 _ (by omega) (by omega) hrd).mono ?_
        rintro e w9 ⟨z, rfl, z0, z40, hrd9, g9⟩
        have o9 := own_over Hrow.out g9 (fun j hj e => by have := (own_lt Hrow.out hj).1; injection e with e; omega)
        have G9 := grown_trans hgr g9
        have hcap := own_cap o9
        have hbs9 := G9.size
        clear g9
        by_cases hz0 : z = 0
        · subst hz0
          obtain ⟨y0, hy0⟩ : ∃ y, xs[0]? = some y := ⟨_, List.getElem?_eq_getElem (by omega)⟩
          obtain ⟨y1, hy1⟩ : ∃ y, xs[1]? = some y := ⟨_, List.getElem?_eq_getElem (by omega)⟩
          obtain ⟨b9, off9, e9, hb9, hd1, hd2⟩ := rd_pair (Rd.of_own o9) hy1
          obtain ⟨g, rfl, hBg, hob, hc, hf, hset⟩ := own_set o9 (i := 0) (u := .int .i64 y0.1) (pairCells_get xs 0 y0 hy0).1
          cases e9
          have o10 := hset (.int .i64 y1.1)
          obtain ⟨g2, e2, _, _, hc2, hf2, hset2⟩ := own_set o10 (i := 1) (u := .int .i64 y0.2) (by rw [List.getElem?_set_ne (by omega)]; exact (pairCells_get xs 0 y0 hy0).2)
          cases e2
          have o11 := hset2 (.int .i64 y1.2)
          have hf1 := hf2
          rw [show (w9.setCell ⟨b9, 0, none⟩ (.int .i64 y1.1)).frozen? ⟨b9, 1, none⟩ = w9.frozen? ⟨b9, 1, none⟩ from frozen_set _ _ _ _] at hf1
          have hc1 := (pairCells_get xs 0 y0 hy0).2
          have hrd11 := (hrd9.over (grown_set w9 b9 0 (.int .i64 y1.1)) (fun j e => by cases e; omega)).over (grown_set _ b9 1 (.int .i64 y1.2)) (fun j e => by cases e; omega)
          have G11 := grown_far (grown_far G9 (grown_set w9 b9 0 (.int .i64 y1.1)) (fun j e => by cases e; exact hBg)) (grown_set _ b9 1 (.int .i64 y1.2)) (fun j e => by cases e; exact hBg)
          obtain ⟨_, e3, _, _, hc1b, hf1b, _⟩ := own_set o9 (i := 1) (u := .int .i64 y0.2) (pairCells_get xs 0 y0 hy0).2
          cases e3
          have he := pairs_set xs 0 y1 (by omega)
          simp only [Nat.zero_mul, Nat.zero_add, Nat.one_mul] at hd1 hd2 he
          have O11 := Lib.hid o11; clear o11
          have Hrd11 := Lib.hid hrd11; clear hrd11
          have hidX := Lib.hid G11; clear G11; have G11 := hidX; clear hidX
          have He := Lib.hid he; clear he
          clear o9 o10 hset hset2 hrd9 G9 hc2 hf2 hf1 hc1 hy0 hy1
          go_wp2_with fail
          go_ret
          refine ⟨_, _, _, xs.set 0 y1, _, rfl, by first | exact List.length_set .. | exact (List.length_set ..).trans hyl, by omega, hcap, ?_, by omega, Hrd11.out, G11.out⟩
          rw [← He.out]
          exact Rd.of_own O11.out
        · have hz0 : (z == 0) = false := beq_eq_false_iff_ne.2 hz0
          by_cases hz1 : z = 1
          · subst hz1
            obtain ⟨y0, hy0⟩ : ∃ y, xs[0]? = some y := ⟨_, List.getElem?_eq_getElem (by omega)⟩
            obtain ⟨g, rfl, hBg, hob, hc, hf, hset⟩ := own_set o9 (i := 0) (u := .int .i64 y0.1) (pairCells_get xs 0 y0 hy0).1
            have o10 := hset (.int .i64 1001)
            have hrd11 := hrd9.over (grown_set w9 g 0 (.int .i64 1001)) (fun j e => by cases e; omega)
            have G11 := grown_far G9 (grown_set w9 g 0 (.int .i64 1001)) (fun j e => by cases e; exact hBg)
            have he := pairs_set0 hy0 (x := 1001)
            have O10 := Lib.hid o10; clear o10
            have Hrd11 := Lib.hid hrd11; clear hrd11
            have hidX := Lib.hid G11; clear G11; have G11 := hidX; clear hidX
            have He := Lib.hid he; clear he
            clear o9 hset hrd9 G9
            go_wp2_with fail
            go_ret
            refine ⟨_, _, _, xs.set 0 (1001, y0.2), _, rfl, by first | exact List.length_set .. | exact (List.length_set ..).trans hyl, by omega, hcap, ?_, by omega, Hrd11.out, G11.out⟩
            rw [He.out]
            exact Rd.of_own O10.out
          · have hz1 : (z == 1) = false := beq_eq_false_iff_ne.2 hz1
            by_cases hz2 : z = 2
            · subst hz2
              obtain ⟨g, cap, eA⟩ : ∃ g cap, Value.slice A3 xs.length c3 = .slice (some ⟨g, 0, none⟩) xs.length cap := by
                rcases o9.2 with ⟨h1, h2⟩ | ⟨g, cap, _, h, _⟩
                · exfalso; omega
                · exact ⟨_, _, h⟩
              injection eA with eA _ _
              subst eA
              have hrd1 : Rd w9 w9.heap.size (some ⟨g, 0, none⟩) ((xs.take 1).flatMap pairCells) := rd_take (Rd.of_own o9) 1
              have Hrd1 := Lib.hid hrd1; clear hrd1
              have Hrd9 := Lib.hid hrd9; clear hrd9
              have hidX := Lib.hid G9; clear G9; have G9 := hidX; clear hidX
              go_wp2_with fail
              go_ret
              exact ⟨_, _, _, xs.take 1, _, rfl, by rw [List.length_take]; omega, by omega, by omega, Hrd1.out, by omega, Hrd9.out, G9.out⟩
            · have hz2 : (z == 2) = false := beq_eq_false_iff_ne.2 hz2
              have hr9 := Rd.of_own o9
              have Hr9 := Lib.hid hr9; clear hr9
              have Hrd9 := Lib.hid hrd9; clear hrd9
              have hidX := Lib.hid G9; clear G9; have G9 := hidX; clear hidX
              go_wp2_with fail
              go_ret
              exact ⟨_, _, _, xs, _, rfl, by first | rfl | exact hyl, by omega, hcap, Hr9.out, by omega, Hrd9.out, G9.out⟩

theorem drawObserveOf_any (A : Option Addr) (n cap : Nat) (bs : List Int) (w : World) (hn : bs.length = n) (hm : n ≤ 9223372036854775807) (hc : n ≤ cap) (hb : BytesOk bs) (hr : Rd w w.heap.size A (bs.map (Value.int .u8))) :
    Calls Try.prog 41 #[.slice A n cap] w fun e w' =>
      ∃ (A1 : Option Addr) (k1 c1 : Nat) (ants : List (Int × Int)) (A2 : Option Addr) (k2 c2 : Nat) (s : List Int), e = .returned (.tuple #[.slice A1 k1 c1, .slice A2 k2 c2]) ∧
        ants.length = k1 ∧ k1 ≤ 7 ∧ k1 ≤ c1 ∧ Rd w' w'.heap.size A1 (ants.flatMap pairCells) ∧ s.length = k2 ∧ k2 ≤ 16 ∧ Rd w' w'.heap.size A2 (s.map (Value.int .i64)) ∧ Below w.heap.size w w' := by
  go_enter Try.func41, Try.ntmps41
  go_wp2_with fail
  refine (l6Open_any A n cap bs w hn hm hc hr).mono ?_
  rintro e w1 ⟨rfl, hR, hb1⟩
  have hrd := isRd_open hn hb hr hR hb1
  clear hR
  go_wp2_with fail
  refine (l91Array_any _ 0 _ (by omega) hrd).mono ?_
  rintro e w2 ⟨A1, k1, c1, ants, p', rfl, hs, hk1, hkc, hr1, hp1, hrd2, g2⟩
  have B2 : Below w.heap.size w w2 := hb1.grown g2 hb1.size fun j e => by cases e; exact Nat.le_refl _
  have hap := hr1.apart hrd2 (pairs_int ants) (by rw [pairCells_len]; omega)
  go_wp2_with fail
  refine (l92Sky_any _ p' _ (by omega) hrd2).mono ?_
  rintro e w3 ⟨A2, k2, c2, s, p2, rfl, hc, hk2, hr2, hp2, hrd3, g3⟩
  have B3 : Below w.heap.size w w3 := B2.grown g3 B2.size fun j e => by cases e; exact Nat.le_refl _
  go_wp2_with fail
  refine bodyPost_ret (v := .tuple #[.slice A1 k1 c1, .slice A2 k2 c2]) (by simp [results, Try.results41, go_sem]) rfl ⟨A1, k1, c1, ants, A2, k2, c2, s, rfl, hs, hk1, hkc, hr1.over g3 hap, hc, by omega, hr2, B3⟩
end Go.Proofs.Ytfandpgjlahnpaa
