/- Arrays of antennas: the reference's checks, and the vectors of baselines. -/
import Derived.Test.YtfandpgjlahnpaaArrI
import Derived.Test.YtfandpgjlahnpaaBackS
namespace Go.Proofs.Ytfandpgjlahnpaa
open Go.RowKit

theorem l3Place_any (a : Int × Int) (w : World) :
    Calls Try.prog 125 #[.agg #[.int .i64 a.1, .int .i64 a.2]] w fun e w' => e = .returned (.bool (antOk a)) ∧ Below w.heap.size w w' := by
  have r0 := Row.new w 35 [.int .i64 a.1, .int .i64 a.2]
  obtain ⟨c0, c1, _, _⟩ := r0.two
  have R0 := Lib.hid r0; clear r0
  go_enter Try.func125, Try.ntmps125
  go_wp2_with fail
  refine (l6In_any a.1 (-1000) 1000 _).mono ?_
  rintro e w1 ⟨rfl, rfl⟩
  cases h1 : inR a.1 (-1000) 1000
  · have H1 := Lib.hid h1; clear h1
    go_wp2_with fail
    go_ret
    refine ⟨ret_bool ?_, bA1⟩
    unfold antOk; rw [H1.out]; rfl
  · have H1 := Lib.hid h1; clear h1
    go_wp2_with fail
    refine (l6In_any a.2 (-1000) 1000 _).mono ?_
    rintro e w1 ⟨rfl, rfl⟩
    go_wp2_with fail
    go_ret
    refine ⟨ret_bool ?_, bA1⟩
    unfold antOk; rw [H1.out]; rfl

set_option maxRecDepth 100000 in
set_option maxHeartbeats 1000000 in
theorem sArrayValid_any (A : Option Addr) (n cap : Nat) (xs : List (Int × Int)) (w : World) (hn : xs.length = n) (hb : n ≤ 1048576) (hr : Rd w w.heap.size A (xs.flatMap pairCells)) :
    Calls Try.prog 72 #[.slice A n cap] w fun e w' => e = .returned (.bool (arrV xs)) ∧ Below w.heap.size w w' := by
  have hV : arrV xs = (inR n 2 7 && arrP xs n) := by unfold arrV; rw [hn]
  have Hn := Lib.hid hn; clear hn
  have HV := Lib.hid hV; clear hV
  go_enter Try.func72, Try.ntmps72
  go_wp2_with fail
  go_loopw [3] (fun i wr => ∃ k : Nat, k ≤ n ∧ i = .int .i64 k ∧ arrP xs k = true ∧ Below w.heap.size w wr) (fun i _ => n - (intOf i).toNat)
  case atStart => exact ⟨0, by omega, rfl, rfl, Below.refl _ _⟩
  case round =>
    obtain ⟨k, hkn, rfl, hall, hbel⟩ := hrel
    by_cases hlt : k < n
    · have hsucc := arrP_succ xs k
      have hno := fun h => arrP_no (xs := xs) (n := n) hlt h
      have hgk := getD_of (gs := xs) (k := k) (by rw [Hn.out]; exact hlt)
      obtain ⟨b, off, rfl, hb2, hc1, hc2⟩ := rd_pair (hr.below hbel) hgk
      obtain ⟨x, hx⟩ : ∃ x, xs.getD k (0, 0) = x := ⟨_, rfl⟩
      rw [hx] at hsucc hno hgk hc1 hc2
      have hbs := hbel.size
      have Hall := Lib.hid hall; clear hall
      have Hsucc := Lib.hid hsucc; clear hsucc
      have Hno := Lib.hid hno; clear hno
      have Hgk := Lib.hid hgk; clear hgk
      have Hx := Lib.hid hx; clear hx
      go_wp2_with fail
      refine (l3Place_any x _).mono ?_
      rintro e w1 ⟨rfl, b1⟩
      have B1 := hbel.trans (b1.mono hbel.size)
      clear b1 hbel
      cases ha : antOk x
      · have hno := Hno.out (by rw [ha]; rfl)
        have Hno := Lib.hid hno; clear hno
        have Ha := Lib.hid ha; clear ha
        go_wp2_with fail
        go_ret
        exact ⟨ret_bool (by rw [HV.out, Hno.out, Bool.and_false]), B1⟩
      · have Ha := Lib.hid ha; clear ha
        go_wp2_with fail
        go_loopw [4] (fun i wr => ∃ j : Nat, j ≤ k ∧ i = .int .i64 j ∧ x ∉ xs.take j ∧ Below w.heap.size w wr) (fun i _ => k - (intOf i).toNat)
        case atStart => exact ⟨0, by omega, rfl, by simp, B1⟩
        case round =>
          clear B1
          obtain ⟨j, hjk, rfl, hni, hbel⟩ := hrel
          have hr' := hr.below hbel
          by_cases hlt2 : j < k
          · have hts := take_succ_getD (l := xs) (d := (0, 0)) (k := j) (by rw [Hn.out]; omega)
            have hgj := getD_of (gs := xs) (k := j) (by rw [Hn.out]; omega)
            obtain ⟨_, _, e, _, hd1, hd2⟩ := rd_pair hr' hgj
            cases e
            obtain ⟨_, _, e, _, he1, he2⟩ := rd_pair hr' Hgk.out
            cases e
            have hmem : ∀ m, j < m → xs.getD j (0, 0) ∈ xs.take m := fun m hm => by
              rw [List.getD_eq_getElem?_getD, List.getElem?_eq_getElem (by rw [Hn.out]; omega)]
              exact List.mem_iff_getElem.2 ⟨j, by rw [List.length_take, Hn.out]; omega, by simp⟩
            generalize xs.getD j (0, 0) = y at *
            have Hbel := Lib.hid hbel; clear hbel
            have Hts := Lib.hid hts; clear hts
            have Hni := Lib.hid hni; clear hni
            have Hmem := Lib.hid hmem; clear hmem
            have Hgj := Lib.hid hgj; clear hgj
            by_cases hxy : y = x
            · subst hxy
              have hno := Hno.out (by rw [Ha.out, decide_eq_true (Hmem.out k hlt2)]; rfl)
              have Hno := Lib.hid hno; clear hno
              go_wp2_with fail
              go_quiet (fail)
              go_wp2_with fail
              go_ret
              exact ⟨ret_bool (by rw [HV.out, Hno.out, Bool.and_false]), below_drewN Hbel.out _⟩
            · have Hxy := Lib.hid hxy
              rcases pair_bne hxy with h1 | ⟨h1, h2⟩
              · clear hxy
                go_wp2_with fail
                go_quiet (fail)
                go_wp2_with fail
                go_roundw
                case measure => simp [intOf]; omega
                case rel =>
                  refine ⟨j + 1, by omega, by go_num, ?_, below_drewN Hbel.out _⟩
                  rw [Hts.out]
                  simp only [List.mem_append, List.mem_singleton, not_or]
                  exact ⟨Hni.out, fun e => Hxy.out e.symm⟩
              · clear hxy
                go_wp2_with fail
                go_quiet (fail)
                go_wp2_with fail
                go_roundw
                case measure => simp [intOf]; omega
                case rel =>
                  refine ⟨j + 1, by omega, by go_num, ?_, below_drewN Hbel.out _⟩
                  rw [Hts.out]
                  simp only [List.mem_append, List.mem_singleton, not_or]
                  exact ⟨Hni.out, fun e => Hxy.out e.symm⟩
          · obtain rfl : j = k := by omega
            have Hni := Lib.hid hni; clear hni
            have Hbel := Lib.hid hbel; clear hbel
            go_wp2_with fail
            go_roundw
            case measure => simp [intOf]; omega
            case rel => exact ⟨j + 1, by omega, by go_num, by rw [Hsucc.out, Hall.out, Ha.out, decide_eq_false Hni.out]; rfl, Hbel.out⟩
    · obtain rfl : k = n := by omega
      have Hall := Lib.hid hall; clear hall
      go_wp2_with fail
      refine (l6In_any k 2 7 _).mono ?_
      rintro e w1 ⟨rfl, rfl⟩
      go_wp2_with fail
      go_ret
      exact ⟨ret_bool (by rw [HV.out, Hall.out, Bool.and_true]), hbel⟩

set_option maxRecDepth 100000 in
set_option maxHeartbeats 1000000 in
theorem vector_any (A : Option Addr) (n cap : Nat) (xs : List (Int × Int)) (i j : Nat) (w : World) (hn : xs.length = n) (hi : i < n) (hj : j < n) (hg : gLe 1000 xs) (hr : Rd w w.heap.size A (xs.flatMap pairCells)) :
    Calls Try.prog 70 #[.slice A n cap, .int .i64 i, .int .i64 j] w fun e w' => e = .returned (.agg #[.int .i64 (vecX xs i j), .int .i64 (vecY xs i j)]) ∧ Below w.heap.size w w' := by
  obtain ⟨b, off, rfl, hb, g1, g2⟩ := rd_pair hr (getD_of (gs := xs) (k := i) (by rw [hn]; exact hi))
  obtain ⟨_, _, e, _, g3, g4⟩ := rd_pair hr (getD_of (gs := xs) (k := j) (by rw [hn]; exact hj))
  cases e
  have hv := vec_bd hg i j
  have e1 : vecX xs i j = (xs.getD j (0, 0)).1 - (xs.getD i (0, 0)).1 := rfl
  have e2 : vecY xs i j = (xs.getD j (0, 0)).2 - (xs.getD i (0, 0)).2 := rfl
  rw [e1, e2] at hv ⊢
  generalize xs.getD i (0, 0) = x at *
  generalize xs.getD j (0, 0) = y at *
  have i1 : IntKind.i64.wrap (y.1 - x.1) = y.1 - x.1 := IntWalk.i64_in _ (by omega)
  have i2 : IntKind.i64.wrap (y.2 - x.2) = y.2 - x.2 := IntWalk.i64_in _ (by omega)
  have r0 := Row.new w 35 [.int .i64 0, .int .i64 0]
  have hc1 := (bcl (bA1 (w := w) (o := .cells #[.int .i64 0, .int .i64 0] 35)) hb _).trans g1
  have hc2 := (bcl (bA1 (w := w) (o := .cells #[.int .i64 0, .int .i64 0] 35)) hb _).trans g2
  have hc3 := (bcl (bA1 (w := w) (o := .cells #[.int .i64 0, .int .i64 0] 35)) hb _).trans g3
  have hc4 := (bcl (bA1 (w := w) (o := .cells #[.int .i64 0, .int .i64 0] 35)) hb _).trans g4
  have hW := bA1 (w := w) (o := .cells #[.int .i64 0, .int .i64 0] 35)
  clear e1 e2 g1 g2 g3 g4
  have Hn := Lib.hid hn; clear hn
  go_enter Try.func70, Try.ntmps70
  go_wp2_with fail
  obtain ⟨W, hWW⟩ : ∃ W, w.alloc (.cells #[.int .i64 0, .int .i64 0] 35) = W := ⟨_, rfl⟩
  simp only [hWW] at r0 hc1 hc2 hc3 hc4 hW
  rw [hWW]
  clear hWW
  obtain ⟨c0, c1, f0, f1⟩ := r0.two
  go_still_tail 23, (by kernel_rfl)
  change wpList _ _ _ _ _ W.drew
  go_wp2_with fail
  have r2 := ((r0.set_ 0 (.int .i64 (y.1 - x.1))).set_ 1 (.int .i64 (y.2 - x.2))).drew
  have hb2 := (set2 hW (g := w.heap.size) (Nat.le_refl _) (u := .int .i64 (y.1 - x.1)) (v := .int .i64 (y.2 - x.2))).drew
  generalize ((W.setCell ⟨w.heap.size, 0, none⟩ (.int .i64 (y.1 - x.1))).setCell ⟨w.heap.size, 1, none⟩ (.int .i64 (y.2 - x.2))).drew = V at r2 hb2 ⊢
  obtain ⟨d0, d1, _, _⟩ := r2.two
  refine bodyPost_ret (v := .agg #[.int .i64 (y.1 - x.1), .int .i64 (y.2 - x.2)]) (by simp [results, Try.results70, go_sem, d0, d1]) rfl ⟨rfl, hb2⟩

theorem upTo_le (n i : Nat) (h : i ≤ n) : (upTo n i).length ≤ (pairsN n).length := (upTo_prefix n i n h).length_le
theorem pairAt_of (n i j : Nat) (h7 : n ≤ 7) (hi : i < j) (hj : j < n) (at_ : Nat) (h : bF n i j = at_) : pairAt n at_ = (i, j) := by
  have h1 := upTo_len_bF n i j h7 hi (by omega)
  have h2 := inner_prefix n i (j + 1 - (i + 1)) (by omega)
  rw [rowOf_take n i j hi hj, ← List.append_assoc] at h2
  obtain ⟨t, ht⟩ := h2
  have hl : (upTo n i ++ (rowOf n i).take (j - (i + 1))).length = at_ := by omega
  unfold pairAt
  rw [← ht, List.getD_eq_getElem?_getD, List.append_assoc, List.getElem?_append_right (by omega), hl]
  simp

set_option maxHeartbeats 1000000 in
theorem sBasePair_any (n at_ : Nat) (w : World) (h2 : 2 ≤ n) (h7 : n ≤ 7) (ha : at_ < (pairsN n).length) :
    Calls Try.prog 134 #[.int .i64 n, .int .i64 at_] w fun e w' => e = .returned (.tuple #[.int .i64 (pairAt n at_).1, .int .i64 (pairAt n at_).2, .bool true]) ∧ w = w' := by
  have hbm := bm_pairs n h2 h7
  have hbp : (0 : Int) < bm n := by have := bm_cases n; omega
  have Hbm := Lib.hid hbm
  clear hbm
  go_enter Try.func134, Try.ntmps134
  go_wp2_with fail
  go_loop [7] (fun i => ∃ k : Nat, k ≤ n ∧ i = .int .i64 k ∧ (upTo n k).length ≤ at_) (fun i => n - (intOf i).toNat)
  case atStart => exact ⟨0, by omega, rfl, by simp [upTo]⟩
  case round =>
    obtain ⟨i, hi, rfl, hle⟩ := hrel
    by_cases hlt : i < n
    · have hin : (i : Int) < n := by omega
      go_wp2_with fail
      refine (sBaseMany_any n _).mono ?_
      rintro e w1 ⟨rfl, rfl⟩
      go_wp2_with fail
      go_loop [8] (fun i' => ∃ j : Nat, i < j ∧ j ≤ n ∧ i' = .int .i64 j ∧ bF n i j ≤ at_) (fun i' => n - (intOf i').toNat)
      case atStart =>
        refine ⟨i + 1, by omega, by omega, by go_num, ?_⟩
        have := upTo_len_bF n i (i + 1) h7 (by omega) (by omega)
        rw [Nat.sub_self, List.take_zero, List.append_nil] at this
        omega
      case round =>
        clear hle
        obtain ⟨j, hij, hj, rfl, hle⟩ := hrel
        by_cases hlt2 : j < n
        · have hjn : (j : Int) < n := by omega
          go_wp2_with fail
          refine (sBaseIndex_lt n i j _ (by omega) (by omega) (by omega)).mono ?_
          rintro e w1 ⟨rfl, rfl⟩
          by_cases he : bF n i j = at_
          · have hp := pairAt_of n i j h7 hij hlt2 at_ he
            have Hp := Lib.hid hp
            clear hp hle
            rw [he]
            go_wp2_with fail
            refine bodyPost_ret (v := .tuple #[.int .i64 i, .int .i64 j, .bool true]) (by simp [results, Try.results134, go_sem]) rfl ⟨by rw [Hp.out], rfl⟩
          · have hne : (bF n i j == (at_ : Int)) = false := beq_eq_false_iff_ne.2 he
            have hsu : bF n i (j + 1 : Nat) = bF n i j + 1 := by unfold bF; omega
            have hlt3 : bF n i j + 1 ≤ at_ := by omega
            have Hsu := Lib.hid hsu
            have Hlt3 := Lib.hid hlt3
            clear he hsu hlt3 hle
            generalize bF n i j = f at *
            go_wp2_with fail
            go_round
            case measure => simp [intOf]; omega
            case rel => exact ⟨j + 1, by omega, by omega, by go_num, by rw [Hsu.out]; exact Hlt3.out⟩
        · obtain rfl : j = n := by omega
          have hl : (upTo j (i + 1)).length ≤ at_ := by
            have := upTo_len_bF j i j h7 hij (Nat.le_refl _)
            rw [rowOf_all, ← upTo_succ] at this
            omega
          clear hle
          go_wp2_with fail
          go_round
          case measure => simp [intOf]; omega
          case rel => exact ⟨i + 1, by omega, by go_num, hl⟩
    · exfalso
      obtain rfl : i = n := by omega
      unfold pairsN at ha
      omega

set_option maxRecDepth 100000 in
set_option maxHeartbeats 1000000 in
theorem sBaseVector_any (A : Option Addr) (n cap : Nat) (xs : List (Int × Int)) (i j : Nat) (w : World) (hn : xs.length = n) (hv : arrV xs = true) (hi : i < n) (hj : j < n) (hr : Rd w w.heap.size A (xs.flatMap pairCells)) :
    Calls Try.prog 135 #[.slice A n cap, .int .i64 i, .int .i64 j] w fun e w' => e = .returned (.tuple #[.agg #[.int .i64 (vecX xs i j), .int .i64 (vecY xs i j)], .bool true]) ∧ Below w.heap.size w w' := by
  have hl := arrV_len hv
  have h7 : n ≤ 7 := by omega
  have hvb := vec_bd (arrV_gLe hv) i j
  have e1 : vecX xs i j = (xs.getD j (0, 0)).1 - (xs.getD i (0, 0)).1 := rfl
  have e2 : vecY xs i j = (xs.getD j (0, 0)).2 - (xs.getD i (0, 0)).2 := rfl
  rw [e1, e2] at hvb ⊢
  have hg1 := getD_of (gs := xs) (k := i) (by rw [hn]; exact hi)
  have hg2 := getD_of (gs := xs) (k := j) (by rw [hn]; exact hj)
  generalize xs.getD i (0, 0) = x at *
  generalize xs.getD j (0, 0) = y at *
  have r0 := Row.new w 35 [.int .i64 0, .int .i64 0]
  have hr' := hr.ext (bA1 (o := .cells #[.int .i64 0, .int .i64 0] 35))
  have hi1 : inR (i : Int) 0 ((n : Int) - 1) = true := inR_iff.2 (by omega)
  have hj1 : inR (j : Int) 0 ((n : Int) - 1) = true := inR_iff.2 (by omega)
  clear e1 e2 hl
  have Hn := Lib.hid hn; clear hn
  have Hv := Lib.hid hv; clear hv
  have Hg1 := Lib.hid hg1; clear hg1
  have Hg2 := Lib.hid hg2; clear hg2
  have Hi1 := Lib.hid hi1; clear hi1
  have Hj1 := Lib.hid hj1; clear hj1
  go_enter Try.func135, Try.ntmps135
  go_wp2_with fail
  refine (sArrayValid_any A n cap xs _ Hn.out (by omega) hr').mono ?_
  rintro e w1 ⟨rfl, b1⟩
  rw [Hv.out]
  go_wp2_with fail
  refine (l6In_any i 0 _ _).mono ?_
  rintro e w2 ⟨rfl, rfl⟩
  rw [Hi1.out]
  go_wp2_with fail
  refine (l6In_any j 0 _ _).mono ?_
  rintro e w2 ⟨rfl, rfl⟩
  rw [Hj1.out]
  have r1 := r0.kept b1
  have hr1 := hr'.ext b1
  have B1 := bA1.trans (b1.mono bA1.size)
  obtain ⟨b, off, rfl, hb, hc1, hc2⟩ := rd_pair hr1 Hg1.out
  obtain ⟨_, _, e, _, hc3, hc4⟩ := rd_pair hr1 Hg2.out
  cases e
  have hlt := r1.lt
  obtain ⟨c0, c1, f0, f1⟩ := r1.two
  have i1 : IntKind.i64.wrap (y.1 - x.1) = y.1 - x.1 := IntWalk.i64_in _ (by omega)
  have i2 : IntKind.i64.wrap (y.2 - x.2) = y.2 - x.2 := IntWalk.i64_in _ (by omega)
  clear b1 r0 hr'
  go_wp2_with fail
  go_still_tail 23, (by kernel_rfl)
  change wpList _ _ _ _ _ w1.drew
  go_wp2_with fail
  have r2 := ((r1.set_ 0 (.int .i64 (y.1 - x.1))).set_ 1 (.int .i64 (y.2 - x.2))).drew
  have hb2 := (set2 B1 (g := w.heap.size) (Nat.le_refl _) (u := .int .i64 (y.1 - x.1)) (v := .int .i64 (y.2 - x.2))).drew
  generalize ((w1.setCell ⟨w.heap.size, 0, none⟩ (.int .i64 (y.1 - x.1))).setCell ⟨w.heap.size, 1, none⟩ (.int .i64 (y.2 - x.2))).drew = V at r2 hb2 ⊢
  obtain ⟨d0, d1, _, _⟩ := r2.two
  refine bodyPost_ret (v := .tuple #[.agg #[.int .i64 (y.1 - x.1), .int .i64 (y.2 - x.2)], .bool true]) (by simp [results, Try.results135, go_sem, d0, d1]) rfl ⟨rfl, hb2⟩

theorem l17Vector_any (A : Option Addr) (n cap : Nat) (xs : List (Int × Int)) (k : Nat) (w : World) (hn : xs.length = n) (hv : arrV xs = true) (hk : k < (pairsN n).length) (hr : Rd w w.heap.size A (xs.flatMap pairCells)) :
    Calls Try.prog 95 #[.slice A n cap, .int .i64 k] w fun e w' => e = .returned (.agg #[.int .i64 (vecX xs (pairAt n k).1 (pairAt n k).2), .int .i64 (vecY xs (pairAt n k).1 (pairAt n k).2)]) ∧ Below w.heap.size w w' := by
  have hl := arrV_len hv
  obtain ⟨hp1, hp2⟩ := pairAt_lt hk
  have r0 := Row.new w 35 [.int .i64 0, .int .i64 0]
  have hr' := hr.ext (bA1 (o := .cells #[.int .i64 0, .int .i64 0] 35))
  have hbp := fun w => sBasePair_any n k w (by omega) (by omega) hk
  generalize (pairAt n k).1 = i at *
  generalize (pairAt n k).2 = j at *
  have Hn := Lib.hid hn; clear hn
  have Hv := Lib.hid hv; clear hv
  have Hbp := Lib.hid hbp; clear hbp
  go_enter Try.func95, Try.ntmps95
  go_wp2_with fail
  refine (Hbp.out _).mono ?_
  rintro e w2 ⟨rfl, rfl⟩
  go_wp2_with fail
  refine (sBaseVector_any A n cap xs i j _ Hn.out Hv.out (by omega) hp2 hr').mono ?_
  rintro e w1 ⟨rfl, b1⟩
  have r1 := r0.kept b1
  have B1 := bA1.trans (b1.mono bA1.size)
  obtain ⟨c0, c1, f0, f1⟩ := r1.two
  have hlt := r1.lt
  generalize hx : vecX xs i j = x at *
  generalize hy : vecY xs i j = y at *
  have Hx := Lib.hid hx; clear hx
  have Hy := Lib.hid hy; clear hy
  go_wp2_with fail
  have r2 := ((r1.set_ 0 (.int .i64 x)).set_ 1 (.int .i64 y)).alloc (.cells #[.int .i64 x, .int .i64 y] 35)
  have hb1 := (set2 B1 (g := w.heap.size) (Nat.le_refl _) (u := .int .i64 x) (v := .int .i64 y))
  have hb2 := hb1.alloc hb1.size (.cells #[.int .i64 x, .int .i64 y] 35)
  generalize ((w1.setCell ⟨w.heap.size, 0, none⟩ (.int .i64 x)).setCell ⟨w.heap.size, 1, none⟩ (.int .i64 y)).alloc (.cells #[.int .i64 x, .int .i64 y] 35) = V at r2 hb2 ⊢
  obtain ⟨d0, d1, _, _⟩ := r2.two
  refine bodyPost_ret (v := .agg #[.int .i64 x, .int .i64 y]) (by simp [results, Try.results95, go_sem, d0, d1]) rfl ⟨by rw [Hx.out, Hy.out], hb2⟩
end Go.Proofs.Ytfandpgjlahnpaa
