/- FnCleanFull returns true at every input, and leaves what was there. -/
import Derived.Test.YtfandpgjlahnpaaCleanF
import Derived.Test.YtfandpgjlahnpaaDrawL
import Derived.Test.YtfandpgjlahnpaaBeam
namespace Go.Proofs.Ytfandpgjlahnpaa
open Go.RowKit

set_option maxRecDepth 100000 in
set_option maxHeartbeats 2000000 in
theorem FnCleanFull_walk (w : World) (A : Option Addr) (n cap : Nat) (bs : List Int) (hn : bs.length = n) (hm : n ≤ 9223372036854775807) (hr : Rd w w.heap.size A (bs.map (Value.int .u8))) (hw : ∀ x ∈ bs, (Lit.int .u8 x).wf = true) (hk : n ≤ cap) :
    Calls Try.prog 9 #[.slice A n cap] w fun e w' => e = .returned (.bool true) ∧ Below w.heap.size w w' := by
  have Hbs := Lib.hid (bytesOk_of hw); clear hw
  by_cases hb : n ≤ 1048576
  · have hnb : ¬ (1048576 : Int) < (n : Int) := by omega
    go_enter Try.func9, Try.ntmps9
    go_wp2_with fail
    refine (drawCleanNew_any A n cap bs w hn hm hk Hbs.out hr).mono ?_
    rintro e w1 ⟨A1, k1, c1, s, rfl, hs, hk1, hkc, hr1, B1⟩
    have Hs := Lib.hid hs; clear hs
    clear hr hn
    -- both cleanings, alike
    have hnew : ∀ W : World, Rd W W.heap.size A1 (s.map (Value.int .i64)) → Calls Try.prog 27 #[.slice A1 k1 c1] W fun e w' => ∃ (ok : Bool) (X Y : Option Addr) (x cx cy : Nat) (M L : List Int), e = .returned (.tuple #[.agg #[.slice X x cx, .slice Y x cy], .bool (skyV s)]) ∧ M.length = x ∧ L.length = x ∧ x ≤ 16 ∧ (if skyV s then M = zeros16 ∧ L = s else M = [] ∧ L = []) ∧ Rd w' w'.heap.size X (M.map (Value.int .i64)) ∧ Rd w' w'.heap.size Y (L.map (Value.int .i64)) ∧ Below W.heap.size W w' := fun W hW => by
      cases hv : skyV s
      · refine (cleanNew_no A1 k1 c1 s W Hs.out (by omega) hv hW).mono ?_
        rintro e w' ⟨rfl, hb⟩
        exact ⟨true, none, none, 0, 0, 0, [], [], rfl, rfl, rfl, by omega, ⟨rfl, rfl⟩, fun i u hu => by simp at hu, fun i u hu => by simp at hu, hb⟩
      · obtain rfl : k1 = 16 := by rw [← Hs.out]; exact skyV_len hv
        refine (cleanNew_yes A1 c1 s W hv hW).mono ?_
        rintro e w' ⟨G, v, rfl, hG, rG, ov, hb⟩
        obtain ⟨Y, cy, rfl⟩ := own_form ov
        exact ⟨true, _, Y, 16, 16, cy, zeros16, s, rfl, by simp [zeros16], Hs.out, by omega, ⟨rfl, rfl⟩, rG.rd, Rd.of_own ov, hb⟩
    have snew : ∀ W : World, Rd W W.heap.size A1 (s.map (Value.int .i64)) → Calls Try.prog 55 #[.slice A1 k1 c1] W fun e w' => ∃ (ok : Bool) (X Y : Option Addr) (x cx cy : Nat) (M L : List Int), e = .returned (.tuple #[.agg #[.slice X x cx, .slice Y x cy], .bool (skyV s)]) ∧ M.length = x ∧ L.length = x ∧ x ≤ 16 ∧ (if skyV s then M = zeros16 ∧ L = s else M = [] ∧ L = []) ∧ Rd w' w'.heap.size X (M.map (Value.int .i64)) ∧ Rd w' w'.heap.size Y (L.map (Value.int .i64)) ∧ Below W.heap.size W w' := fun W hW => by
      cases hv : skyV s
      · refine (sCleanNew_no A1 k1 c1 s W Hs.out (by omega) hv hW).mono ?_
        rintro e w' ⟨rfl, hb⟩
        exact ⟨true, none, none, 0, 0, 0, [], [], rfl, rfl, rfl, by omega, ⟨rfl, rfl⟩, fun i u hu => by simp at hu, fun i u hu => by simp at hu, hb⟩
      · obtain rfl : k1 = 16 := by rw [← Hs.out]; exact skyV_len hv
        refine (sCleanNew_yes A1 c1 s W hv hW).mono ?_
        rintro e w' ⟨G, v, rfl, hG, rG, ov, hb⟩
        obtain ⟨Y, cy, rfl⟩ := own_form ov
        exact ⟨true, _, Y, 16, 16, cy, zeros16, s, rfl, by simp [zeros16], Hs.out, by omega, ⟨rfl, rfl⟩, rG.rd, Rd.of_own ov, hb⟩
    have Hnew := Lib.hid hnew; clear hnew
    have Snew := Lib.hid snew; clear snew
    go_wp2_with fail
    refine (Hnew.out _ hr1).mono ?_
    rintro e w2 ⟨_, X1, Y1, x1, cx1, cy1, M1, L1, rfl, hM1, hL1, hx1, hML1, rX1, rY1, b2⟩
    have B2 := B1.trans (b2.mono B1.size)
    have extX := (hr1.below b2).more b2.size; clear hr1; have hr1 := extX; clear extX
    clear b2
    have HM1 := Lib.hid hM1; clear hM1
    have HL1 := Lib.hid hL1; clear hL1
    have HML1 := Lib.hid hML1; clear hML1
    go_wp2_with fail
    have e3 := bA1 (w := w2) (o := .cells #[.slice X1 x1 cx1, .slice Y1 x1 cy1] 44)
    have q1 := Row.new w2 44 [.slice X1 x1 cx1, .slice Y1 x1 cy1]
    have B3 := B2.trans (e3.mono B2.size)
    have extX := (hr1.below e3).more e3.size; clear hr1; have hr1 := extX; clear extX
    have extX := (rX1.below e3).more e3.size; clear rX1; have rX1 := extX; clear extX
    have extX := (rY1.below e3).more e3.size; clear rY1; have rY1 := extX; clear extX
    clear e3
    refine (Snew.out _ hr1).mono ?_
    rintro e w4 ⟨_, X2, Y2, x2, cx2, cy2, M2, L2, rfl, hM2, hL2, hx2, hML2, rX2, rY2, b4⟩
    have q1 := q1.kept b4
    have B4 := B3.trans (b4.mono B3.size)
    have extX := (hr1.below b4).more b4.size; clear hr1; have hr1 := extX; clear extX
    have extX := (rX1.below b4).more b4.size; clear rX1; have rX1 := extX; clear extX
    have extX := (rY1.below b4).more b4.size; clear rY1; have rY1 := extX; clear extX
    clear b4
    obtain ⟨rfl, rfl⟩ : M1 = M2 ∧ L1 = L2 := by
      have h1 := HML1.out
      split at h1
      · rename_i hv; rw [if_pos hv] at hML2; exact ⟨h1.1.trans hML2.1.symm, h1.2.trans hML2.2.symm⟩
      · rename_i hv; rw [if_neg hv] at hML2; exact ⟨h1.1.trans hML2.1.symm, h1.2.trans hML2.2.symm⟩
    obtain rfl : x1 = x2 := by rw [← HM1.out, ← hM2]
    obtain ⟨vv, hvv⟩ : ∃ vv, skyV s = vv := ⟨_, rfl⟩
    rw [hvv]
    have hne : (vv != vv) = false := by simp
    have Hvv := Lib.hid hvv; clear hvv
    clear hM2 hL2 hML2
    have e5 := bA1 (w := w4) (o := .cells #[.slice X2 x1 cx2, .slice Y2 x1 cy2] 44)
    have q2 := Row.new w4 44 [.slice X2 x1 cx2, .slice Y2 x1 cy2]
    have q1 := q1.alloc (.cells #[.slice X2 x1 cx2, .slice Y2 x1 cy2] 44)
    have B5 := B4.trans (e5.mono B4.size)
    have extX := (hr1.below e5).more e5.size; clear hr1; have hr1 := extX; clear extX
    have extX := (rX1.below e5).more e5.size; clear rX1; have rX1 := extX; clear extX
    have extX := (rY1.below e5).more e5.size; clear rY1; have rY1 := extX; clear extX
    have extX := (rX2.below e5).more e5.size; clear rX2; have rX2 := extX; clear extX
    have extX := (rY2.below e5).more e5.size; clear rY2; have rY2 := extX; clear extX
    obtain ⟨d0, d1, _, _⟩ := q1.two
    obtain ⟨d2, d3, _, _⟩ := q2.two
    clear e5
    go_wp2_with fail
    refine (sameClean_yes X1 Y1 X2 Y2 x1 x1 cx1 cy1 cx2 cy2 M1 L1 _ HM1.out HL1.out hx1 hx1 rX1 rY1 rX2 rY2).mono ?_
    rintro e w6 ⟨rfl, b6⟩
    have B6 := B5.trans (b6.mono B5.size)
    have extX := (hr1.below b6).more b6.size; clear hr1; have hr1 := extX; clear extX
    have hr6 := hr1
    clear b6 d0 d1 d2 d3 q1 q2 rX1 rY1 rX2 rY2
    obtain ⟨Z, hZ⟩ : ∃ Z, List.replicate 16 (Value.int .i64 0) = Z := ⟨_, rfl⟩
    have hmk : ∀ W : World, (Instr.makeSlice 25 (.int .i64 16) (.int .i64 16)).run Try.prog W = .ok (.slice (some ⟨W.heap.size, 0, none⟩) 16 16) (W.alloc (.cells Z.toArray 3)) := fun W => by
      rw [← hZ]; exact run_make1 (P := Try.prog) 25 3 (.int .i64 0) 8 Try.underlying25 (by kernel_rfl) rfl 16 (by omega) (by omega) W
    have hzz : Z = zeros16.map (Value.int .i64) := by rw [← hZ]; unfold zeros16; rw [List.map_replicate]
    have Hzz := Lib.hid hzz
    clear hZ hzz
    go_wp2_with fail
    have g0 := Row.new w6 3 Z
    have e7 := bA1 (w := w6) (o := .cells Z.toArray 3)
    have B7 := B6.trans (e7.mono B6.size)
    have extX := (hr1.below e7).more e7.size; clear hr1; have hr1 := extX; clear extX
    rw [Hzz.out, ← cfS_zero s] at g0 B7 hr1 ⊢
    obtain ⟨W7, hW7⟩ : ∃ W7, w6.alloc (.cells ((cfS s 0).map (Value.int .i64)).toArray 3) = W7 := ⟨_, rfl⟩
    obtain ⟨G, hG⟩ : ∃ G, w6.heap.size = G := ⟨_, rfl⟩
    have hGw : w.heap.size ≤ G := by rw [← hG]; exact B6.size
    have hlt6 : ∀ b off, A1 = some ⟨b, off, none⟩ → b ≠ G ∨ s.map (Value.int .i64) = [] := fun b off e => by
      rcases rd_lt' hr6 b off e with h | h
      · exact .inl (by rw [← hG]; exact h)
      · exact .inr h
    rw [hW7] at g0 B7 hr1 ⊢
    simp only [hG] at g0 ⊢
    clear hW7 hG e7 hr6
    go_loopw [9, 10] (fun m i wr => ∃ k : Nat, k ≤ k1 ∧ i = .int .i64 k ∧ m = .int .i64 (cfN s k) ∧ Row wr G 3 ((cfS s k).map (Value.int .i64)) ∧ W7.grownBy wr (some G)) (fun _ i _ => k1 - (intOf i).toNat)
    case atStart => exact ⟨0, by omega, rfl, rfl, g0, grown_refl _ _⟩
    case round =>
      clear g0
      obtain ⟨k, hk', rfl, rfl, hrow, hgr⟩ := hrel
      have hrw := hr1.over hgr hlt6
      by_cases hlt : k < k1
      · obtain ⟨bD, oD, rfl, hbD⟩ := rd_some hrw (by rw [List.length_map, Hs.out]; omega)
        have cs := rd_cells hrw k _ (ints_at' (by rw [Hs.out]; exact hlt))
        have hstep := cfS_step s k (by omega)
        have hcn := cfN_step s k
        have hb1 := cfF_bd (s.getD k 0)
        have hb2 := cfN_bd s k
        obtain ⟨x, hx⟩ : ∃ x, s.getD k 0 = x := ⟨_, rfl⟩
        rw [hx] at cs hstep hcn hb1
        have hk16 : (k : Int) < 16 := by omega
        have cg := (hrow.cell k).trans (ints_at' (by rw [cfS_len]; omega))
        have fg := hrow.frozen k
        have Hstep := Lib.hid hstep; clear hstep
        have Hcn := Lib.hid hcn; clear hcn
        have Hx := Lib.hid hx; clear hx
        have hmn : (if (if 0 < x.tmod 50 then x.tmod 50 else 0) < 1 then (if 0 < x.tmod 50 then x.tmod 50 else 0) else 1) = if cfF x = 0 then (0 : Int) else 1 := by
          show (if cfF x < 1 then cfF x else 1) = _
          split <;> split <;> omega
        have rS := hrow.set_ k (.int .i64 (cfF x))
        rw [← List.map_set, Hstep.out] at rS
        have RS := Lib.hid (show Row (wr.setCell ⟨G, k, none⟩ (.int .i64 (if 0 < x.tmod 50 then x.tmod 50 else 0))) G 3 ((cfS s (k + 1)).map (Value.int .i64)) from rS)
        have GS := Lib.hid (grown_trans hgr (grown_set wr G k (.int .i64 (if 0 < x.tmod 50 then x.tmod 50 else 0))))
        have Hmn := Lib.hid hmn; clear hmn
        clear rS hrow hgr hrw
        go_wp2_with fail
        go_roundw
        case measure => simp [intOf]; omega
        case rel => exact ⟨k + 1, by omega, by go_num, by rw [Hmn.out, Hcn.out], RS.out, GS.out⟩
      · obtain rfl : k = k1 := by omega
        have hB8 := B7.grown hgr B7.size fun j e => by cases e; exact hGw
        have hkk := cfN_bd s k
        have hrun := full_run s k hk1
        have hfs := full_sky s k
        have hts := cfS_sky s k
        have htl := cfS_len s k
        have hdl := dirtyL_len (cfS s k) fullC
        have hdR : dirtyR (cfS s k) fullC = some (dirtyL (cfS s k) fullC) := by rw [dirtyR_eq hts fullC_cov, hfs]; rfl
        obtain ⟨N, hN⟩ : ∃ N : Nat, cfN s k = N := ⟨(cfN s k).toNat, by omega⟩
        rw [hN, Int.toNat_natCast] at hrun
        rw [hN]
        obtain ⟨T, hT⟩ : ∃ T, cfS s k = T := ⟨_, rfl⟩
        rw [hT] at hrow hrun hfs hts htl hdl hdR
        have Hrun := Lib.hid hrun; clear hrun
        have Hfs := Lib.hid hfs; clear hfs
        have Hts := Lib.hid hts; clear hts
        have Htl := Lib.hid htl; clear htl
        have Hdl := Lib.hid hdl; clear hdl
        have HdR := Lib.hid hdR; clear hdR
        have HT := Lib.hid hT; clear hT
        have HN := Lib.hid hN; clear hN
        clear hgr hrw hr1
        have h16 : (k : Int) < 16 ∨ ¬ (k : Int) < 16 := by omega
        rcases h16 with h16 | h16
        all_goals
          go_wp2_with fail
          refine (fullCover_any _).mono ?_
          rintro e w8 ⟨v, rfl, o8, b8⟩
          obtain ⟨A8, c8, rfl⟩ := own_form o8
          have B8 := hB8.trans (b8.mono hB8.size)
          have hrow := hrow.kept b8
          have h8 := Rd.of_own o8
          clear o8 b8
          go_wp2_with fail
          refine (dirtyOf_any _ A8 16 16 16 c8 T fullC _ Htl.out fullC_len (by omega) hrow.rd h8).mono ?_
          rintro e w9 ⟨v, rfl, o9, b9⟩
          rw [HdR.out] at o9 ⊢
          simp only [Option.getD_some, Option.isSome_some] at o9 ⊢
          rw [Hdl.out] at o9
          obtain ⟨A9, c9, rfl⟩ := own_form o9
          have B9 := B8.trans (b9.mono B8.size)
          have hrow := hrow.kept b9
          have O9 := Lib.hid o9
          clear o9 b9 h8
          go_wp2_with fail
          refine (fullCover_any _).mono ?_
          rintro e w10 ⟨v, rfl, o10, b10⟩
          obtain ⟨A10, c10, rfl⟩ := own_form o10
          have B10 := B9.trans (b10.mono B9.size)
          have extX := Lib.hid (own_ext O9.out b10); clear O9; have O9 := extX; clear extX
          have hrow := hrow.kept b10
          have h10 := Rd.of_own o10
          clear o10 b10
          go_wp2_with fail
          refine (beamOf_yes A10 c10 fullC _ fullC_cov h10).mono ?_
          rintro e w11 ⟨v, rfl, o11, b11⟩
          rw [fullC_beam] at o11
          obtain ⟨A11, c11, rfl⟩ := own_form o11
          have B11 := B10.trans (b11.mono B10.size)
          have extX := Lib.hid (own_ext O9.out b11); clear O9; have O9 := extX; clear extX
          have hrow := hrow.kept b11
          have O11 := Lib.hid o11
          clear o11 b11 h10
          go_wp2_with fail
          refine (cleanNew_yes A9 c9 (dirtyL T fullC) _ Hfs.out (Rd.of_own O9.out)).mono ?_
          rintro e w12 ⟨Gz, v, rfl, hGz, rz, o12, b12⟩
          obtain ⟨A12, c12, rfl⟩ := own_form o12
          have B12 := B11.trans (b12.mono B11.size)
          have extX := Lib.hid (own_ext O11.out b12); clear O11; have O11 := extX; clear extX
          have hrow := hrow.kept b12
          have O12 := Lib.hid o12
          clear o12 b12 O9
          have eX := bA1 (w := w12) (o := .cells #[.slice (some ⟨Gz, 0, none⟩) 16 16, .slice A12 16 c12] 44)
          have rX := Row.new w12 44 [.slice (some ⟨Gz, 0, none⟩) 16 16, .slice A12 16 c12]
          have B13 := B12.trans (eX.mono B12.size)
          have extX := Lib.hid (own_ext O11.out eX); clear O11; have O11 := extX; clear extX
          have extX := Lib.hid (own_ext O12.out eX); clear O12; have O12 := extX; clear extX
          have hrow := hrow.kept eX
          have rz := rz.kept eX
          clear eX
          go_wp2_with fail
          have hzs : skyV zeros16 = true := by decide +kernel
          refine (cleanRun_yes _ A12 A11 16 c12 c11 zeros16 (dirtyL T fullC) fullB _ hzs Hfs.out fullB_sky rz.rd (Rd.of_own O12.out) (Rd.of_own O11.out)).mono ?_
          rintro e w14 ⟨b14, u, v, rfl, ou, ov⟩
          rw [Hrun.out] at ou ov ⊢
          dsimp only at ou ov ⊢
          obtain ⟨Au, cu, rfl⟩ := own_form ou
          obtain ⟨Av, cv, rfl⟩ := own_form ov
          have B14 := B13.trans (b14.mono B13.size)
          have hrow := hrow.kept b14
          have rY := Row.new w14 44 [.slice Au 16 cu, .slice Av 16 cv]
          have eY := bA1 (w := w14) (o := .cells #[.slice Au 16 cu, .slice Av 16 cv] 44)
          have OU := Lib.hid ou
          have OV := Lib.hid ov
          have B15 := B14.trans (eY.mono B14.size)
          have extX := Lib.hid (own_ext OU.out eY); clear OU; have OU := extX; clear extX
          have extX := Lib.hid (own_ext OV.out eY); clear OV; have OV := extX; clear extX
          have hrow := hrow.kept eY
          obtain ⟨WX, hWX⟩ : ∃ WX, w14.alloc (.cells #[.slice Au 16 cu, .slice Av 16 cv] 44) = WX := ⟨_, rfl⟩
          obtain ⟨Y, hY⟩ : ∃ Y, w14.heap.size = Y := ⟨_, rfl⟩
          rw [hWX] at B15 OU OV hrow rY
          rw [hY] at rY
          have HWX := Lib.hid hWX
          have HYY := Lib.hid hY
          clear ou ov b14 eY rX rz O11 O12 hWX hY
          have HS1 := Lib.hid (show ∀ w', Below WX.heap.size WX w' → Calls Try.prog 17 #[.slice Au 16 cu, .slice (some ⟨G, 0, none⟩) 16 16] w' fun e w'' => e = .returned (.bool true) ∧ Below w'.heap.size w' w'' from fun w' h => by have := sameInts_any Au (some ⟨G, 0, none⟩) 16 16 cu 16 T T w' Htl.out Htl.out (by omega) (Rd.of_own (own_ext OU.out h)) (hrow.kept h).rd; rwa [decide_eq_true (rfl : T = T)] at this)
          go_wp2_with fail
          rw [HWX.out, HYY.out]
          refine wp_region_N [26, 27, 28, 29] [] (by kernel_rfl) (by kernel_rfl) ?_
          refine wpStill_go (v := .bool true) rfl rfl (stays_run fun w' h => ex_move rfl rfl) ?_
          simp only [Act.put, List.setIfInBounds_toArray, List.set_cons_succ, List.set_cons_zero, Nat.reduceAdd]
          refine wpStill_go (v := .bool true) rfl rfl (stays_run fun w' h => ex_move rfl rfl) ?_
          simp only [Act.put, List.setIfInBounds_toArray, List.set_cons_succ, List.set_cons_zero, Nat.reduceAdd]
          refine wpStill_go (v := .bool true) rfl rfl (stays_run fun w' h => ex_move rfl rfl) ?_
          simp only [Act.put, List.setIfInBounds_toArray, List.set_cons_succ, List.set_cons_zero, Nat.reduceAdd]
          refine wpStill_go (v := .bool true) rfl rfl (stays_run fun w' h => by simp [go_sem]) ?_
          simp only [Act.put, List.setIfInBounds_toArray, List.set_cons_succ, List.set_cons_zero, Nat.reduceAdd]
          refine wpStill_go (v := .bool true) rfl rfl (stays_run fun w' h => ex_move rfl rfl) ?_
          simp only [Act.put, List.setIfInBounds_toArray, List.set_cons_succ, List.set_cons_zero, Nat.reduceAdd]
          refine wpStill_go (v := .bool true) rfl rfl (stays_run fun w' h => ex_move rfl rfl) ?_
          simp only [Act.put, List.setIfInBounds_toArray, List.set_cons_succ, List.set_cons_zero, Nat.reduceAdd]
          refine wpStill_go (v := .bool true) rfl rfl (stays_run fun w' h => by simp [go_sem]) ?_
          simp only [Act.put, List.setIfInBounds_toArray, List.set_cons_succ, List.set_cons_zero, Nat.reduceAdd]
          refine wpStill_go (v := .bool true) rfl rfl (stays_run fun w' h => ex_move rfl rfl) ?_
          simp only [Act.put, List.setIfInBounds_toArray, List.set_cons_succ, List.set_cons_zero, Nat.reduceAdd]
          refine wpStill_go (v := .bool true) rfl rfl (stays_run fun w' h => ex_move rfl rfl) ?_
          simp only [Act.put, List.setIfInBounds_toArray, List.set_cons_succ, List.set_cons_zero, Nat.reduceAdd]
          refine wpStill_go (v := .bool true) rfl rfl (stays_run fun w' h => by simp [go_sem]) ?_
          simp only [Act.put, List.setIfInBounds_toArray, List.set_cons_succ, List.set_cons_zero, Nat.reduceAdd]
          refine wpStill_go (v := .bool true) rfl rfl (stays_run fun w' h => ex_move rfl rfl) ?_
          simp only [Act.put, List.setIfInBounds_toArray, List.set_cons_succ, List.set_cons_zero, Nat.reduceAdd]
          refine wpStill_go (v := .int .i64 (N : Nat)) rfl rfl (stays_run fun w' h => ex_move rfl rfl) ?_
          simp only [Act.put, List.setIfInBounds_toArray, List.set_cons_succ, List.set_cons_zero, Nat.reduceAdd]
          refine wpStill_go (v := .int .i64 (N : Nat)) rfl rfl (stays_run fun w' h => ex_move rfl rfl) ?_
          simp only [Act.put, List.setIfInBounds_toArray, List.set_cons_succ, List.set_cons_zero, Nat.reduceAdd]
          refine wpStill_go (v := .bool true) rfl rfl (stays_run fun w' h => by simp [go_sem]) ?_
          simp only [Act.put, List.setIfInBounds_toArray, List.set_cons_succ, List.set_cons_zero, Nat.reduceAdd]
          refine wpStill_go (v := .bool true) rfl rfl (stays_run fun w' h => by simp [go_sem]) ?_
          simp only [Act.put, List.setIfInBounds_toArray, List.set_cons_succ, List.set_cons_zero, Nat.reduceAdd]
          refine wpStill_go (v := .bool true) rfl rfl (stays_run fun w' h => ex_move rfl rfl) ?_
          simp only [Act.put, List.setIfInBounds_toArray, List.set_cons_succ, List.set_cons_zero, Nat.reduceAdd]
          refine wpStill_go (v := .pointer (some ⟨Y, 0, none⟩)) rfl rfl (stays_run fun w' h => by simp [go_sem]) ?_
          simp only [Act.put, List.setIfInBounds_toArray, List.set_cons_succ, List.set_cons_zero, Nat.reduceAdd]
          refine wpStill_go (v := .slice Au 16 cu) rfl rfl (stays_run fun w' h => ex_load rfl rfl (ld_one (by kernel_rfl) ((rY.kept ‹_›).cell 0))) ?_
          simp only [Act.put, List.setIfInBounds_toArray, List.set_cons_succ, List.set_cons_zero, Nat.reduceAdd]
          refine wpStill_go (v := .slice (some ⟨G, 0, none⟩) 16 16) rfl rfl (stays_run fun w' h => ex_move rfl rfl) ?_
          simp only [Act.put, List.setIfInBounds_toArray, List.set_cons_succ, List.set_cons_zero, Nat.reduceAdd]
          refine wpStill_go (v := .bool true) rfl rfl (stays_call (f := 17) (args := #[.slice Au 16 cu, .slice (some ⟨G, 0, none⟩) 16 16]) (fun w' h => by simp [go_sem]) (fun w' _ => HS1.out w' ‹_›)) ?_
          simp only [Act.put, List.setIfInBounds_toArray, List.set_cons_succ, List.set_cons_zero, Nat.reduceAdd]
          refine wpStill_go (v := .bool true) rfl rfl (stays_run fun w' h => by simp [go_sem]) ?_
          simp only [Act.put, List.setIfInBounds_toArray, List.set_cons_succ, List.set_cons_zero, Nat.reduceAdd]
          refine wpStill_go (v := .bool true) rfl rfl (stays_run fun w' h => ex_move rfl rfl) ?_
          simp only [Act.put, List.setIfInBounds_toArray, List.set_cons_succ, List.set_cons_zero, Nat.reduceAdd]
          refine wpStill_go (v := .pointer (some ⟨Y, 1, none⟩)) rfl rfl (stays_run fun w' h => by simp [go_sem]) ?_
          simp only [Act.put, List.setIfInBounds_toArray, List.set_cons_succ, List.set_cons_zero, Nat.reduceAdd]
          refine wpStill_go (v := .slice Av 16 cv) rfl rfl (stays_run fun w' h => ex_load rfl rfl (ld_one (by kernel_rfl) ((rY.kept ‹_›).cell 1))) ?_
          simp only [Act.put, List.setIfInBounds_toArray, List.set_cons_succ, List.set_cons_zero, Nat.reduceAdd]
          refine wpStill_go (v := .slice (some ⟨G, 0, none⟩) 16 16) rfl rfl (stays_run fun w' h => ex_move rfl rfl) ?_
          simp only [Act.put, List.setIfInBounds_toArray, List.set_cons_succ, List.set_cons_zero, Nat.reduceAdd]
          refine wpStill_go (v := .int .i64 16) rfl rfl (stays_run fun w' h => ex_len rfl (by kernel_rfl) rfl) ?_
          simp only [Act.put, List.setIfInBounds_toArray, List.set_cons_succ, List.set_cons_zero, Nat.reduceAdd]
          refine wpStill_skip rfl (wpStill_skip rfl (wpStill_skip rfl (wpStill_skip rfl (wpStill_nil ?_))))
          repeat (refine wpMark_skip rfl ?_)
          refine wpMark_go rfl (fun m1 hm1 K hK => ?_)
          have F1 := (Below.refl WX.heap.size WX).drew.trans hm1
          go_wp2_with fail
          have F2 := F1.alloc F1.size (.cells Z.toArray 3)
          have rZ := Row.new m1 3 Z
          refine hK _ _ (fun _ => F2) (wpMark_go rfl (fun m2 hm2 K hK => ?_))
          rw [Hzz.out] at rZ F2 hm2
          have F3 := F2.trans (hm2.mono F2.size)
          have rZ := rZ.kept hm2
          go_wp2_with fail
          refine (sameInts_any Av _ 16 16 cv 16 zeros16 zeros16 _ (by decide) (by decide) (by omega) (Rd.of_own (own_ext OV.out F3)) rZ.rd).mono ?_
          rintro e m3 ⟨rfl, b3⟩
          have F4 := F3.trans (b3.mono F3.size)
          rw [decide_eq_true (rfl : zeros16 = zeros16)]
          go_wp2_with fail
          refine hK _ _ (fun _ => F4) (wpMark_go rfl (fun m4 hm4 K hK => ?_))
          have F5 := F4.trans (hm4.mono F4.size)
          go_wp2_with fail
          refine hK _ _ (fun _ => F5) (wpMark_go rfl (fun m5 hm5 K hK => ?_))
          have F6 := F5.trans (hm5.mono F5.size)
          go_wp2_with fail
          refine hK _ _ (fun _ => F6) (wpMark_nil fun V hV => ?_)
          have hV := F6.trans (hV.mono F6.size)
          simp only [onlyN, Exit.then]
          have bV := B15.trans (hV.mono B15.size)
          clear hV F1 F2 F3 F4 F5 F6 rZ rY hrow
          go_wp2_with fail
          go_ret
          exact ⟨rfl, bV⟩
  · have hnb : (1048576 : Int) < (n : Int) := by omega
    go_enter Try.func9, Try.ntmps9
    go_wp2_with fail
    go_ret
    exact ⟨rfl, Below.refl _ _⟩
end Go.Proofs.Ytfandpgjlahnpaa
