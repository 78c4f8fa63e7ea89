/- FnExecuteClean returns true at every input, and leaves what was there. -/
import Derived.Test.YtipgpafgampfbaaGreatDoorExeU
import Derived.Test.YtipgpafgampfbaaGreatDoorExeI
import Derived.Test.YtipgpafgampfbaaGreatDoorDrawE
import Derived.Test.YtipgpafgampfbaaGreatDoorCovS
import Derived.Test.YtipgpafgampfbaaGreatDoorRunC
import Derived.Test.YtipgpafgampfbaaGreatDoorRunU
import Derived.Test.YtipgpafgampfbaaGreatDoorTied
namespace Go.Proofs.YtipgpafgampfbaaGreatDoor
open Go.RowKit

set_option maxRecDepth 100000 in
set_option maxHeartbeats 1000000 in
theorem FnExecuteClean_walk (w : World) (hL : laidMet Tryz.prog Rows.fnExecuteCleanRow.laid w) (hS : w.ShapedOpen Tryz.prog) (A : Option Addr) (n cap : Nat) (bs : List Int) (hn : bs.length = n) (hm : n ≤ 9223372036854775807) (hr : Rd w w.heap.size A (bs.map (Value.int .u8))) (hw : ∀ x ∈ bs, (Lit.int .u8 x).wf = true) (hk : n ≤ cap) (C : Option Addr) (nC capC : Nat) (ms : List Int) (_ : ms.length = nC) (_ : nC ≤ 9223372036854775807) (_ : Rd w w.heap.size C (ms.map (Value.int .u8))) (_ : ∀ x ∈ ms, (Lit.int .u8 x).wf = true) (_ : nC ≤ capC) :
    Calls Tryz.prog 9 #[.slice A n cap, .slice C nC capC] w fun e w' => e = .returned (.bool true) ∧ Below w.heap.size w w' := by
  have Hbs := Lib.hid (bytesOk_of hw); clear hw
  have Ht := Lib.hid (tab_third hL); clear hL
  by_cases hb : n ≤ 1048576 ∧ nC ≤ 1048576
  · obtain ⟨hb, hbC⟩ := hb
    have hnb : ¬ (1048576 : Int) < (n : Int) := by omega
    have hnbC : ¬ (1048576 : Int) < (nC : Int) := by omega
    obtain ⟨i, hi0⟩ : ∃ i : Nat, nC % 16 = i := ⟨_, rfl⟩
    have hi16 : i < 16 := by omega
    have hiI : (nC : Int) % 16 = (i : Int) := by omega
    obtain ⟨m, hm0⟩ : ∃ m : Int, (1 : Int) + (nC : Int) % 90 = m := ⟨_, rfl⟩
    have hm90 : 1 ≤ m ∧ m ≤ 90 := by omega
    clear hi0
    obtain ⟨x, hxI⟩ : ∃ x : Int, (i : Int) % 4 = x := ⟨_, rfl⟩
    obtain ⟨y, hyI⟩ : ∃ y : Int, (i : Int) / 4 = y := ⟨_, rfl⟩
    have hx3 : 0 ≤ x ∧ x ≤ 3 := by omega
    have hy3 : 0 ≤ y ∧ y ≤ 3 := by omega
    have HiI := Lib.hid hiI
    have Hm0 := Lib.hid hm0
    have HxI := Lib.hid hxI
    have HyI := Lib.hid hyI
    clear hiI hm0 hxI hyI
    go_enter Tryz.func9, Tryz.ntmps9
    go_wp2_with fail
    refine (drawCoverOf_any A n cap bs w hn hm hk Hbs.out hr).mono ?_
    rintro e w1 ⟨A1, k1, c1, xs, rfl, hx, hk1, hkc, hr1, B1⟩
    have Hx := Lib.hid hx; clear hx
    clear hr hn
    cases hv : arrV xs
    · have Hv := Lib.hid hv; clear hv
      go_wp2_with fail
      refine (coverOf_no A1 k1 c1 xs _ Hx.out hkc (by omega) Hv.out hr1).mono ?_
      rintro e w2 ⟨rfl, b2⟩
      have B2 := B1.trans (b2.mono B1.size)
      have extX := (hr1.below b2).more b2.size; clear hr1; have hr1 := extX; clear extX
      clear b2
      go_wp2_with fail
      refine (sCoverOf_no A1 k1 c1 xs _ Hx.out (by omega) Hv.out hr1).mono ?_
      rintro e w3 ⟨D, d, rfl, b3⟩
      have B3 := B2.trans (b3.mono B2.size)
      clear b3
      go_wp2_with fail
      refine (sameFlags_eq none D 0 0 d [] _ rfl (by omega) (Rd.nil _ _ _) (Rd.nil _ _ _)).mono ?_
      rintro e w4 ⟨rfl, b4⟩
      have B4 := B3.trans (b4.mono B3.size)
      clear b4
      go_wp2_with fail
      refine (sameFlags_eq none D 0 0 d [] _ rfl (by omega) (Rd.nil _ _ _) (Rd.nil _ _ _)).mono ?_
      rintro e w5 ⟨rfl, b5⟩
      have B5 := B4.trans (b5.mono B4.size)
      clear b5
      go_wp2_with fail
      go_ret
      exact ⟨rfl, B5⟩
    · have hl := arrV_len hv
      have hg : gLe 1000000 xs := fun x h => by have := arrV_gLe hv x h; omega
      have hvs := skyV_spot i m hi16 (by omega)
      have hdv := skyV_dirty_spot (covL xs) i m hi16 (by omega)
      have hdR : dirtyR (spotL i m) (covL xs) = some (dirtyL (spotL i m) (covL xs)) := by rw [dirtyR_eq hvs (covV_cov xs), hdv]; rfl
      have hlaw := law_clean hv i m x y hi16 hm90 HxI.out HyI.out _ hdR
      have hxl := Hx.out
      rw [hxl] at hlaw hl
      have hsm := antsB_small hg
      rw [hxl] at hsm
      have ol := oksB_len k1
      have el := endB_small k1 (by omega)
      have hcv := covV_cov xs
      have hcl := covL_len xs
      have hbl : (beamL (covL xs)).length = 16 := by unfold beamL; simp
      have hbr := beamR_yes hcv
      have hbv := skyV_beam hcv
      obtain ⟨c, hc⟩ : ∃ c, covL xs = c := ⟨_, rfl⟩
      rw [hc] at hlaw hcl hcv hbl hbr hdv hdR hbv
      have hsl := spotL_len i m
      have hDl := dirtyL_len (spotL i m) c
      obtain ⟨D, hD⟩ : ∃ D, dirtyL (spotL i m) c = D := ⟨_, rfl⟩
      rw [hD] at hlaw hdv hdR hDl
      obtain ⟨b, hbb⟩ : ∃ b, beamL c = b := ⟨_, rfl⟩
      rw [hbb] at hlaw hbl hbr hbv
      have hz16 : skyV zeros16 = true := by decide +kernel
      have hst := cleanIter_le (b := b) 5 (zeros16, D)
      have hmv := skyV_len (cleanIter_valid (b := b) 5 (zeros16, D) hz16)
      obtain ⟨st, hs5⟩ : ∃ st, cleanIter b 5 (zeros16, D) = st := ⟨_, rfl⟩
      rw [hs5] at hlaw hst hmv
      obtain ⟨⟨M5, L5⟩, s5⟩ := st
      dsimp only at hlaw hst hmv
      have zl := skyStr_small D
      have yl := skyStr_small M5
      obtain ⟨z, hz⟩ : ∃ z, skyStr D = z := ⟨_, rfl⟩
      rw [hz] at hlaw zl
      obtain ⟨q, hq⟩ : ∃ q, skyStr M5 = q := ⟨_, rfl⟩
      rw [hq] at hlaw yl
      obtain ⟨t1, ht1⟩ : ∃ t1, antsB xs = t1 := ⟨_, rfl⟩
      rw [ht1] at hlaw hsm
      obtain ⟨out, ho⟩ : ∃ out, exeB (t1 ++ (cellLn x y m ++ [10, 100, 105, 114, 116, 121, 10, 99, 108, 101, 97, 110, 32, 53, 10])) = out := ⟨_, rfl⟩
      rw [ho] at hlaw
      have Hlaw := Lib.hid hlaw; clear hlaw
      have Hv := Lib.hid hv; clear hv
      have Ht1 := Lib.hid ht1; clear ht1
      have Ho := Lib.hid ho; clear ho
      have Hz := Lib.hid hz; clear hz
      have Hc := Lib.hid hc; clear hc
      have Hbb := Lib.hid hbb; clear hbb
      have Hq := Lib.hid hq; clear hq
      have Hcv := Lib.hid hcv; clear hcv
      have Hcl := Lib.hid hcl; clear hcl
      have Hbl := Lib.hid hbl; clear hbl
      have Hbr := Lib.hid hbr; clear hbr
      have HD := Lib.hid hD; clear hD
      have HdR := Lib.hid hdR; clear hdR
      have Hdv := Lib.hid hdv; clear hdv
      have Hs5 := Lib.hid hs5; clear hs5
      have Hbv := Lib.hid hbv; clear hbv
      have Hsl := Lib.hid hsl; clear hsl
      have Hvs := Lib.hid hvs; clear hvs
      have Hz16 := Lib.hid hz16; clear hz16
      have HDl := Lib.hid hDl; clear hDl
      have Hmv := Lib.hid hmv; clear hmv
      clear hxl
      go_wp2_with fail
      refine (coverOf_yes A1 k1 c1 xs _ Hx.out hkc Hv.out hr1).mono ?_
      rintro e w2 ⟨g1, rfl, hg1, rG, b2⟩
      rw [Hc.out] at rG
      have B2 := B1.trans (b2.mono B1.size)
      have extX := (hr1.below b2).more b2.size; clear hr1; have hr1 := extX; clear extX
      clear b2
      go_wp2_with fail
      refine (sCoverOf_yes A1 k1 c1 xs _ Hx.out Hv.out hr1).mono ?_
      rintro e w3 ⟨g2, rfl, hg2, rG2, b3⟩
      rw [Hc.out] at rG2
      have B3 := B2.trans (b3.mono B2.size)
      have extX := (hr1.below b3).more b3.size; clear hr1; have hr1 := extX; clear extX
      have rC := (rG.kept b3).rd
      have rC2 := rG2.rd
      clear b3 rG rG2
      go_wp2_with fail
      refine (sameFlags_eq (some ⟨g1, 0, none⟩) (some ⟨g2, 0, none⟩) 16 16 16 c _ Hcl.out (by omega) rC rC2).mono ?_
      rintro e w4 ⟨rfl, b4⟩
      have B4 := B3.trans (b4.mono B3.size)
      have extX := (hr1.below b4).more b4.size; clear hr1; have hr1 := extX; clear extX
      have extX := (rC.below b4).more b4.size; clear rC; have rC := extX; clear extX
      clear b4 rC2
      go_wp2_with fail
      rw [Hm0.out, HiI.out]
      refine (spot_any i m _ hi16).mono ?_
      rintro e w5 ⟨rfl, r5, b5⟩
      have B5 := B4.trans (b5.mono B4.size)
      have extX := (hr1.below b5).more b5.size; clear hr1; have hr1 := extX; clear extX
      have extX := (rC.below b5).more b5.size; clear rC; have rC := extX; clear extX
      clear b5
      go_wp2_with fail
      refine (beamOf_any (some ⟨g1, 0, none⟩) 16 16 c _ Hcl.out rC).mono ?_
      rintro e w6 ⟨v, rfl, o6, b6⟩
      rw [Hcv.out]
      rw [Hbr.out, Hbl.out] at o6
      obtain ⟨A6, c6, rfl⟩ := own_form o6
      have rY := Rd.of_own o6
      have B6 := B5.trans (b6.mono B5.size)
      have rS := (r5.kept b6).rd
      have extX := (hr1.below b6).more b6.size; clear hr1; have hr1 := extX; clear extX
      have extX := (rC.below b6).more b6.size; clear rC; have rC := extX; clear extX
      clear o6 b6 r5
      go_wp2_with fail
      refine (dirtyOf_any _ _ 16 16 16 16 (spotL i m) c _ Hsl.out Hcl.out (by omega) rS rC).mono ?_
      rintro e w7 ⟨v, rfl, o7, b7⟩
      rw [HdR.out] at o7 ⊢
      simp only [Option.getD_some, HDl.out, Option.isSome_some] at o7 ⊢
      obtain ⟨A7, c7, rfl⟩ := own_form o7
      have rD := Rd.of_own o7
      have B7 := B6.trans (b7.mono B6.size)
      have extX := (hr1.below b7).more b7.size; clear hr1; have hr1 := extX; clear extX
      have extX := (rY.below b7).more b7.size; clear rY; have rY := extX; clear extX
      clear o7 b7 rS rC
      go_wp2_with fail
      refine (cleanNew_yes A7 c7 D _ Hdv.out rD).mono ?_
      rintro e w8 ⟨G, v, rfl, hG, r8, o8, b8⟩
      obtain ⟨A8, c8, rfl⟩ := own_form o8
      have rL := Rd.of_own o8
      have rZ := r8.rd
      have B8 := B7.trans (b8.mono B7.size)
      have extX := (hr1.below b8).more b8.size; clear hr1; have hr1 := extX; clear extX
      have extX := (rY.below b8).more b8.size; clear rY; have rY := extX; clear extX
      have extX := (rD.below b8).more b8.size; clear rD; have rD := extX; clear extX
      clear o8 b8 r8
      go_wp2_with fail
      have e9 := bA1 (w := w8) (o := .cells #[.slice (some ⟨G, 0, none⟩) 16 16, .slice A8 16 c8] 43)
      have B9 := B8.trans (e9.mono B8.size)
      have extX := (hr1.below e9).more e9.size; clear hr1; have hr1 := extX; clear extX
      have extX := (rY.below e9).more e9.size; clear rY; have rY := extX; clear extX
      have extX := (rD.below e9).more e9.size; clear rD; have rD := extX; clear extX
      have extX := (rL.below e9).more e9.size; clear rL; have rL := extX; clear extX
      have extX := (rZ.below e9).more e9.size; clear rZ; have rZ := extX; clear extX
      clear e9
      obtain ⟨W9, hW9⟩ : ∃ W9, w8.alloc (.cells #[.slice (some ⟨G, 0, none⟩) 16 16, .slice A8 16 c8] 43) = W9 := ⟨_, rfl⟩
      rw [hW9] at hr1 rY rD rL rZ B9 ⊢
      clear hW9
      refine (cleanRun_all _ _ _ _ _ _ 5 zeros16 D b _ (by omega) Hz16.out Hdv.out Hbv.out rZ rL rY).mono ?_
      rintro e w10 ⟨b10, u, v, rfl, ou, ov⟩
      rw [Hs5.out] at ou ov ⊢
      dsimp only at ou ov ⊢
      obtain ⟨Au, cu, rfl⟩ := own_form ou
      obtain ⟨Av, cv, rfl⟩ := own_form ov
      have rM := Rd.of_own ou
      have B10 := B9.trans (b10.mono B9.size)
      have extX := (hr1.below b10).more b10.size; clear hr1; have hr1 := extX; clear extX
      have extX := (rD.below b10).more b10.size; clear rD; have rD := extX; clear extX
      clear ou ov b10 rZ rL rY
      go_wp2_with fail
      have rC := Row.new w10 43 [.slice Au 16 cu, .slice Av 16 cv]
      have e11 := bA1 (w := w10) (o := .cells #[.slice Au 16 cu, .slice Av 16 cv] 43)
      have B11 := B10.trans (e11.mono B10.size)
      have extX := (hr1.below e11).more e11.size; clear hr1; have hr1 := extX; clear extX
      have extX := (rD.below e11).more e11.size; clear rD; have rD := extX; clear extX
      have extX := (rM.below e11).more e11.size; clear rM; have rM := extX; clear extX
      clear e11
      obtain ⟨W11, hW11⟩ : ∃ W11, w10.alloc (.cells #[.slice Au 16 cu, .slice Av 16 cv] 43) = W11 := ⟨_, rfl⟩
      obtain ⟨g11, hg11⟩ : ∃ g11, w10.heap.size = g11 := ⟨_, rfl⟩
      rw [hW11] at hr1 rD rM rC B11 ⊢
      rw [hg11] at rC ⊢
      clear hW11 hg11
      refine (antLines_any A1 k1 c1 xs _ Hx.out (by omega) hg hr1).mono ?_
      rintro e w12 ⟨rfl, b12⟩
      rw [Ht1.out]
      have B12 := B11.trans (b12.mono B11.size)
      have rC := rC.kept b12
      have extX := (rD.below b12).more b12.size; clear rD; have rD := extX; clear extX
      have extX := (rM.below b12).more b12.size; clear rM; have rM := extX; clear extX
      clear b12
      have l1 := itoa_small (n := x) (by omega)
      have l2 := itoa_small (n := y) (by omega)
      have l3 := itoa_small (n := m) (by omega)
      have l4 := itoa_small (n := (s5 : Int)) (by omega)
      go_wp2_with fail
      rw [HxI.out]
      have n1 : ¬ 9223372036854775807 < t1.length + 5 := by omega
      have n2 : ¬ 9223372036854775807 < t1.length + 5 + (Lib.itoa x).length := by omega
      have n3 : ¬ 9223372036854775807 < t1.length + 5 + (Lib.itoa x).length + 1 := by omega
      have n4 : ¬ 9223372036854775807 < t1.length + 5 + (Lib.itoa x).length + 1 + (Lib.itoa y).length := by omega
      have n5 : ¬ 9223372036854775807 < t1.length + 5 + (Lib.itoa x).length + 1 + (Lib.itoa y).length + 1 := by omega
      have n6 : ¬ 9223372036854775807 < t1.length + 5 + (Lib.itoa x).length + 1 + (Lib.itoa y).length + 1 + (Lib.itoa m).length := by omega
      have n7 : ¬ 9223372036854775807 < t1.length + 5 + (Lib.itoa x).length + 1 + (Lib.itoa y).length + 1 + (Lib.itoa m).length + 15 := by omega
      refine (digits_any x (by omega) _).mono ?_
      rintro e w13 ⟨rfl, b13⟩
      have B13 := B12.trans (b13.mono B12.size)
      have rC := rC.kept b13
      have extX := (rD.below b13).more b13.size; clear rD; have rD := extX; clear extX
      have extX := (rM.below b13).more b13.size; clear rM; have rM := extX; clear extX
      clear b13
      go_wp2_with fail
      rw [HyI.out]
      refine (digits_any y (by omega) _).mono ?_
      rintro e w14 ⟨rfl, b14⟩
      have B14 := B13.trans (b14.mono B13.size)
      have rC := rC.kept b14
      have extX := (rD.below b14).more b14.size; clear rD; have rD := extX; clear extX
      have extX := (rM.below b14).more b14.size; clear rM; have rM := extX; clear extX
      clear b14
      go_wp2_with fail
      refine (digits_any m (by omega) _).mono ?_
      rintro e w15 ⟨rfl, b15⟩
      have B15 := B14.trans (b15.mono B14.size)
      have rC := rC.kept b15
      have extX := (rD.below b15).more b15.size; clear rD; have rD := extX; clear extX
      have extX := (rM.below b15).more b15.size; clear rM; have rM := extX; clear extX
      clear b15
      have eT : (⟨t1.toArray⟩ ++ ⟨#[99, 101, 108, 108, 32]⟩ ++ ⟨(Lib.itoa x).toArray⟩ ++ ⟨#[32]⟩ ++ ⟨(Lib.itoa y).toArray⟩ ++ ⟨#[32]⟩ ++ ⟨(Lib.itoa m).toArray⟩ ++ ⟨#[10, 100, 105, 114, 116, 121, 10, 99, 108, 101, 97, 110, 32, 53, 10]⟩ : ByteArray) = ⟨(t1 ++ (cellLn x y m ++ [10, 100, 105, 114, 116, 121, 10, 99, 108, 101, 97, 110, 32, 53, 10])).toArray⟩ := by
        rw [show t1 ++ (cellLn x y m ++ [10, 100, 105, 114, 116, 121, 10, 99, 108, 101, 97, 110, 32, 53, 10]) = t1 ++ [99, 101, 108, 108, 32] ++ Lib.itoa x ++ [32] ++ Lib.itoa y ++ [32] ++ Lib.itoa m ++ [10, 100, 105, 114, 116, 121, 10, 99, 108, 101, 97, 110, 32, 53, 10] by unfold cellLn; simp [wCell], ← str_app, ← str_app, ← str_app, ← str_app, ← str_app, ← str_app, ← str_app]
      have ET := Lib.hid eT; clear eT
      go_wp2_with fail
      rw [ET.out]
      clear n1 n2 n3 n4 n5 n6 n7
      refine wp_region_N [] [] (by kernel_rfl) (by kernel_rfl) ?_
      refine wpStill_go (v := .slice A1 k1 c1) rfl rfl (stays_run fun w' h => ex_move rfl rfl) ?_
      simp only [Act.put, List.setIfInBounds_toArray, List.set_cons_succ, List.set_cons_zero]
      refine wpStill_go (v := .string ⟨(oksB k1).toArray⟩) rfl rfl (stays_call (f := 24) (args := #[.slice A1 k1 c1]) (fun w' h => by simp [go_sem]) (fun w' _ => okLines_any A1 k1 c1 w' (by omega))) ?_
      simp only [Act.put, List.setIfInBounds_toArray, List.set_cons_succ, List.set_cons_zero]
      refine wpStill_go (v := .string ⟨(oksB k1 ++ oOk).toArray⟩) rfl rfl (stays_run fun w' h => by exact ex_addS rfl (by kernel_rfl) rfl rfl (by simp [oOk]; omega)) ?_
      simp only [Act.put, List.setIfInBounds_toArray, List.set_cons_succ, List.set_cons_zero]
      refine wpStill_go (v := .slice A7 16 c7) rfl rfl (stays_run fun w' h => ex_move rfl rfl) ?_
      simp only [Act.put, List.setIfInBounds_toArray, List.set_cons_succ, List.set_cons_zero]
      refine wpStill_go (v := .string ⟨z.toArray⟩) rfl rfl (stays_call (f := 26) (args := #[.slice A7 16 c7]) (fun w' h => by simp [go_sem]) (fun w' _ => by rw [← Hz.out]; exact skyText_any A7 16 c7 D w' HDl.out (by omega) (rD.ext ‹_›) ((Ht.out.ext B15).ext ‹_›))) ?_
      simp only [Act.put, List.setIfInBounds_toArray, List.set_cons_succ, List.set_cons_zero]
      refine wpStill_go (v := .string ⟨((oksB k1 ++ oOk) ++ z).toArray⟩) rfl rfl (stays_run fun w' h => by exact ex_addS rfl (by kernel_rfl) rfl rfl (by simp [oOk]; omega)) ?_
      simp only [Act.put, List.setIfInBounds_toArray, List.set_cons_succ, List.set_cons_zero]
      refine wpStill_go (v := .pointer (some ⟨g11, 0, none⟩)) rfl rfl (stays_run fun w' h => by simp [go_sem]) ?_
      simp only [Act.put, List.setIfInBounds_toArray, List.set_cons_succ, List.set_cons_zero]
      refine wpStill_go (v := .slice Au 16 cu) rfl rfl (stays_run fun w' h => ex_load rfl rfl (ld_one (by kernel_rfl) ((rC.kept ‹_›).cell 0))) ?_
      simp only [Act.put, List.setIfInBounds_toArray, List.set_cons_succ, List.set_cons_zero]
      refine wpStill_go (v := .string ⟨q.toArray⟩) rfl rfl (stays_call (f := 26) (args := #[.slice Au 16 cu]) (fun w' h => by simp [go_sem]) (fun w' _ => by rw [← Hq.out]; exact skyText_any Au 16 cu M5 w' Hmv.out (by omega) (rM.ext ‹_›) ((Ht.out.ext B15).ext ‹_›))) ?_
      simp only [Act.put, List.setIfInBounds_toArray, List.set_cons_succ, List.set_cons_zero]
      refine wpStill_go (v := .string ⟨(((oksB k1 ++ oOk) ++ z) ++ q).toArray⟩) rfl rfl (stays_run fun w' h => by exact ex_addS rfl (by kernel_rfl) rfl rfl (by simp [oOk]; omega)) ?_
      simp only [Act.put, List.setIfInBounds_toArray, List.set_cons_succ, List.set_cons_zero]
      refine wpStill_go (v := .string ⟨((((oksB k1 ++ oOk) ++ z) ++ q) ++ oSteps).toArray⟩) rfl rfl (stays_run fun w' h => by exact ex_addS rfl (by kernel_rfl) rfl rfl (by simp [oOk, oSteps]; omega)) ?_
      simp only [Act.put, List.setIfInBounds_toArray, List.set_cons_succ, List.set_cons_zero]
      refine wpStill_go (v := .int .i64 (s5 : Nat)) rfl rfl (stays_run fun w' h => ex_move rfl rfl) ?_
      simp only [Act.put, List.setIfInBounds_toArray, List.set_cons_succ, List.set_cons_zero]
      refine wpStill_go (v := .string ⟨(Lib.itoa (s5 : Nat)).toArray⟩) rfl rfl (stays_call (f := 37) (args := #[.int .i64 (s5 : Nat)]) (fun w' h => by simp [go_sem]) (fun w' _ => digits_any (s5 : Nat) (by omega) w')) ?_
      simp only [Act.put, List.setIfInBounds_toArray, List.set_cons_succ, List.set_cons_zero]
      refine wpStill_go (v := .string ⟨(((((oksB k1 ++ oOk) ++ z) ++ q) ++ oSteps) ++ Lib.itoa (s5 : Nat)).toArray⟩) rfl rfl (stays_run fun w' h => by exact ex_addS rfl (by kernel_rfl) rfl rfl (by simp [oOk, oSteps]; omega)) ?_
      simp only [Act.put, List.setIfInBounds_toArray, List.set_cons_succ, List.set_cons_zero]
      refine wpStill_go (v := .string ⟨((((((oksB k1 ++ oOk) ++ z) ++ q) ++ oSteps) ++ Lib.itoa (s5 : Nat)) ++ [10]).toArray⟩) rfl rfl (stays_run fun w' h => by exact ex_addS rfl (by kernel_rfl) rfl rfl (by simp [oOk, oSteps]; omega)) ?_
      simp only [Act.put, List.setIfInBounds_toArray, List.set_cons_succ, List.set_cons_zero]
      refine wpStill_go (v := .slice A1 k1 c1) rfl rfl (stays_run fun w' h => ex_move rfl rfl) ?_
      simp only [Act.put, List.setIfInBounds_toArray, List.set_cons_succ, List.set_cons_zero]
      refine wpStill_go (v := .int .i64 k1) rfl rfl (stays_run fun w' h => by simp [go_sem]) ?_
      simp only [Act.put, List.setIfInBounds_toArray, List.set_cons_succ, List.set_cons_zero]
      refine wpStill_go (v := .string ⟨(endB k1).toArray⟩) rfl rfl (stays_call (f := 25) (args := #[.int .i64 k1]) (fun w' h => by simp [go_sem]) (fun w' _ => endLine_any k1 w' (by omega))) ?_
      simp only [Act.put, List.setIfInBounds_toArray, List.set_cons_succ, List.set_cons_zero]
      refine wpStill_go (v := .string ⟨out.toArray⟩) rfl rfl (stays_run fun w' h => by rw [Hlaw.out]; exact ex_addS rfl (by kernel_rfl) rfl rfl (by simp [oOk, oSteps]; omega)) ?_
      simp only [Act.put, List.setIfInBounds_toArray, List.set_cons_succ, List.set_cons_zero]
      refine wpStill_go (v := .string ⟨out.toArray⟩) rfl rfl (stays_run fun w' h => by simp [go_sem]) ?_
      simp only [Act.put, List.setIfInBounds_toArray, List.set_cons_succ, List.set_cons_zero]
      refine wpStill_nil ?_
      repeat (refine wpMark_skip rfl ?_)
      refine wpMark_nil fun w16 h16 => ?_
      simp only [onlyN, Exit.then]
      have B16 := B15.trans (((Below.refl _ w15).drew.trans h16).mono B15.size)
      clear h16 rC rD rM
      go_wp2_with fail
      refine (execute_all _ _ (Ht.out.ext B16) (shapedB hS B16)).mono ?_
      rintro e w17 ⟨rfl, b17⟩
      rw [Ho.out]
      have B17 := B16.trans (b17.mono B16.size)
      clear b17
      go_wp2_with fail
      go_ret
      exact ⟨by simp, B17⟩
  · have hnb : (1048576 : Int) < (n : Int) ∨ (1048576 : Int) < (nC : Int) := by omega
    go_enter Tryz.func9, Tryz.ntmps9
    rcases hnb with h | h
    · go_wp2_with fail
      go_ret
      exact ⟨rfl, Below.refl _ _⟩
    · by_cases h2 : (1048576 : Int) < (n : Int)
      · go_wp2_with fail
        go_ret
        exact ⟨rfl, Below.refl _ _⟩
      · go_wp2_with fail
        go_ret
        exact ⟨rfl, Below.refl _ _⟩
end Go.Proofs.YtipgpafgampfbaaGreatDoor
