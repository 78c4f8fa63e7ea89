/- 'spec.CleanRun' out of range, and 'spec.l51Clean'. -/
import Derived.Test.YtipgpafgampfbaaGreatDoorSRun
import Derived.Test.YtipgpafgampfbaaGreatDoorCovS
import Derived.Test.YtipgpafgampfbaaGreatDoorAskS
import Derived.Test.YtipgpafgampfbaaGreatDoorDirtyT
namespace Go.Proofs.YtipgpafgampfbaaGreatDoor
open Go.RowKit
/-- A number of steps out of range. -/
theorem sCleanRun_out (A B D : Option Addr) (ca cb cd : Nat) (m : Int) (M L b : List Int) (w : World) (hm : inR m 0 200 = false) (hM : skyV M = true) (hL : skyV L = true) (hb : skyV b = true) (hr : Rd w w.heap.size A (M.map (Value.int .i64))) (hr2 : Rd w w.heap.size B (L.map (Value.int .i64))) (hr3 : Rd w w.heap.size D (b.map (Value.int .i64))) :
    Calls Tryz.prog 168 #[.agg #[.slice A 16 ca, .slice B 16 cb], .slice D 16 cd, .int .i64 m] w fun e w' => e = .returned (.tuple #[.agg #[.slice none 0 0, .slice none 0 0], .int .i64 0, .bool false]) ∧ Below w.heap.size w w' := by
  have lM := skyV_len hM
  have lL := skyV_len hL
  have lb := skyV_len hb
  have rB := (Row.new w 43 [.slice A 16 ca, .slice B 16 cb]).alloc (.cells #[.slice none 0 0, .slice none 0 0] 43)
  have rR := Row.new (w.alloc (.cells #[.slice A 16 ca, .slice B 16 cb] 43)) 43 [.slice none 0 0, .slice none 0 0]
  rw [World.size_alloc] at rR
  have b0 := bA2 (w := w) (o := .cells #[.slice A 16 ca, .slice B 16 cb] 43) (o' := .cells #[.slice none 0 0, .slice none 0 0] 43)
  have hr := hr.ext b0
  have hr2 := hr2.ext b0
  have hr3 := hr3.ext b0
  obtain ⟨c0, c1, _, _⟩ := rB.two
  have HM := Lib.hid hM; clear hM
  have HL := Lib.hid hL; clear hL
  have Hb := Lib.hid hb; clear hb
  have LM := Lib.hid lM; clear lM
  have LL := Lib.hid lL; clear lL
  have Lb := Lib.hid lb; clear lb
  have Hm := Lib.hid hm; clear hm
  go_enter Tryz.func168, Tryz.ntmps168
  go_wp2_with fail
  refine (l24Valid_any A B ca cb M L _ LM.out LL.out hr hr2).mono ?_
  rintro e w1 ⟨rfl, b1⟩
  rw [HM.out, HL.out]
  have B1 := b0.trans (b1.mono b0.size)
  have extX := (hr3.below b1).more b1.size; clear hr3; have hr3 := extX; clear extX
  have rR := rR.kept b1
  obtain ⟨q0, q1, q2, q3⟩ := rR.two
  clear b1 c0 c1
  go_wp2_with fail
  refine (sSkyValid_any _ 16 cd b _ Lb.out (by omega) hr3).mono ?_
  rintro e w2 ⟨rfl, rfl⟩
  rw [Hb.out]
  go_wp2_with fail
  refine (l6In_any m 0 200 _).mono ?_
  rintro e w2 ⟨rfl, rfl⟩
  rw [Hm.out]
  go_wp2_with fail
  exact bodyPost_ret (v := .tuple #[.agg #[.slice none 0 0, .slice none 0 0], .int .i64 0, .bool false]) (by simp [results, Tryz.results168, go_sem, q0, q1]) rfl ⟨rfl, (B1.setCell (p := ⟨w.heap.size + 1, 0, none⟩) (by show w.heap.size ≤ w.heap.size + 1; omega) _).setCell (p := ⟨w.heap.size + 1, 1, none⟩) (by show w.heap.size ≤ w.heap.size + 1; omega) _⟩

theorem cleanB_none {xs : List (Int × Int)} {s : List Int} {m : Int} (h : dirtyR s (covL xs) = none) : cleanB (xs, s) m = oNo := by unfold cleanB; dsimp only; rw [h]
theorem cleanB_out {xs : List (Int × Int)} {s : List Int} {m : Int} (h : inR m 0 200 = false) : cleanB (xs, s) m = oNo := by
  unfold cleanB
  split
  · rfl
  · rw [h]; rfl
theorem cleanB_in {xs : List (Int × Int)} {s d : List Int} {m : Int} (h : dirtyR s (covL xs) = some d) (hm : inR m 0 200 = true) :
    cleanB (xs, s) m = ((skyStr (cleanIter (beamL (covL xs)) m.toNat (zeros16, d)).1.1 ++ oSteps) ++ Lib.itoa ((cleanIter (beamL (covL xs)) m.toNat (zeros16, d)).2 : Nat)) ++ [10] := by
  unfold cleanB; dsimp only; rw [h]; simp [hm]
set_option maxRecDepth 100000 in
set_option maxHeartbeats 1000000 in
theorem l51Clean_any (A B : Option Addr) (n ca cb : Nat) (xs : List (Int × Int)) (s : List Int) (m : Int) (w : World) (hn : xs.length = n) (hv : arrV xs = true) (hs : skyV s = true) (hr : Rd w w.heap.size A (xs.flatMap pairCells)) (hr2 : Rd w w.heap.size B (s.map (Value.int .i64))) :
    Calls Tryz.prog 140 #[.agg #[.slice A n ca, .slice B 16 cb], .int .i64 m] w fun e w' => e = .returned (.string ⟨(cleanB (xs, s) m).toArray⟩) ∧ Below w.heap.size w w' := by
  have rS := Row.new w 83 [.slice A n ca, .slice B 16 cb]
  have B0 := bA1 (w := w) (o := .cells #[.slice A n ca, .slice B 16 cb] 83)
  have hr := hr.ext B0
  have hr2 := hr2.ext B0
  have hl16 := skyV_len hs
  have hcl := covL_len xs
  have hcv := covV_cov xs
  obtain ⟨c, hc⟩ : ∃ c, covL xs = c := ⟨_, rfl⟩
  rw [hc] at hcl hcv
  obtain ⟨R, hR⟩ : ∃ R, cleanB (xs, s) m = R := ⟨_, rfl⟩
  rw [hR]
  obtain ⟨c0, c1, _, _⟩ := rS.two
  have HR := Lib.hid hR; clear hR
  have Hn := Lib.hid hn; clear hn
  have Hv := Lib.hid hv; clear hv
  have Hs := Lib.hid hs; clear hs
  have Hl16 := Lib.hid hl16; clear hl16
  have Hcl := Lib.hid hcl; clear hcl
  have Hcv := Lib.hid hcv; clear hcv
  have Hc := Lib.hid hc; clear hc
  go_enter Tryz.func140, Tryz.ntmps140
  go_wp2_with fail
  refine (sCoverOf_yes A n ca xs _ Hn.out Hv.out hr).mono ?_
  rintro e w1 ⟨gc, rfl, hgc, rC, b1⟩
  rw [Hc.out] at rC
  have B1 := B0.trans (b1.mono B0.size)
  have extX := (hr2.below b1).more b1.size; clear hr2; have hr2 := extX; clear extX
  have rS := rS.kept b1
  obtain ⟨c0, c1, _, _⟩ := rS.two
  clear b1 hr
  have hbeam := sBeamOf_any (some ⟨gc, 0, none⟩) 16 16 c w1 Hcl.out rC.rd
  rw [Hcv.out, beamR_yes Hcv.out, beamL_len] at hbeam
  have hbv := skyV_beam Hcv.out
  obtain ⟨bm, hbm⟩ : ∃ bm, beamL c = bm := ⟨_, rfl⟩
  rw [hbm] at hbeam hbv
  have Hbv := Lib.hid hbv; clear hbv
  have Hbm := Lib.hid hbm; clear hbm
  go_wp2_with fail
  refine hbeam.mono ?_
  rintro e w2 ⟨v, rfl, oB, b2⟩
  obtain ⟨Ab, cbm, rfl⟩ := own_form oB
  have rY := Rd.of_own oB
  have B2 := B1.trans (b2.mono B1.size)
  have extX := (hr2.below b2).more b2.size; clear hr2; have hr2 := extX; clear extX
  have rS := rS.kept b2
  have rC := rC.kept b2
  obtain ⟨c0, c1, _, _⟩ := rS.two
  clear b2 hbeam oB
  have hdirty := sDirtyOf_any B (some ⟨gc, 0, none⟩) 16 16 cb 16 s c w2 Hl16.out Hcl.out (by omega) hr2 rC.rd
  go_wp2_with fail
  refine hdirty.mono ?_
  rintro e w3 ⟨v, rfl, oD, b3⟩
  have B3 := B2.trans (b3.mono B2.size)
  have extX := (rY.below b3).more b3.size; clear rY; have rY := extX; clear extX
  have rS := rS.kept b3
  obtain ⟨c0, c1, _, _⟩ := rS.two
  clear b3 hdirty rC hr2
  cases hD : dirtyR s c with
  | none =>
    (try rw [hD] at oD)
    have e : R = oNo := HR.out.symm.trans (cleanB_none (by rw [Hc.out]; exact hD))
    subst e
    have HD := Lib.hid hD; clear hD
    clear oD
    go_wp2_with fail
    go_ret
    exact ⟨rfl, B3⟩
  | some d =>
    have hD0 : dirtyR s (covL xs) = some d := by rw [Hc.out]; exact hD
    (try rw [hD] at oD)
    have hdv := (dirtyR_some hD).1
    have hdl := skyV_len hdv
    simp only [Option.getD_some, Option.isSome_some, hdl] at oD ⊢
    obtain ⟨Ad, cd, rfl⟩ := own_form oD
    have rD := Rd.of_own oD
    have HD := Lib.hid hD; clear hD
    have Hdv := Lib.hid hdv; clear hdv
    have Hdl := Lib.hid hdl; clear hdl
    have HD0 := Lib.hid hD0; clear hD0
    clear oD
    go_wp2_with fail
    refine (sCleanNew_yes Ad cd d _ Hdv.out rD).mono ?_
    rintro e w4 ⟨G, v, rfl, hG, rG, oL, b4⟩
    obtain ⟨AL, cL, rfl⟩ := own_form oL
    have rL := Rd.of_own oL
    obtain ⟨bB, oB, rfl, hbB⟩ := rd_some rL (by rw [List.length_map, Hdl.out]; omega)
    have rZ := rG.rd
    have B4 := B3.trans (b4.mono B3.size)
    have extX := (rY.below b4).more b4.size; clear rY; have rY := extX; clear extX
    have rS := rS.kept b4
    clear b4 oL rG rD c0 c1
    have X0 := bA1 (w := w4) (o := .cells #[.slice (some ⟨G, 0, none⟩) 16 16, .slice (some ⟨bB, oB, none⟩) 16 cL] 43)
    have rX := Row.new w4 43 [.slice (some ⟨G, 0, none⟩) 16 16, .slice (some ⟨bB, oB, none⟩) 16 cL]
    have extX := (rZ.below X0).more X0.size; clear rZ; have rZ := extX; clear extX
    have extX := (rL.below X0).more X0.size; clear rL; have rL := extX; clear extX
    have extX := (rY.below X0).more X0.size; clear rY; have rY := extX; clear extX
    obtain ⟨x0, x1, _, _⟩ := rX.two
    have B5 := B4.trans (X0.mono B4.size)
    have hz16 : skyV zeros16 = true := by decide +kernel
    clear X0
    cases him : inR m 0 200
    · have e : R = oNo := HR.out.symm.trans (cleanB_out him)
      subst e
      have Him := Lib.hid him; clear him
      go_wp2_with fail
      refine (sCleanRun_out _ _ Ab 16 cL cbm m zeros16 d bm _ Him.out hz16 Hdv.out Hbv.out rZ rL rY).mono ?_
      rintro e w5 ⟨rfl, b5⟩
      have B6 := B5.trans (b5.mono B5.size)
      clear b5
      have B7 := B6.trans ((bA1 (w := w5) (o := .cells #[.slice none 0 0, .slice none 0 0] 43)).mono B6.size)
      go_wp2_with fail
      go_ret
      exact ⟨rfl, B7⟩
    · have him2 := inR_iff.1 him
      obtain ⟨k, rfl⟩ : ∃ k : Nat, m = k := ⟨m.toNat, by omega⟩
      have e := HR.out.symm.trans (cleanB_in HD0.out him)
      rw [Hc.out, Hbm.out, Int.toNat_natCast] at e
      have hit := cleanIter_valid (b := bm) k (zeros16, d) hz16
      have hil := cleanIter_le (b := bm) k (zeros16, d)
      have hrun := sCleanRun_all G 0 bB oB Ab 16 cL cbm k zeros16 d bm _ (by omega) hz16 Hdv.out Hbv.out rZ rL rY
      obtain ⟨⟨⟨m1, l1⟩, k1⟩, hst⟩ : ∃ st, cleanIter bm k (zeros16, d) = st := ⟨_, rfl⟩
      rw [hst] at e hit hil hrun
      dsimp only at e hit hil hrun
      have hml := skyV_len hit
      have hsl := skyStr_small m1
      have hk200 : k1 ≤ 200 := by omega
      have hil := itoa_small (n := (k1 : Nat)) (by omega)
      have E := Lib.hid e; clear e
      have Hst := Lib.hid hst; clear hst
      have Him := Lib.hid him; clear him
      have Hit := Lib.hid hit; clear hit
      have Hml := Lib.hid hml; clear hml
      have Hrun := Lib.hid hrun
      clear hrun
      go_wp2_with fail
      refine Hrun.out.mono ?_
      rintro e w5 ⟨b5, u, v, rfl, ou, ov⟩
      obtain ⟨Au, cu, rfl⟩ := own_form ou
      obtain ⟨Av, cv, rfl⟩ := own_form ov
      have rU := Rd.of_own ou
      have B6 := B5.trans (b5.mono B5.size)
      clear b5 ou ov Hrun x0 x1 rX
      have X1 := bA1 (w := w5) (o := .cells #[.slice Au 16 cu, .slice Av 16 cv] 43)
      have rX := Row.new w5 43 [.slice Au 16 cu, .slice Av 16 cv]
      have extX := (rU.below X1).more X1.size; clear rU; have rU := extX; clear extX
      obtain ⟨x0, x1, _, _⟩ := rX.two
      have B7 := B6.trans (X1.mono B6.size)
      clear X1
      go_wp2_with fail
      refine (sSkyText_any Au 16 cu m1 _ Hml.out (by omega) rU).mono ?_
      rintro e w6 ⟨rfl, b6⟩
      have B8 := B7.trans (b6.mono B7.size)
      clear b6 x0 x1 rX
      have hs1 : ¬ 9223372036854775807 < (skyStr m1).length + 6 := by omega
      have hs2 : ¬ 9223372036854775807 < (skyStr m1).length + 6 + (Lib.itoa (k1 : Nat)).length := by omega
      have hs3 : ¬ 9223372036854775807 < (skyStr m1).length + 6 + (Lib.itoa (k1 : Nat)).length + 1 := by omega
      go_wp2_with fail
      refine (sDec_any (k1 : Nat) (by omega) _).mono ?_
      rintro e w7 ⟨rfl, b7⟩
      have B9 := B8.trans (b7.mono B8.size)
      clear b7
      go_wp2_with fail
      go_ret
      exact ⟨by rw [E.out, ← str_app, ← str_app, ← str_app]; rfl, B9⟩
end Go.Proofs.YtipgpafgampfbaaGreatDoor
