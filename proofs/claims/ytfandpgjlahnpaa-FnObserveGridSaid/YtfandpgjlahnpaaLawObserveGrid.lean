/- FnObserveGrid returns true at every input, and leaves what was there. -/
import Derived.Test.YtfandpgjlahnpaaLawGrid
import Derived.Test.YtfandpgjlahnpaaLawGridBase
import Derived.Test.YtfandpgjlahnpaaDirty
import Derived.Test.YtfandpgjlahnpaaTrack
import Derived.Test.YtfandpgjlahnpaaObsT
namespace Go.Proofs.Ytfandpgjlahnpaa
open Go.RowKit

set_option maxHeartbeats 400000 in
theorem gridMask_yes (A B : Option Addr) (ca cb : Nat) (g : List (Int × Int)) (c : List Bool) (w : World) (hg : g.length = 16) (hc : c.length = 16) (hv : allV g = true) (hcv : covV c = true) (hr : Rd w w.heap.size A (g.flatMap pairCells)) (hr2 : Rd w w.heap.size B (c.map Value.bool)) :
    Calls Try.prog 47 #[.slice A 16 ca, .slice B 16 cb] w fun e w' => ∃ G, e = .returned (.tuple #[.slice (some ⟨G, 0, none⟩) 16 16, .bool true]) ∧ w.heap.size ≤ G ∧ Row w' G 31 ((maskG g c).flatMap pairCells) ∧ Below w.heap.size w w' := by
  have Hg := Lib.hid hg; clear hg
  have Hc := Lib.hid hc; clear hc
  have Hv := Lib.hid hv; clear hv
  have Hcv := Lib.hid hcv; clear hcv
  go_enter Try.func47, Try.ntmps47
  go_wp2_with fail
  refine (gridValid_any A ca g _ Hg.out hr).mono ?_
  rintro e w1 ⟨rfl, b1⟩
  rw [Hv.out]
  have extX := (hr.below b1).more b1.size; clear hr; have hr := extX; clear extX
  have extX := (hr2.below b1).more b1.size; clear hr2; have hr2 := extX; clear extX
  go_wp2_with fail
  refine (coverValid_any B 16 cb c _ _ Hc.out hr2).mono ?_
  rintro e w2 ⟨rfl, rfl⟩
  rw [Hcv.out]
  go_wp2_with fail
  refine (masked_any A B ca cb g c _ Hg.out Hc.out hr hr2).mono ?_
  rintro e w3 ⟨rfl, r3, b3⟩
  go_wp2_with fail
  go_ret2
  exact ⟨w1.heap.size, rfl, b1.size, r3, b1.trans (b3.mono b1.size)⟩

set_option maxRecDepth 100000 in
set_option maxHeartbeats 1000000 in
theorem FnObserveGrid_walk (w : World) (A : Option Addr) (n cap : Nat) (bs : List Int) (hn : bs.length = n) (hm : n ≤ 9223372036854775807) (hr : Rd w w.heap.size A (bs.map (Value.int .u8))) (hw : ∀ x ∈ bs, (Lit.int .u8 x).wf = true) (hk : n ≤ cap) :
    Calls Try.prog 6 #[.slice A n cap] w fun e w' => e = .returned (.bool true) ∧ Below w.heap.size w w' := by
  have Hbs := Lib.hid (bytesOk_of hw); clear hw
  by_cases hb : n ≤ 1048576
  · have hnb : ¬ (1048576 : Int) < (n : Int) := by omega
    go_enter Try.func6, Try.ntmps6
    go_wp2_with fail
    refine (drawObserveOf_any A n cap bs w hn hm hk Hbs.out hr).mono ?_
    rintro e w1 ⟨A1, k1, c1, ants, A2, k2, c2, s, rfl, ha, hk1, hkc, hr1, hs, hk2, hr2, B1⟩
    have Ha := Lib.hid ha; clear ha
    have Hs := Lib.hid hs; clear hs
    clear hr hn
    go_wp2_with fail
    refine (observeOf_any A1 A2 k1 k2 c1 c2 ants s _ Ha.out Hs.out hkc (by omega) (by omega) hr1 hr2).mono ?_
    rintro e w2 ⟨v, rfl, o2, b2⟩
    have B2 := B1.trans (b2.mono B1.size)
    have extX := (hr1.below b2).more b2.size; clear hr1; have hr1 := extX; clear extX
    have extX := (hr2.below b2).more b2.size; clear hr2; have hr2 := extX; clear extX
    obtain ⟨A3, c3, rfl⟩ := own_form o2
    have O2 := Lib.hid o2
    clear o2 b2
    go_wp2_with fail
    refine (sObserveOf_any A1 A2 k1 k2 c1 c2 ants s _ Ha.out Hs.out (by omega) (by omega) hr1 hr2).mono ?_
    rintro e w3 ⟨v, rfl, o3, b3⟩
    have B3 := B2.trans (b3.mono B2.size)
    have extX := (hr1.below b3).more b3.size; clear hr1; have hr1 := extX; clear extX
    have extX := (hr2.below b3).more b3.size; clear hr2; have hr2 := extX; clear extX
    have extX := Lib.hid (own_ext O2.out b3); clear O2; have O2 := extX; clear extX
    obtain ⟨A4, c4, rfl⟩ := own_form o3
    have O3 := Lib.hid o3
    clear o3 b3
    have hLb := obsR_len ants s
    obtain ⟨L, hL⟩ : ∃ L, (obsR ants s).length = L := ⟨_, rfl⟩
    obtain ⟨S, hS⟩ : ∃ S, obsR ants s = S := ⟨_, rfl⟩
    have hSL : S.length = L := by rw [← hS]; exact hL
    have O2 := O2.out
    have O3 := O3.out
    rw [hL, hS] at O2 O3
    rw [hL] at hLb ⊢
    have hidX := Lib.hid O2; clear O2; have O2 := hidX; clear hidX
    have hidX := Lib.hid O3; clear O3; have O3 := hidX; clear hidX
    have HSL := Lib.hid hSL; clear hSL
    have HL := Lib.hid hL; clear hL
    have HS := Lib.hid hS; clear hS
    obtain ⟨ok, hok⟩ : ∃ ok, (arrV ants && skyV s) = ok := ⟨_, rfl⟩
    rw [hok]
    have hne : (ok != ok) = false := by simp
    have Hok := Lib.hid hok
    clear hok
    go_wp2_with fail
    refine (sameGrid_any A3 A4 L L c3 c4 S S _ HSL.out HSL.out (by omega) (Rd.of_own O2.out) (Rd.of_own O3.out)).mono ?_
    rintro e w4 ⟨rfl, b4⟩
    have B4 := B3.trans (b4.mono B3.size)
    have extX := (hr1.below b4).more b4.size; clear hr1; have hr1 := extX; clear extX
    have extX := (hr2.below b4).more b4.size; clear hr2; have hr2 := extX; clear extX
    have extX := Lib.hid (own_ext O2.out b4); clear O2; have O2 := extX; clear extX
    have extX := Lib.hid (own_ext O3.out b4); clear O3; have O3 := extX; clear extX
    clear b4
    rw [decide_eq_true (rfl : S = S)]
    cases ok
    · go_wp2_with fail
      refine (sameGrid_any A3 A4 L L c3 c4 S S _ HSL.out HSL.out (by omega) (Rd.of_own O2.out) (Rd.of_own O3.out)).mono ?_
      rintro e w5 ⟨rfl, b5⟩
      rw [decide_eq_true (rfl : S = S)]
      go_wp2_with fail
      go_ret
      exact ⟨rfl, B4.trans (b5.mono B4.size)⟩
    · obtain ⟨hva, hvs⟩ := Bool.and_eq_true_iff.1 Hok.out
      have han := arrV_len hva
      rw [Ha.out] at han
      obtain rfl : k2 = 16 := by rw [← Hs.out]; exact skyV_len hvs
      have hSo : S = obsL ants s := by rw [← HS.out]; exact obsR_yes hva hvs
      have hLp : L = (pairsN k1).length := by rw [← HSL.out, hSo, obsL_len, Ha.out]
      have hL1 : 1 ≤ L := by rw [hLp]; exact pairs_pos k1 han.1 han.2
      have HSo := Lib.hid hSo; clear hSo
      have Hva := Lib.hid hva; clear hva
      have Hvs := Lib.hid hvs; clear hvs
      have HLp := Lib.hid hLp; clear hLp
      go_wp2_with fail
      refine (coverOf_yes A1 k1 c1 ants _ Ha.out hkc Hva.out hr1).mono ?_
      rintro e w5 ⟨G, rfl, hG, r5, b5⟩
      have B5 := B4.trans (b5.mono B4.size)
      have extX := (hr1.below b5).more b5.size; clear hr1; have hr1 := extX; clear extX
      have extX := (hr2.below b5).more b5.size; clear hr2; have hr2 := extX; clear extX
      have extX := Lib.hid (own_ext O2.out b5); clear O2; have O2 := extX; clear extX
      clear b5
      go_wp2_with fail
      refine (skyTransform_yes A2 c2 s _ Hvs.out hr2).mono ?_
      rintro e w6 ⟨T, rfl, hT, r6, b6⟩
      have B6 := B5.trans (b6.mono B5.size)
      have extX := (hr1.below b6).more b6.size; clear hr1; have hr1 := extX; clear extX
      have extX := Lib.hid (own_ext O2.out b6); clear O2; have O2 := extX; clear extX
      have r5 := r5.kept b6
      clear b6 hr2
      have hval : allV (skyT s) = true := List.all_eq_true.2 fun y hy => gv_iff.2 (gLe_mono (gLe_skyT Hvs.out) (by omega) y hy)
      have Hval := Lib.hid hval; clear hval
      go_wp2_with fail
      refine (gridMask_yes _ _ 16 16 (skyT s) (covL ants) _ (skyT_len s) (covL_len ants) Hval.out (covV_cov ants) r6.rd r5.rd).mono ?_
      rintro e w7 ⟨X, rfl, hX, r7, b7⟩
      have B7 := B6.trans (b7.mono B6.size)
      have extX := (hr1.below b7).more b7.size; clear hr1; have hr1 := extX; clear extX
      have extX := Lib.hid (own_ext O2.out b7); clear O2; have O2 := extX; clear extX
      clear b7 r6 r5
      go_wp2_with fail
      refine (observeGrid_any A1 A3 k1 c1 L c3 ants S _ Ha.out HSL.out hkc (by omega) (by omega) hr1 (Rd.of_own O2.out)).mono ?_
      rintro e w8 ⟨b8, v, rfl, o8⟩
      have hgR : gridR ants S = some (maskG (skyT s) (covL ants)) := by
        rw [HSo.out, gridR_yes Hva.out (obsV_obs Hva.out Hvs.out), gridO_obs]
      rw [hgR] at o8 ⊢
      simp only [Option.getD_some, maskG_len] at o8
      obtain ⟨A8, c8, rfl⟩ := own_form o8
      have r7 := r7.kept b8
      have B8 := B7.trans (b8.mono B7.size)
      have HgR := Lib.hid hgR; clear hgR
      have O8 := Lib.hid o8; clear o8
      clear b8 hr1
      go_wp2_with fail
      refine (sameGrid_any _ A8 16 16 16 c8 (maskG (skyT s) (covL ants)) (maskG (skyT s) (covL ants)) _ (maskG_len _ _) (maskG_len _ _) (by omega) r7.rd (Rd.of_own O8.out)).mono ?_
      rintro e w9 ⟨rfl, b9⟩
      rw [decide_eq_true (rfl : maskG (skyT s) (covL ants) = maskG (skyT s) (covL ants))]
      go_wp2_with fail
      go_ret
      exact ⟨rfl, B8.trans (b9.mono B8.size)⟩
  · have hnb : (1048576 : Int) < (n : Int) := by omega
    go_enter Try.func6, Try.ntmps6
    go_wp2_with fail
    go_ret
    exact ⟨rfl, Below.refl _ _⟩
end Go.Proofs.Ytfandpgjlahnpaa
