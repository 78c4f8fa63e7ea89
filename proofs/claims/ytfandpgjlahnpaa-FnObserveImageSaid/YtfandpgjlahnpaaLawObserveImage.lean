/- FnObserveImage returns true at every input, and leaves what was there. -/
import Derived.Test.YtfandpgjlahnpaaImg
import Derived.Test.YtfandpgjlahnpaaTrack
import Derived.Test.YtfandpgjlahnpaaObsT
namespace Go.Proofs.Ytfandpgjlahnpaa
open Go.RowKit

set_option maxRecDepth 100000 in
set_option maxHeartbeats 1000000 in
theorem FnObserveImage_walk (w : World) (A : Option Addr) (n cap : Nat) (bs : List Int) (hn : bs.length = n) (hm : n ≤ 9223372036854775807) (hr : Rd w w.heap.size A (bs.map (Value.int .u8))) (hw : ∀ x ∈ bs, (Lit.int .u8 x).wf = true) (hk : n ≤ cap) :
    Calls Try.prog 10 #[.slice A n cap] w fun e w' => e = .returned (.bool true) ∧ Below w.heap.size w w' := by
  have Hbs := Lib.hid (bytesOk_of hw); clear hw
  by_cases hb : n ≤ 1048576
  · have hnb : ¬ (1048576 : Int) < (n : Int) := by omega
    go_enter Try.func10, Try.ntmps10
    go_wp2_with fail
    refine (drawObserveOf_any A n cap bs w hn hm hk Hbs.out hr).mono ?_
    rintro e w1 ⟨A1, k1, c1, ants, A2, k2, c2, s, rfl, ha, hk1, hkc, hr1, hs, hk2, hr2, B1⟩
    have Ha := Lib.hid ha; clear ha
    have Hs := Lib.hid hs; clear hs
    clear hr hn
    go_wp2_with fail
    refine (observeOf_any A1 A2 k1 k2 c1 c2 ants s _ Ha.out Hs.out hkc (by omega) (by omega) hr1 hr2).mono ?_
    rintro e w2 ⟨v, rfl, o2, b2⟩
    have B2 := B1.trans (b2.mono B1.size)
    have extX := (hr1.below b2).more b2.size; clear hr1; have hr1 := extX; clear extX
    have extX := (hr2.below b2).more b2.size; clear hr2; have hr2 := extX; clear extX
    obtain ⟨A3, c3, rfl⟩ := own_form o2
    have O2 := Lib.hid o2
    clear o2 b2
    go_wp2_with fail
    refine (sObserveOf_any A1 A2 k1 k2 c1 c2 ants s _ Ha.out Hs.out (by omega) (by omega) hr1 hr2).mono ?_
    rintro e w3 ⟨v, rfl, o3, b3⟩
    have B3 := B2.trans (b3.mono B2.size)
    have extX := (hr1.below b3).more b3.size; clear hr1; have hr1 := extX; clear extX
    have extX := (hr2.below b3).more b3.size; clear hr2; have hr2 := extX; clear extX
    have extX := Lib.hid (own_ext O2.out b3); clear O2; have O2 := extX; clear extX
    obtain ⟨A4, c4, rfl⟩ := own_form o3
    have O3 := Lib.hid o3
    clear o3 b3
    have hLb := obsR_len ants s
    obtain ⟨L, hL⟩ : ∃ L, (obsR ants s).length = L := ⟨_, rfl⟩
    obtain ⟨S, hS⟩ : ∃ S, obsR ants s = S := ⟨_, rfl⟩
    have hSL : S.length = L := by rw [← hS]; exact hL
    have O2 := O2.out
    have O3 := O3.out
    rw [hL, hS] at O2 O3
    rw [hL] at hLb ⊢
    have hidX := Lib.hid O2; clear O2; have O2 := hidX; clear hidX
    have hidX := Lib.hid O3; clear O3; have O3 := hidX; clear hidX
    have HSL := Lib.hid hSL; clear hSL
    have HL := Lib.hid hL; clear hL
    have HS := Lib.hid hS; clear hS
    obtain ⟨ok, hok⟩ : ∃ ok, (arrV ants && skyV s) = ok := ⟨_, rfl⟩
    rw [hok]
    have hne : (ok != ok) = false := by simp
    have Hok := Lib.hid hok
    clear hok
    go_wp2_with fail
    refine (sameGrid_any A3 A4 L L c3 c4 S S _ HSL.out HSL.out (by omega) (Rd.of_own O2.out) (Rd.of_own O3.out)).mono ?_
    rintro e w4 ⟨rfl, b4⟩
    have B4 := B3.trans (b4.mono B3.size)
    have extX := (hr1.below b4).more b4.size; clear hr1; have hr1 := extX; clear extX
    have extX := (hr2.below b4).more b4.size; clear hr2; have hr2 := extX; clear extX
    have extX := Lib.hid (own_ext O2.out b4); clear O2; have O2 := extX; clear extX
    have extX := Lib.hid (own_ext O3.out b4); clear O3; have O3 := extX; clear extX
    clear b4
    rw [decide_eq_true (rfl : S = S)]
    cases ok
    · go_wp2_with fail
      refine (sameGrid_any A3 A4 L L c3 c4 S S _ HSL.out HSL.out (by omega) (Rd.of_own O2.out) (Rd.of_own O3.out)).mono ?_
      rintro e w5 ⟨rfl, b5⟩
      rw [decide_eq_true (rfl : S = S)]
      go_wp2_with fail
      go_ret
      exact ⟨rfl, B4.trans (b5.mono B4.size)⟩
    · obtain ⟨hva, hvs⟩ := Bool.and_eq_true_iff.1 Hok.out
      have han := arrV_len hva
      rw [Ha.out] at han
      obtain rfl : k2 = 16 := by rw [← Hs.out]; exact skyV_len hvs
      have hSo : S = obsL ants s := by rw [← HS.out]; exact obsR_yes hva hvs
      have hLp : L = (pairsN k1).length := by rw [← HSL.out, hSo, obsL_len, Ha.out]
      have hL1 : 1 ≤ L := by rw [hLp]; exact pairs_pos k1 han.1 han.2
      have HSo := Lib.hid hSo; clear hSo
      have Hva := Lib.hid hva; clear hva
      have Hvs := Lib.hid hvs; clear hvs
      have HLp := Lib.hid hLp; clear hLp
      go_wp2_with fail
      refine (coverOf_yes A1 k1 c1 ants _ Ha.out hkc Hva.out hr1).mono ?_
      rintro e w5 ⟨G, rfl, hG, r5, b5⟩
      have B5 := B4.trans (b5.mono B4.size)
      have extX := (hr1.below b5).more b5.size; clear hr1; have hr1 := extX; clear extX
      have extX := (hr2.below b5).more b5.size; clear hr2; have hr2 := extX; clear extX
      have extX := Lib.hid (own_ext O2.out b5); clear O2; have O2 := extX; clear extX
      clear b5
      have hgR : gridR ants S = some (maskG (skyT s) (covL ants)) := by
        rw [HSo.out, gridR_yes Hva.out (obsV_obs Hva.out Hvs.out), gridO_obs]
      have hEq : dirtyR s (covL ants) = imgR ants S := by
        rw [imgR_eq hgR, dirtyR_eq Hvs.out (covV_cov ants), dirty_image]
      clear hgR
      have HEq := Lib.hid hEq; clear hEq
      go_wp2_with fail
      refine (dirtyOf_any A2 _ 16 16 c2 16 s (covL ants) _ Hs.out (covL_len ants) (by omega) hr2 r5.rd).mono ?_
      rintro e w6 ⟨v, rfl, o6, b6⟩
      have B6 := B5.trans (b6.mono B5.size)
      have extX := (hr1.below b6).more b6.size; clear hr1; have hr1 := extX; clear extX
      have extX := Lib.hid (own_ext O2.out b6); clear O2; have O2 := extX; clear extX
      obtain ⟨A6, c6, rfl⟩ := own_form o6
      rw [HEq.out] at o6 ⊢
      have O6 := Lib.hid o6
      clear o6 b6 r5 hr2
      go_wp2_with fail
      refine (observeImage_any A1 A3 k1 c1 L c3 ants S _ Ha.out HSL.out hkc (by omega) (by omega) hr1 (Rd.of_own O2.out)).mono ?_
      rintro e w7 ⟨v, rfl, o7, b7⟩
      have B7 := B6.trans (b7.mono B6.size)
      have extX := Lib.hid (own_ext O6.out b7); clear O6; have O6 := extX; clear extX
      obtain ⟨A7, c7, rfl⟩ := own_form o7
      have O7 := Lib.hid o7
      clear o7 b7 hr1
      obtain ⟨I, hI⟩ : ∃ I, (imgR ants S).getD [] = I := ⟨_, rfl⟩
      obtain ⟨q, hq⟩ : ∃ q, (imgR ants S).isSome = q := ⟨_, rfl⟩
      have O6 := O6.out
      have O7 := O7.out
      rw [hI] at O6 O7 ⊢
      rw [hq]
      have hIl : I.length ≤ 16 := by
        rw [← hI]
        unfold imgR
        cases gridR ants S with
        | none => simp
        | some g => simp only [Option.bind_some]; split <;> simp [imageL_len]
      have hqq : (q == q) = true := by simp
      have hidX := Lib.hid O6; clear O6; have O6 := hidX; clear hidX
      have hidX := Lib.hid O7; clear O7; have O7 := hidX; clear hidX
      have HI := Lib.hid hI; clear hI
      have Hq := Lib.hid hq; clear hq
      go_wp2_with fail
      refine (sameInts_any A6 A7 I.length I.length c6 c7 I I _ rfl rfl (by omega) (Rd.of_own O6.out) (Rd.of_own O7.out)).mono ?_
      rintro e w9 ⟨rfl, b9⟩
      rw [decide_eq_true (rfl : I = I)]
      go_wp2_with fail
      go_ret
      exact ⟨rfl, B7.trans (b9.mono B7.size)⟩
  · have hnb : (1048576 : Int) < (n : Int) := by omega
    go_enter Try.func10, Try.ntmps10
    go_wp2_with fail
    go_ret
    exact ⟨rfl, Below.refl _ _⟩
end Go.Proofs.Ytfandpgjlahnpaa
