/- FnObserveSame returns true at every input, and leaves what was there. -/
import Derived.Test.YtcllkocmnohnkaaLawObs
import Derived.Test.YtcllkocmnohnkaaTrack
namespace Go.Proofs.Ytcllkocmnohnkaa
open Go.RowKit

theorem obs_holes (ants : List (Int × Int)) (s : List Int) : obsL ants (addS s (beamL (holesC (covL ants))) 1) = obsL ants s := by
  unfold obsL
  refine List.map_congr_left fun p hp => ?_
  have hv := covV_cov ants
  have hc : (covL ants).getD (vecC ants p.1 p.2) false = true := (covL_get _ _ (vecC_lt _ _ _)).2 ⟨p, hp, .inl rfl⟩
  have hh : (holesC (covL ants)).getD (vecC ants p.1 p.2) false = false := by rw [holesC_get (covL_len ants) _ (vecC_lt _ _ _), hc]; rfl
  rw [skyT_add _ _ _ _ (vecC_lt _ _ _), skyT_beam (covV_holes hv) _ (vecC_lt _ _ _), hh]
  simp

set_option maxRecDepth 100000 in
set_option maxHeartbeats 1000000 in
theorem FnObserveSame_walk (w : World) (A : Option Addr) (n cap : Nat) (bs : List Int) (hn : bs.length = n) (hm : n ≤ 9223372036854775807) (hr : Rd w w.heap.size A (bs.map (Value.int .u8))) (hw : ∀ x ∈ bs, (Lit.int .u8 x).wf = true) (hk : n ≤ cap) :
    Calls Try.prog 20 #[.slice A n cap] w fun e w' => e = .returned (.bool true) ∧ Below w.heap.size w w' := by
  have Hbs := Lib.hid (bytesOk_of hw); clear hw
  by_cases hb : n ≤ 1048576
  · have hnb : ¬ (1048576 : Int) < (n : Int) := by omega
    go_enter Try.func20, Try.ntmps20
    go_wp2_with fail
    refine (drawObserveOf_any A n cap bs w hn hm hk Hbs.out hr).mono ?_
    rintro e w1 ⟨A1, k1, c1, ants, A2, k2, c2, s, rfl, ha, hk1, hkc, hr1, hs, hk2, hr2, B1⟩
    have Ha := Lib.hid ha; clear ha
    have Hs := Lib.hid hs; clear hs
    clear hr hn
    go_wp2_with fail
    refine (observeOf_any A1 A2 k1 k2 c1 c2 ants s _ Ha.out Hs.out hkc (by omega) (by omega) hr1 hr2).mono ?_
    rintro e w2 ⟨v, rfl, o2, b2⟩
    have B2 := B1.trans (b2.mono B1.size)
    have extX := (hr1.below b2).more b2.size; clear hr1; have hr1 := extX; clear extX
    have extX := (hr2.below b2).more b2.size; clear hr2; have hr2 := extX; clear extX
    obtain ⟨A3, c3, rfl⟩ := own_form o2
    have O2 := Lib.hid o2
    clear o2 b2
    go_wp2_with fail
    refine (sObserveOf_any A1 A2 k1 k2 c1 c2 ants s _ Ha.out Hs.out (by omega) (by omega) hr1 hr2).mono ?_
    rintro e w3 ⟨v, rfl, o3, b3⟩
    have B3 := B2.trans (b3.mono B2.size)
    have extX := (hr1.below b3).more b3.size; clear hr1; have hr1 := extX; clear extX
    have extX := (hr2.below b3).more b3.size; clear hr2; have hr2 := extX; clear extX
    have extX := Lib.hid (own_ext O2.out b3); clear O2; have O2 := extX; clear extX
    obtain ⟨A4, c4, rfl⟩ := own_form o3
    have O3 := Lib.hid o3
    clear o3 b3
    have hLb := obsR_len ants s
    obtain ⟨L, hL⟩ : ∃ L, (obsR ants s).length = L := ⟨_, rfl⟩
    obtain ⟨S, hS⟩ : ∃ S, obsR ants s = S := ⟨_, rfl⟩
    have hSL : S.length = L := by rw [← hS]; exact hL
    have O2 := O2.out
    have O3 := O3.out
    rw [hL, hS] at O2 O3
    rw [hL] at hLb ⊢
    have hidX := Lib.hid O2; clear O2; have O2 := hidX; clear hidX
    have hidX := Lib.hid O3; clear O3; have O3 := hidX; clear hidX
    have HSL := Lib.hid hSL; clear hSL
    have HL := Lib.hid hL; clear hL
    have HS := Lib.hid hS; clear hS
    obtain ⟨ok, hok⟩ : ∃ ok, (arrV ants && skyV s) = ok := ⟨_, rfl⟩
    rw [hok]
    have hne : (ok != ok) = false := by simp
    have Hok := Lib.hid hok
    clear hok
    go_wp2_with fail
    refine (sameGrid_any A3 A4 L L c3 c4 S S _ HSL.out HSL.out (by omega) (Rd.of_own O2.out) (Rd.of_own O3.out)).mono ?_
    rintro e w4 ⟨rfl, b4⟩
    have B4 := B3.trans (b4.mono B3.size)
    have extX := (hr1.below b4).more b4.size; clear hr1; have hr1 := extX; clear extX
    have extX := (hr2.below b4).more b4.size; clear hr2; have hr2 := extX; clear extX
    have extX := Lib.hid (own_ext O2.out b4); clear O2; have O2 := extX; clear extX
    have extX := Lib.hid (own_ext O3.out b4); clear O3; have O3 := extX; clear extX
    clear b4
    rw [decide_eq_true (rfl : S = S)]
    cases ok
    · go_wp2_with fail
      refine (sameGrid_any A3 A4 L L c3 c4 S S _ HSL.out HSL.out (by omega) (Rd.of_own O2.out) (Rd.of_own O3.out)).mono ?_
      rintro e w5 ⟨rfl, b5⟩
      rw [decide_eq_true (rfl : S = S)]
      go_wp2_with fail
      go_ret
      exact ⟨rfl, B4.trans (b5.mono B4.size)⟩
    · obtain ⟨hva, hvs⟩ := Bool.and_eq_true_iff.1 Hok.out
      have han := arrV_len hva
      rw [Ha.out] at han
      obtain rfl : k2 = 16 := by rw [← Hs.out]; exact skyV_len hvs
      have hSo : S = obsL ants s := by rw [← HS.out]; exact obsR_yes hva hvs
      have hLp : L = (pairsN k1).length := by rw [← HSL.out, hSo, obsL_len, Ha.out]
      have hL1 : 1 ≤ L := by rw [hLp]; exact pairs_pos k1 han.1 han.2
      have HSo := Lib.hid hSo; clear hSo
      have Hva := Lib.hid hva; clear hva
      have Hvs := Lib.hid hvs; clear hvs
      have HLp := Lib.hid hLp; clear hLp
      have Hcv := Lib.hid (covV_cov ants)
      have Hch := Lib.hid (covV_holes Hcv.out)
      have Hhl := Lib.hid (show (holesC (covL ants)).length = 16 from covV_len Hch.out)
      go_wp2_with fail
      refine (coverOf_yes A1 k1 c1 ants _ Ha.out hkc Hva.out hr1).mono ?_
      rintro e w5 ⟨g5, rfl, hg5, r5, b5⟩
      have B5 := B4.trans (b5.mono B4.size)
      have extX := (hr1.below b5).more b5.size; clear hr1; have hr1 := extX; clear extX
      have extX := (hr2.below b5).more b5.size; clear hr2; have hr2 := extX; clear extX
      have extX := Lib.hid (own_ext O2.out b5); clear O2; have O2 := extX; clear extX
      clear b5
      go_wp2_with fail
      refine (coverHoles_yes _ 16 (covL ants) _ Hcv.out r5.rd).mono ?_
      rintro e w6 ⟨rfl, r6, b6⟩
      have B6 := B5.trans (b6.mono B5.size)
      have extX := (hr1.below b6).more b6.size; clear hr1; have hr1 := extX; clear extX
      have extX := (hr2.below b6).more b6.size; clear hr2; have hr2 := extX; clear extX
      have extX := Lib.hid (own_ext O2.out b6); clear O2; have O2 := extX; clear extX
      clear b6 r5
      go_wp2_with fail
      refine (beamOf_any _ 16 16 (holesC (covL ants)) _ Hhl.out r6.rd).mono ?_
      rintro e w7 ⟨v, rfl, o7, b7⟩
      rw [Hch.out]
      rw [beamR_yes Hch.out, beamL_len] at o7
      obtain ⟨A7, c7, rfl⟩ := own_form o7
      have hr7 := Rd.of_own o7
      have B7 := B6.trans (b7.mono B6.size)
      have extX := (hr1.below b7).more b7.size; clear hr1; have hr1 := extX; clear extX
      have extX := (hr2.below b7).more b7.size; clear hr2; have hr2 := extX; clear extX
      have extX := Lib.hid (own_ext O2.out b7); clear O2; have O2 := extX; clear extX
      clear o7 b7 r6
      go_wp2_with fail
      refine (skyAdd_any A2 A7 16 16 c2 c7 s (beamL (holesC (covL ants))) 1 _ Hs.out (beamL_len _) (by omega) (by omega) hr2 hr7).mono ?_
      rintro e w8 ⟨v, rfl, o8, b8⟩
      obtain ⟨A8, c8, rfl⟩ := own_form o8
      have hr8 := Rd.of_own o8
      have B8 := B7.trans (b8.mono B7.size)
      have extX := (hr1.below b8).more b8.size; clear hr1; have hr1 := extX; clear extX
      have extX := Lib.hid (own_ext O2.out b8); clear O2; have O2 := extX; clear extX
      clear o8 b8 hr7
      have hxl := addR_len s (beamL (holesC (covL ants))) 1
      obtain ⟨X, hX⟩ : ∃ X, (addR s (beamL (holesC (covL ants))) 1).getD [] = X := ⟨_, rfl⟩
      obtain ⟨p, hp⟩ : ∃ p, (addR s (beamL (holesC (covL ants))) 1).isSome = p := ⟨_, rfl⟩
      rw [hX] at hxl hr8 ⊢
      rw [hp]
      have hvX : skyV X = p := by
        cases p
        · rw [← hX, addR_none hp]; rfl
        · rw [← hX, (addR_some hp).2]; exact (addR_some hp).1
      have hyl := obsR_len ants X
      obtain ⟨Y, hY⟩ : ∃ Y, obsR ants X = Y := ⟨_, rfl⟩
      have hyT : p = true → Y = S := fun e => by
        subst e
        rw [← hY, obsR_yes Hva.out hvX, ← hX, (addR_some hp).2, HSo.out]
        exact obs_holes ants s
      rw [hY] at hyl
      have HY := Lib.hid hY
      clear hY
      have HX := Lib.hid hX; clear hX
      have Hp := Lib.hid hp; clear hp
      have HvX := Lib.hid hvX; clear hvX
      have HyT := Lib.hid hyT; clear hyT
      go_wp2_with fail
      refine (observeOf_any A1 A8 k1 X.length c1 c8 ants X _ Ha.out rfl hkc (by omega) (by omega) hr1 hr8).mono ?_
      rintro e w9 ⟨v, rfl, o9, b9⟩
      rw [Hva.out, HvX.out]
      rw [HY.out] at o9
      obtain ⟨A9, c9, rfl⟩ := own_form o9
      have B9 := B8.trans (b9.mono B8.size)
      have extX := Lib.hid (own_ext O2.out b9); clear O2; have O2 := extX; clear extX
      have O9 := Lib.hid o9
      clear b9 hr8 o9
      cases p
      · go_wp2_with fail
        go_ret
        exact ⟨rfl, B9⟩
      · obtain rfl := HyT.out rfl
        go_wp2_with fail
        refine (sameGrid_any A9 A3 Y.length L c9 c3 Y Y _ rfl HSL.out (by omega) (Rd.of_own O9.out) (Rd.of_own O2.out)).mono ?_
        rintro e w10 ⟨rfl, b10⟩
        rw [decide_eq_true (rfl : Y = Y)]
        go_wp2_with fail
        go_ret
        exact ⟨rfl, B9.trans (b10.mono B9.size)⟩
  · have hnb : (1048576 : Int) < (n : Int) := by omega
    go_enter Try.func20, Try.ntmps20
    go_wp2_with fail
    go_ret
    exact ⟨rfl, Below.refl _ _⟩
end Go.Proofs.Ytcllkocmnohnkaa
