/- FnExecuteCover returns true at every input, and leaves what was there. -/
import Derived.Test.YtipgpafgampfbaaGreatDoorExeR
import Derived.Test.YtipgpafgampfbaaGreatDoorExeI
import Derived.Test.YtipgpafgampfbaaGreatDoorDrawE
import Derived.Test.YtipgpafgampfbaaGreatDoorCovS
import Derived.Test.YtipgpafgampfbaaGreatDoorCovB
import Derived.Test.YtipgpafgampfbaaGreatDoorTied
namespace Go.Proofs.YtipgpafgampfbaaGreatDoor
open Go.RowKit

set_option maxRecDepth 100000 in
set_option maxHeartbeats 1000000 in
theorem FnExecuteCover_walk (w : World) (hL : laidMet Tryz.prog Rows.fnExecuteCoverRow.laid w) (hS : w.ShapedOpen Tryz.prog) (A : Option Addr) (n cap : Nat) (bs : List Int) (hn : bs.length = n) (hm : n ≤ 9223372036854775807) (hr : Rd w w.heap.size A (bs.map (Value.int .u8))) (hw : ∀ x ∈ bs, (Lit.int .u8 x).wf = true) (hk : n ≤ cap) :
    Calls Tryz.prog 8 #[.slice A n cap] w fun e w' => e = .returned (.bool true) ∧ Below w.heap.size w w' := by
  have Hbs := Lib.hid (bytesOk_of hw); clear hw
  have Ht := Lib.hid (tab_third hL); clear hL
  by_cases hb : n ≤ 1048576
  · have hnb : ¬ (1048576 : Int) < (n : Int) := by omega
    go_enter Tryz.func8, Tryz.ntmps8
    go_wp2_with fail
    refine (drawCoverOf_any A n cap bs w hn hm hk Hbs.out hr).mono ?_
    rintro e w1 ⟨A1, k1, c1, xs, rfl, hx, hk1, hkc, hr1, B1⟩
    have Hx := Lib.hid hx; clear hx
    clear hr hn
    cases hv : arrV xs
    · have Hv := Lib.hid hv; clear hv
      go_wp2_with fail
      refine (coverOf_no A1 k1 c1 xs _ Hx.out hkc (by omega) Hv.out hr1).mono ?_
      rintro e w2 ⟨rfl, b2⟩
      have B2 := B1.trans (b2.mono B1.size)
      have extX := (hr1.below b2).more b2.size; clear hr1; have hr1 := extX; clear extX
      clear b2
      go_wp2_with fail
      refine (sCoverOf_no A1 k1 c1 xs _ Hx.out (by omega) Hv.out hr1).mono ?_
      rintro e w3 ⟨D, d, rfl, b3⟩
      have B3 := B2.trans (b3.mono B2.size)
      clear b3
      go_wp2_with fail
      refine (sameFlags_eq none D 0 0 d [] _ rfl (by omega) (Rd.nil _ _ _) (Rd.nil _ _ _)).mono ?_
      rintro e w4 ⟨rfl, b4⟩
      have B4 := B3.trans (b4.mono B3.size)
      clear b4
      go_wp2_with fail
      refine (sameFlags_eq none D 0 0 d [] _ rfl (by omega) (Rd.nil _ _ _) (Rd.nil _ _ _)).mono ?_
      rintro e w5 ⟨rfl, b5⟩
      have B5 := B4.trans (b5.mono B4.size)
      clear b5
      go_wp2_with fail
      go_ret
      exact ⟨rfl, B5⟩
    · have hl := arrV_len hv
      have hg : gLe 1000000 xs := fun x h => by have := arrV_gLe hv x h; omega
      have hlaw := law_cover hv
      have hxl := Hx.out
      rw [hxl] at hlaw hl
      have hsm := antsB_small hg
      rw [hxl] at hsm
      obtain ⟨t1, ht1⟩ : ∃ t1, antsB xs = t1 := ⟨_, rfl⟩
      rw [ht1] at hlaw hsm
      obtain ⟨out, ho⟩ : ∃ out, exeB (t1 ++ [99, 111, 118, 101, 114, 10, 98, 101, 97, 109, 10]) = out := ⟨_, rfl⟩
      rw [ho] at hlaw
      have ol := oksB_len k1
      have el := endB_small k1 (by omega)
      have hcv := covV_cov xs
      have hcl := covL_len xs
      have zl := covText_small (covL xs)
      have yl := skyStr_small (beamL (covL xs))
      have hbl : (beamL (covL xs)).length = 16 := by unfold beamL; simp
      have hbr := beamR_yes hcv
      obtain ⟨c, hc⟩ : ∃ c, covL xs = c := ⟨_, rfl⟩
      rw [hc] at hlaw zl yl hcl hcv hbl hbr
      obtain ⟨z, hz⟩ : ∃ z, covText c = z := ⟨_, rfl⟩
      rw [hz] at hlaw zl
      obtain ⟨b, hbb⟩ : ∃ b, beamL c = b := ⟨_, rfl⟩
      rw [hbb] at hlaw yl hbl hbr
      obtain ⟨y, hy⟩ : ∃ y, skyStr b = y := ⟨_, rfl⟩
      rw [hy] at hlaw yl
      have Hlaw := Lib.hid hlaw; clear hlaw
      have Hv := Lib.hid hv; clear hv
      have Ht1 := Lib.hid ht1; clear ht1
      have Ho := Lib.hid ho; clear ho
      have Hz := Lib.hid hz; clear hz
      have Hc := Lib.hid hc; clear hc
      have Hbb := Lib.hid hbb; clear hbb
      have Hy := Lib.hid hy; clear hy
      have Hcv := Lib.hid hcv; clear hcv
      have Hcl := Lib.hid hcl; clear hcl
      have Hbl := Lib.hid hbl; clear hbl
      have Hbr := Lib.hid hbr; clear hbr
      clear hxl
      go_wp2_with fail
      refine (coverOf_yes A1 k1 c1 xs _ Hx.out hkc Hv.out hr1).mono ?_
      rintro e w2 ⟨g1, rfl, hg1, rG, b2⟩
      rw [Hc.out] at rG
      have B2 := B1.trans (b2.mono B1.size)
      have extX := (hr1.below b2).more b2.size; clear hr1; have hr1 := extX; clear extX
      clear b2
      go_wp2_with fail
      refine (sCoverOf_yes A1 k1 c1 xs _ Hx.out Hv.out hr1).mono ?_
      rintro e w3 ⟨g2, rfl, hg2, rG2, b3⟩
      rw [Hc.out] at rG2
      have B3 := B2.trans (b3.mono B2.size)
      have extX := (hr1.below b3).more b3.size; clear hr1; have hr1 := extX; clear extX
      have rC := (rG.kept b3).rd
      have rC2 := rG2.rd
      clear b3 rG rG2
      go_wp2_with fail
      refine (sameFlags_eq (some ⟨g1, 0, none⟩) (some ⟨g2, 0, none⟩) 16 16 16 c _ Hcl.out (by omega) rC rC2).mono ?_
      rintro e w4 ⟨rfl, b4⟩
      have B4 := B3.trans (b4.mono B3.size)
      have extX := (hr1.below b4).more b4.size; clear hr1; have hr1 := extX; clear extX
      have extX := (rC.below b4).more b4.size; clear rC; have rC := extX; clear extX
      clear b4 rC2
      go_wp2_with fail
      refine (beamOf_any (some ⟨g1, 0, none⟩) 16 16 c _ Hcl.out rC).mono ?_
      rintro e w5 ⟨v, rfl, o5, b5⟩
      rw [Hcv.out]
      rw [Hbr.out, Hbl.out] at o5
      obtain ⟨A5, c5, rfl⟩ := own_form o5
      have rY := Rd.of_own o5
      clear o5
      have B5 := B4.trans (b5.mono B4.size)
      have extX := (hr1.below b5).more b5.size; clear hr1; have hr1 := extX; clear extX
      have extX := (rC.below b5).more b5.size; clear rC; have rC := extX; clear extX
      clear b5
      go_wp2_with fail
      refine (antLines_any A1 k1 c1 xs _ Hx.out (by omega) hg hr1).mono ?_
      rintro e w6 ⟨rfl, b6⟩
      rw [Ht1.out]
      have B6 := B5.trans (b6.mono B5.size)
      have extX := (rC.below b6).more b6.size; clear rC; have rC := extX; clear extX
      have extX := (rY.below b6).more b6.size; clear rY; have rY := extX; clear extX
      clear b6
      have n1 : ¬ 9223372036854775807 < t1.length + 11 := by omega
      have eT : (⟨t1.toArray⟩ ++ ⟨#[99, 111, 118, 101, 114, 10, 98, 101, 97, 109, 10]⟩ : ByteArray) = ⟨(t1 ++ [99, 111, 118, 101, 114, 10, 98, 101, 97, 109, 10]).toArray⟩ := by rw [← str_app]
      have ET := Lib.hid eT; clear eT
      go_wp2_with fail
      rw [ET.out]
      refine (execute_all _ _ (Ht.out.ext B6) (shapedB hS B6)).mono ?_
      rintro e w7 ⟨rfl, b7⟩
      rw [Ho.out]
      have B7 := B6.trans (b7.mono B6.size)
      have extX := (rC.below b7).more b7.size; clear rC; have rC := extX; clear extX
      have extX := (rY.below b7).more b7.size; clear rY; have rY := extX; clear extX
      clear b7
      go_wp2_with fail
      refine (okLines_any A1 k1 c1 _ (by omega)).mono ?_
      rintro e w8 ⟨rfl, b8⟩
      have B8 := B7.trans (b8.mono B7.size)
      have extX := (rC.below b8).more b8.size; clear rC; have rC := extX; clear extX
      have extX := (rY.below b8).more b8.size; clear rY; have rY := extX; clear extX
      clear b8
      go_wp2_with fail
      refine (coverText_any (some ⟨g1, 0, none⟩) 16 16 c _ Hcl.out rC).mono ?_
      rintro e w9 ⟨rfl, b9⟩
      rw [Hz.out]
      have B9 := B8.trans (b9.mono B8.size)
      have extX := (rY.below b9).more b9.size; clear rY; have rY := extX; clear extX
      clear b9
      have n2 : ¬ 9223372036854775807 < (oksB k1).length + z.length := by omega
      have n3 : ¬ 9223372036854775807 < (oksB k1).length + z.length + y.length := by omega
      have n4 : ¬ 9223372036854775807 < (oksB k1).length + z.length + y.length + (endB k1).length := by omega
      go_wp2_with fail
      refine (skyText_any A5 16 c5 b _ Hbl.out (by omega) rY (Ht.out.ext B9)).mono ?_
      rintro e w10 ⟨rfl, b10⟩
      rw [Hy.out]
      have B10 := B9.trans (b10.mono B9.size)
      clear b10
      go_wp2_with fail
      refine (endLine_any k1 _ (by omega)).mono ?_
      rintro e w11 ⟨rfl, b11⟩
      have B11 := B10.trans (b11.mono B10.size)
      clear b11
      have eE : (⟨(oksB k1).toArray⟩ ++ ⟨z.toArray⟩ ++ ⟨y.toArray⟩ ++ ⟨(endB k1).toArray⟩ : ByteArray) = ⟨out.toArray⟩ := by rw [Hlaw.out, ← str_app, ← str_app, ← str_app]
      have EE := Lib.hid eE; clear eE
      go_wp2_with fail
      go_ret
      exact ⟨by simp [EE.out], B11⟩
  · have hnb : (1048576 : Int) < (n : Int) := by omega
    go_enter Tryz.func8, Tryz.ntmps8
    go_wp2_with fail
    go_ret
    exact ⟨rfl, Below.refl _ _⟩
end Go.Proofs.YtipgpafgampfbaaGreatDoor
