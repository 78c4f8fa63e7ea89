/- FnExecuteBases returns true at every input, and leaves what was there. -/
import Derived.Test.YtipgpafgampfbaaGreatDoorExeQ
import Derived.Test.YtipgpafgampfbaaGreatDoorExeI
import Derived.Test.YtipgpafgampfbaaGreatDoorDrawR
import Derived.Test.YtipgpafgampfbaaGreatDoorTied
namespace Go.Proofs.YtipgpafgampfbaaGreatDoor
open Go.RowKit

set_option maxRecDepth 100000 in
set_option maxHeartbeats 1000000 in
theorem FnExecuteBases_walk (w : World) (hL : laidMet Tryz.prog Rows.fnExecuteBasesRow.laid w) (hS : w.ShapedOpen Tryz.prog) (A : Option Addr) (n cap : Nat) (bs : List Int) (hn : bs.length = n) (hm : n ≤ 9223372036854775807) (hr : Rd w w.heap.size A (bs.map (Value.int .u8))) (hw : ∀ x ∈ bs, (Lit.int .u8 x).wf = true) (hk : n ≤ cap) :
    Calls Tryz.prog 11 #[.slice A n cap] w fun e w' => e = .returned (.bool true) ∧ Below w.heap.size w w' := by
  have Hbs := Lib.hid (bytesOk_of hw); clear hw
  have Ht := Lib.hid (tab_third hL); clear hL
  by_cases hb : n ≤ 1048576
  · have hnb : ¬ (1048576 : Int) < (n : Int) := by omega
    go_enter Tryz.func11, Tryz.ntmps11
    go_wp2_with fail
    refine (drawRedundantMany_any A n cap bs w hn hm hk Hbs.out hr).mono ?_
    rintro e w1 ⟨A1, k1, c1, xs, rfl, hx, hk1, hkc, hr1, B1⟩
    have Hx := Lib.hid hx; clear hx
    clear hr hn
    go_wp2_with fail
    refine (redundantMany_any A1 k1 c1 xs _ Hx.out hkc (by omega) hr1).mono ?_
    rintro e w2 ⟨rfl, b2⟩
    have B2 := B1.trans (b2.mono B1.size)
    have extX := (hr1.below b2).more b2.size; clear hr1; have hr1 := extX; clear extX
    clear b2
    go_wp2_with fail
    refine (sRedundantMany_any A1 k1 c1 xs _ Hx.out (by omega) hr1).mono ?_
    rintro e w3 ⟨rfl, b3⟩
    have B3 := B2.trans (b3.mono B2.size)
    have extX := (hr1.below b3).more b3.size; clear hr1; have hr1 := extX; clear extX
    clear b3
    cases hv : arrV xs
    · rw [redM_no hv]
      clear hv
      go_wp2_with fail
      go_ret
      exact ⟨rfl, B3⟩
    · have hl := arrV_len hv
      have hg : gLe 1000000 xs := fun x h => by have := arrV_gLe hv x h; omega
      have hlaw := law_bases hv
      unfold basesB at hlaw
      have hxl := Hx.out
      rw [hxl] at hlaw hl
      have hrd0 : 0 ≤ redM xs := by rw [redM_yes hv]; omega
      have hrd1 := redM_bd hv
      have hbm := bm_le (k1 : Int)
      have hbm0 : 0 ≤ bm (k1 : Int) := by rcases bm_cases (k1 : Int) with a | a | a | a | a | a | a <;> omega
      have hsm := antsB_small hg
      rw [hxl] at hsm
      obtain ⟨t1, ht1⟩ : ∃ t1, antsB xs = t1 := ⟨_, rfl⟩
      rw [ht1] at hlaw hsm
      obtain ⟨out, ho⟩ : ∃ out, exeB (t1 ++ [98, 97, 115, 101, 115, 10]) = out := ⟨_, rfl⟩
      rw [ho] at hlaw
      obtain ⟨r, hrr⟩ : ∃ r, redM xs = r := ⟨_, rfl⟩
      rw [hrr] at hlaw hrd0 hrd1 ⊢
      obtain ⟨b, hbb⟩ : ∃ b, bm (k1 : Int) = b := ⟨_, rfl⟩
      rw [hbb] at hlaw hbm hbm0
      have ol := oksB_len k1
      have el := endB_small k1 (by omega)
      have i1 := itoa_small (n := b) (by omega)
      have i2 := itoa_small (n := r) (by omega)
      have Hlaw := Lib.hid hlaw; clear hlaw
      have Hv := Lib.hid hv; clear hv
      have Ht1 := Lib.hid ht1; clear ht1
      have Ho := Lib.hid ho; clear ho
      have Hrr := Lib.hid hrr; clear hrr
      have Hbb := Lib.hid hbb; clear hbb
      clear hxl
      have hr0 : ¬ r < 0 := by omega
      go_wp2_with fail
      refine (antLines_any A1 k1 c1 xs _ Hx.out (by omega) hg hr1).mono ?_
      rintro e w5 ⟨rfl, b5⟩
      rw [Ht1.out]
      have B6 := B3.trans (b5.mono B3.size)
      clear b5
      have n1 : ¬ 9223372036854775807 < t1.length + 6 := by omega
      have eT : (⟨t1.toArray⟩ ++ ⟨#[98, 97, 115, 101, 115, 10]⟩ : ByteArray) = ⟨(t1 ++ [98, 97, 115, 101, 115, 10]).toArray⟩ := by rw [← str_app]
      have ET := Lib.hid eT; clear eT
      go_wp2_with fail
      rw [ET.out]
      refine (execute_all _ _ (Ht.out.ext B6) (shapedB hS B6)).mono ?_
      rintro e w6 ⟨rfl, b6⟩
      rw [Ho.out]
      have B7 := B6.trans (b6.mono B6.size)
      clear b6
      go_wp2_with fail
      refine (okLines_any A1 k1 c1 _ (by omega)).mono ?_
      rintro e w7 ⟨rfl, b7⟩
      have B8 := B7.trans (b7.mono B7.size)
      clear b7
      have n2 : ¬ 9223372036854775807 < (oksB k1).length + 6 := by omega
      have n3 : ¬ 9223372036854775807 < (oksB k1).length + 6 + (Lib.itoa b).length := by omega
      have n4 : ¬ 9223372036854775807 < (oksB k1).length + 6 + (Lib.itoa b).length + 1 := by omega
      have n5 : ¬ 9223372036854775807 < (oksB k1).length + 6 + (Lib.itoa b).length + 1 + (Lib.itoa r).length := by omega
      have n6 : ¬ 9223372036854775807 < (oksB k1).length + 6 + (Lib.itoa b).length + 1 + (Lib.itoa r).length + 1 := by omega
      have n7 : ¬ 9223372036854775807 < (oksB k1).length + 6 + (Lib.itoa b).length + 1 + (Lib.itoa r).length + 1 + (endB k1).length := by omega
      go_wp2_with fail
      refine (baseMany_any _ _).mono ?_
      rintro e w8 ⟨rfl, rfl⟩
      rw [Hbb.out]
      go_wp2_with fail
      refine (digits_any b (by omega) _).mono ?_
      rintro e w9 ⟨rfl, b9⟩
      have B9 := B8.trans (b9.mono B8.size)
      clear b9
      go_wp2_with fail
      refine (digits_any r (by omega) _).mono ?_
      rintro e w10 ⟨rfl, b10⟩
      have B10 := B9.trans (b10.mono B9.size)
      clear b10
      go_wp2_with fail
      refine (endLine_any k1 _ (by omega)).mono ?_
      rintro e w11 ⟨rfl, b11⟩
      have B11 := B10.trans (b11.mono B10.size)
      clear b11
      have eE : (⟨(oksB k1).toArray⟩ ++ ⟨#[98, 97, 115, 101, 115, 32]⟩ ++ ⟨(Lib.itoa b).toArray⟩ ++ ⟨#[32]⟩ ++ ⟨(Lib.itoa r).toArray⟩ ++ ⟨#[10]⟩ ++ ⟨(endB k1).toArray⟩ : ByteArray) = ⟨out.toArray⟩ := by
        rw [show out = oksB k1 ++ [98, 97, 115, 101, 115, 32] ++ Lib.itoa b ++ [32] ++ Lib.itoa r ++ [10] ++ endB k1 by rw [Hlaw.out]; simp [wBases], ← str_app, ← str_app, ← str_app, ← str_app, ← str_app, ← str_app]
      have EE := Lib.hid eE; clear eE
      go_wp2_with fail
      go_ret
      exact ⟨by simp [EE.out], B11⟩
  · have hnb : (1048576 : Int) < (n : Int) := by omega
    go_enter Tryz.func11, Tryz.ntmps11
    go_wp2_with fail
    go_ret
    exact ⟨rfl, Below.refl _ _⟩
end Go.Proofs.YtipgpafgampfbaaGreatDoor
