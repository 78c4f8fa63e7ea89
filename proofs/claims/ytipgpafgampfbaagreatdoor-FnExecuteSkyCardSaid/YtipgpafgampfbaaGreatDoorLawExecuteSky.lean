/- FnExecuteSky returns true at every input, and leaves what was there. -/
import Derived.Test.YtipgpafgampfbaaGreatDoorExeQ
import Derived.Test.YtipgpafgampfbaaGreatDoorExeI
import Derived.Test.YtipgpafgampfbaaGreatDoorDrawE
import Derived.Test.YtipgpafgampfbaaGreatDoorTied
namespace Go.Proofs.YtipgpafgampfbaaGreatDoor
open Go.RowKit

set_option maxRecDepth 100000 in
set_option maxHeartbeats 1000000 in
theorem FnExecuteSky_walk (w : World) (hL : laidMet Tryz.prog Rows.fnExecuteSkyRow.laid w) (hS : w.ShapedOpen Tryz.prog) (A : Option Addr) (n cap : Nat) (bs : List Int) (hn : bs.length = n) (hm : n ≤ 9223372036854775807) (hr : Rd w w.heap.size A (bs.map (Value.int .u8))) (hw : ∀ x ∈ bs, (Lit.int .u8 x).wf = true) (hk : n ≤ cap) :
    Calls Tryz.prog 7 #[.slice A n cap] w fun e w' => e = .returned (.bool true) ∧ Below w.heap.size w w' := by
  have Hbs := Lib.hid (bytesOk_of hw); clear hw
  have Ht := Lib.hid (tab_third hL); clear hL
  by_cases hb : n ≤ 1048576
  · have hnb : ¬ (1048576 : Int) < (n : Int) := by omega
    go_enter Tryz.func7, Tryz.ntmps7
    go_wp2_with fail
    refine (drawArrayValid_any A n cap bs w hn hm hk Hbs.out hr).mono ?_
    rintro e w1 ⟨A1, k1, c1, xs, rfl, hx, hk1, hkc, hr1, B1⟩
    have Hx := Lib.hid hx; clear hx
    clear hr hn
    go_wp2_with fail
    refine (arrayValid_any A1 k1 c1 xs _ Hx.out hkc (by omega) hr1).mono ?_
    rintro e w2 ⟨rfl, b2⟩
    have B2 := B1.trans (b2.mono B1.size)
    have extX := (hr1.below b2).more b2.size; clear hr1; have hr1 := extX; clear extX
    clear b2
    go_wp2_with fail
    refine (sArrayValid_any A1 k1 c1 xs _ Hx.out (by omega) hr1).mono ?_
    rintro e w3 ⟨rfl, b3⟩
    have B3 := B2.trans (b3.mono B2.size)
    have extX := (hr1.below b3).more b3.size; clear hr1; have hr1 := extX; clear extX
    clear b3
    cases hv : arrV xs
    · clear hv
      go_wp2_with fail
      go_ret
      exact ⟨rfl, B3⟩
    · have hl := arrV_len hv
      have hg : gLe 1000000 xs := fun x h => by have := arrV_gLe hv x h; omega
      have hlaw := law_sky hv
      have hxl := Hx.out
      rw [hxl] at hlaw hl
      have hsm := antsB_small hg
      rw [hxl] at hsm
      obtain ⟨t1, ht1⟩ : ∃ t1, antsB xs = t1 := ⟨_, rfl⟩
      rw [ht1] at hlaw hsm
      obtain ⟨out, ho⟩ : ∃ out, exeB (t1 ++ [100, 105, 114, 116, 121, 10, 99, 108, 101, 97, 110, 32, 57, 10]) = out := ⟨_, rfl⟩
      rw [ho] at hlaw
      have ol := oksB_len k1
      have el := endB_small k1 (by omega)
      have zl := skyStr_small zeros16
      obtain ⟨z, hz⟩ : ∃ z, skyStr zeros16 = z := ⟨_, rfl⟩
      rw [hz] at hlaw zl
      have hmk : ∀ W : World, (Instr.makeSlice 32 (.int .i64 16) (.int .i64 16)).run Tryz.prog W = .ok (.slice (some ⟨W.heap.size, 0, none⟩) 16 16) (W.alloc (.cells (zeros16.map (Value.int .i64)).toArray 3)) := fun W =>
        run_make1 (P := Tryz.prog) 32 3 (.int .i64 0) 8 Tryz.underlying32 (by kernel_rfl) rfl 16 (by omega) (by omega) W
      have rZ := (Row.new w3 3 (zeros16.map (Value.int .i64))).rd
      have B4 := B3.alloc B3.size (.cells (zeros16.map (Value.int .i64)).toArray 3)
      have sT := skyText_any (some ⟨w3.heap.size, 0, none⟩) 16 16 zeros16 (w3.alloc (.cells (zeros16.map (Value.int .i64)).toArray 3)) rfl (by omega) rZ (Ht.out.ext B4)
      rw [hz] at sT
      generalize zeros16.map (Value.int .i64) = Z at *
      have Hlaw := Lib.hid hlaw; clear hlaw
      have Hv := Lib.hid hv; clear hv
      have Ht1 := Lib.hid ht1; clear ht1
      have Ho := Lib.hid ho; clear ho
      have Hz := Lib.hid hz; clear hz
      clear hxl
      go_wp2_with fail
      refine sT.mono ?_
      rintro e w4 ⟨rfl, b4⟩
      have B5 := B4.trans (b4.mono B4.size)
      have hr5 := (hr1.ext (bA1 (o := .cells Z.toArray 3))).ext b4
      clear sT b4 hmk rZ hr1
      go_wp2_with fail
      refine (antLines_any A1 k1 c1 xs _ Hx.out (by omega) hg hr5).mono ?_
      rintro e w5 ⟨rfl, b5⟩
      rw [Ht1.out]
      have B6 := B5.trans (b5.mono B5.size)
      clear b5
      have n1 : ¬ 9223372036854775807 < t1.length + 14 := by omega
      have eT : (⟨t1.toArray⟩ ++ ⟨#[100, 105, 114, 116, 121, 10, 99, 108, 101, 97, 110, 32, 57, 10]⟩ : ByteArray) = ⟨(t1 ++ [100, 105, 114, 116, 121, 10, 99, 108, 101, 97, 110, 32, 57, 10]).toArray⟩ := by rw [← str_app]
      have ET := Lib.hid eT; clear eT
      go_wp2_with fail
      rw [ET.out]
      refine (execute_all _ _ (Ht.out.ext B6) (shapedB hS B6)).mono ?_
      rintro e w6 ⟨rfl, b6⟩
      rw [Ho.out]
      have B7 := B6.trans (b6.mono B6.size)
      clear b6
      go_wp2_with fail
      refine (okLines_any A1 k1 c1 _ (by omega)).mono ?_
      rintro e w7 ⟨rfl, b7⟩
      have B8 := B7.trans (b7.mono B7.size)
      clear b7
      have n2 : ¬ 9223372036854775807 < (oksB k1).length + z.length := by omega
      have n3 : ¬ 9223372036854775807 < (oksB k1).length + z.length + z.length := by omega
      have n4 : ¬ 9223372036854775807 < (oksB k1).length + z.length + z.length + 8 := by omega
      have n5 : ¬ 9223372036854775807 < (oksB k1).length + z.length + z.length + 8 + (endB k1).length := by omega
      go_wp2_with fail
      refine (endLine_any k1 _ (by omega)).mono ?_
      rintro e w8 ⟨rfl, b8⟩
      have B9 := B8.trans (b8.mono B8.size)
      clear b8
      have eE : (⟨(oksB k1).toArray⟩ ++ ⟨z.toArray⟩ ++ ⟨z.toArray⟩ ++ ⟨#[115, 116, 101, 112, 115, 32, 48, 10]⟩ ++ ⟨(endB k1).toArray⟩ : ByteArray) = ⟨out.toArray⟩ := by rw [Hlaw.out, ← str_app, ← str_app, ← str_app, ← str_app]
      have EE := Lib.hid eE; clear eE
      go_wp2_with fail
      go_ret
      exact ⟨by simp [EE.out], B9⟩
  · have hnb : (1048576 : Int) < (n : Int) := by omega
    go_enter Tryz.func7, Tryz.ntmps7
    go_wp2_with fail
    go_ret
    exact ⟨rfl, Below.refl _ _⟩
end Go.Proofs.YtipgpafgampfbaaGreatDoor
