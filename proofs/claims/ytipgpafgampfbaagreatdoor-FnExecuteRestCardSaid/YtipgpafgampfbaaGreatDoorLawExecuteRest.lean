/- FnExecuteRest returns true at every input, and leaves what was there. -/
import Derived.Test.YtipgpafgampfbaaGreatDoorSExe
import Derived.Test.YtipgpafgampfbaaGreatDoorC2
import Derived.Test.YtipgpafgampfbaaGreatDoorC1
import Derived.Test.YtipgpafgampfbaaGreatDoorExeI
import Derived.Test.YtipgpafgampfbaaGreatDoorTied
namespace Go.Proofs.YtipgpafgampfbaaGreatDoor
open Go.RowKit

set_option maxRecDepth 100000 in
set_option maxHeartbeats 1000000 in
theorem FnExecuteRest_walk (w : World) (hL : laidMet Tryz.prog Rows.fnExecuteRestRow.laid w) (hS : w.ShapedOpen Tryz.prog) (A : Option Addr) (n cap : Nat) (bs : List Int) (hn : bs.length = n) (hm : n ≤ 9223372036854775807) (hr : Rd w w.heap.size A (bs.map (Value.int .u8))) (hw : ∀ x ∈ bs, (Lit.int .u8 x).wf = true) (hk : n ≤ cap) :
    Calls Tryz.prog 14 #[.slice A n cap] w fun e w' => e = .returned (.bool true) ∧ Below w.heap.size w w' := by
  have Hbs := Lib.hid (bytesOk_of hw); clear hw
  have Ht := Lib.hid (tab_third hL); clear hL
  by_cases hb : n ≤ 1048576
  case neg =>
    have hnb : (1048576 : Int) < (n : Int) := by omega
    go_enter Tryz.func14, Tryz.ntmps14
    go_wp2_with fail
    go_ret
    exact ⟨rfl, Below.refl _ _⟩
  have hnb : ¬ (1048576 : Int) < (n : Int) := by omega
  go_enter Tryz.func14, Tryz.ntmps14
  go_wp2_with fail
  refine (drawExecute_any A n cap bs w hn hm hk Hbs.out hr).mono ?_
  rintro e w1 ⟨l, rfl, hl, B1⟩
  have hsz : (ByteArray.mk l.toArray).size = l.length := rfl
  clear hr hn
  go_wp2_with fail
  refine (execute_all l _ (Ht.out.ext B1) (shapedB hS B1)).mono ?_
  rintro e w2 ⟨rfl, b2⟩
  have B2 := B1.trans (b2.mono B1.size)
  clear b2
  go_wp2_with fail
  refine (sExecute_all l _).mono ?_
  rintro e w3 ⟨rfl, b3⟩
  have B3 := B2.trans (b3.mono B2.size)
  clear b3
  obtain ⟨o, ho⟩ : ∃ o, exeB l = o := ⟨_, rfl⟩
  have hoL := exe_small l hl
  have hoN := exe_ne l
  rw [ho] at hoL hoN ⊢
  have Ho := Lib.hid ho; clear ho
  by_cases hbig : 500 < l.length
  · have hbI : (500 : Int) < l.length := by omega
    have e : o = oLong := by rw [← Ho.out]; exact exe_big hbig
    have he : (o == [116, 111, 111, 32, 108, 111, 110, 103, 10]) = true := by rw [e]; decide
    have E := Lib.hid e; clear e
    go_wp2_with fail
    go_ret
    exact ⟨rfl, B3⟩
  · have hbI : ¬ (500 : Int) < l.length := by omega
    have hr := exe_rest hbig
    rw [Ho.out] at hr
    go_wp2_with fail
    refine (complete_any l _ (by omega)).mono ?_
    rintro e w4 ⟨rfl, b4⟩
    have B4 := B3.trans (b4.mono B3.size)
    clear b4
    have Hr := Lib.hid hr
    clear hr
    go_wp2_with fail
    refine (execute_all (compB l) _ (Ht.out.ext B4) (shapedB hS B4)).mono ?_
    rintro e w5 ⟨rfl, b5⟩
    rw [Hr.out]
    have B5 := B4.trans (b5.mono B4.size)
    clear b5
    go_wp2_with fail
    go_ret
    exact ⟨by simp, B5⟩
end Go.Proofs.YtipgpafgampfbaaGreatDoor
