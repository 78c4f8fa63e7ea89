/- FnExactVisText returns true at every input, and leaves what was there. -/
import Derived.Test.YtbadeopjfmafcaaDoorVisTi
import Derived.Test.YtbadeopjfmafcaaDoorVisL
import Derived.Test.YtbadeopjfmafcaaDoorTied
namespace Go.Proofs.YtbadeopjfmafcaaDoor
open Go.RowKit

theorem FnExactVisText_walk (w : World) (hL : laidMet Tryd.prog Rows.fnExactVisTextRow.laid w) (x : Int) (_wx : (Lit.int .i64 x).wf = true) (A : Option Addr) (n cap : Nat) (c : List (Int × Int)) (hn : c.length = n) (hm : n ≤ 9223372036854775807) (hr : Rd w w.heap.size A (c.flatMap pairCells))
    (_hw : ∀ y ∈ c, (Lit.int .i64 y.1).wf = true ∧ (Lit.int .i64 y.2).wf = true) : Calls Tryd.prog 5 #[.int .i64 x, .slice A n cap] w fun e w' => e = .returned (.bool true) ∧ Below w.heap.size w w' := by
  have Hn := Lib.hid hn; clear hn
  have Ht := Lib.hid (tab_third hL); clear hL
  by_cases hb : n ≤ 1048576
  · have hif : (if 1048576 < (n : Int) then (-1 : Int) else 1048576 - n) = 1048576 - n := if_neg (by omega)
    go_enter Tryd.func5, Tryd.ntmps5
    go_wp2_with fail
    refine (szVisS_any A n cap (1048576) _ hm (by omega)).mono ?_
    rintro e w' ⟨rfl, rfl⟩
    rw [hif]
    clear hif
    go_wp2_with fail
    refine (toVisS_any A n cap c _ Hn.out hb hr).mono ?_
    rintro e w1 ⟨rfl, hrow1, hb1⟩
    go_wp2_with fail
    refine (sVisText_any x _ n n c _ Hn.out (by omega) hrow1.rd).mono ?_
    rintro e w2 ⟨rfl, hb2⟩
    have hb2' := hb1.trans (hb2.mono hb1.size)
    have hr2 := hr.below hb2'
    go_wp2_with fail
    refine (toVisS_any A n cap c _ Hn.out hb (hr2.more hb2'.size)).mono ?_
    rintro e w3 ⟨rfl, hrow3, hb3⟩
    have hb3' := hb2'.trans (hb3.mono hb2'.size)
    go_wp2_with fail
    refine (visText_any x _ n n c _ Hn.out (by omega) hrow3.rd (Ht.out.ext hb3')).mono ?_
    rintro e w4 ⟨rfl, hb4⟩
    have hb4' := hb3'.trans (hb4.mono hb3'.size)
    have hr4 := hr.below hb4'
    have hrow4 := hrow3.kept hb4
    go_wp2_with fail
    refine (toVisS_any A n cap c _ Hn.out hb (hr4.more hb4'.size)).mono ?_
    rintro e w5 ⟨rfl, hrow5, hb5⟩
    have hb5' := hb4'.trans (hb5.mono hb4'.size)
    have hrow5' := hrow4.kept hb5
    go_wp2_with fail
    refine (eqVisS_any _ _ n n n n c c _ Hn.out Hn.out hb hrow5'.rd hrow5.rd).mono ?_
    rintro e w6 ⟨rfl, hb6⟩
    have hb6' := hb5'.trans (hb6.mono hb5'.size)
    rw [decide_eq_true rfl]
    go_wp2_with fail
    go_ret
    exact ⟨rfl, hb6'⟩
  · have hif : (if 1048576 < (n : Int) then (-1 : Int) else 1048576 - n) = -1 := if_pos (by omega)
    go_enter Tryd.func5, Tryd.ntmps5
    go_wp2_with fail
    refine (szVisS_any A n cap (1048576) _ hm (by omega)).mono ?_
    rintro e w' ⟨rfl, rfl⟩
    rw [hif]
    clear hif
    go_wp2_with fail
    go_ret
    exact ⟨rfl, Below.refl _ _⟩
end Go.Proofs.YtbadeopjfmafcaaDoor
