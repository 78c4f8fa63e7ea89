/- FnExactSkyFrom returns true at every text. -/
import Derived.Test.YtbadeopjfmafcaaDoorSkyFr
import Derived.Test.YtbadeopjfmafcaaDoorSkyFs
import Derived.Test.YtbadeopjfmafcaaDoorHeld
import Derived.Test.YtbadeopjfmafcaaDoorTied
namespace Go.Proofs.YtbadeopjfmafcaaDoor
open Go.RowKit

theorem readSky_len (l : List UInt8) : ((readSky l).getD []).length ≤ 16 := by
  cases h : readSky l with
  | none => simp
  | some x => have := skyV_len (readSky_some.1 h).1; simp [this]

set_option maxRecDepth 100000 in
set_option maxHeartbeats 1000000 in
theorem FnExactSkyFrom_walk (w : World) (hL : laidMet Tryd.prog Rows.fnExactSkyFromRow.laid w) (s : ByteArray) (_hs : s.size ≤ maxLen) :
    Calls Tryd.prog 7 #[.string s] w fun e w' => e = .returned (.bool true) ∧ Below w.heap.size w w' := by
  have Ht := Lib.hid (tab_third hL)
  have He := Lib.hid (errs_fourth hL)
  clear hL
  obtain ⟨⟨l⟩⟩ := s
  have hsz : (ByteArray.mk l.toArray).size = l.length := rfl
  clear _hs
  by_cases hb : l.length ≤ 1048576
  · have hnb : ¬ (1048576 : Int) < (l.length : Int) := by omega
    have hL16 := readSky_len l
    go_enter Tryd.func7, Tryd.ntmps7
    go_wp2_with fail
    refine (sSkyFrom_any l w hb).mono ?_
    rintro e w1 ⟨v1, rfl, o1, b1⟩
    obtain ⟨A1, c1, rfl⟩ := own_form o1
    obtain ⟨L, hL⟩ : ∃ L, ((readSky l).getD []).length = L := ⟨_, rfl⟩
    obtain ⟨S, hS⟩ : ∃ S, (readSky l).getD [] = S := ⟨_, rfl⟩
    obtain ⟨ok, hok⟩ : ∃ ok, (readSky l).isSome = ok := ⟨_, rfl⟩
    have hLS : S.length = L := by rw [← hS]; exact hL
    have HLS := Lib.hid hLS; clear hLS
    have hok2 : (ok != ok) = false := by simp
    rw [hL, hS] at o1
    have l1 := Lib.hid (show ∀ j, (Value.slice A1 L c1).ownBlock = some j → w.heap.size ≤ j ∧ j < w1.heap.size from fun j h => ⟨(own_lt o1 h).1, (own_lt o1 h).2.1⟩)
    have O1 := Lib.hid o1; clear o1
    rw [hL, hok]
    rw [hL] at hL16
    go_wp2_with fail
    refine (skyFrom_any l w1 hb (Ht.out.ext b1) (He.out.ext b1)).mono ?_
    rintro e w2 ⟨v2, rfl, o2, b2⟩
    obtain ⟨A2, c2, rfl⟩ := own_form o2
    rw [hL, hS] at o2
    rw [hL, hok]
    have l2 := Lib.hid (show ∀ j, (Value.slice A2 L c2).ownBlock = some j → w1.heap.size ≤ j ∧ j < w2.heap.size from fun j h => ⟨(own_lt o2 h).1, (own_lt o2 h).2.1⟩)
    have O2 := Lib.hid o2; clear o2
    have O1 := Lib.hid (own_ext O1.out b2)
    have hs1 := b1.size
    have B2 := b1.trans (b2.mono b1.size)
    have hs2 := b2.size
    clear b2
    go_wp2_with fail
    refine (eqIntS_any A2 A1 L L c2 c1 S S _ HLS.out HLS.out (by omega) (Rd.of_own O2.out) (Rd.of_own O1.out)).mono ?_
    rintro e w3 ⟨rfl, b3⟩
    have B3 := B2.trans (b3.mono B2.size)
    have O1 := Lib.hid (own_ext O1.out b3)
    have O2 := Lib.hid (own_ext O2.out b3)
    clear b3
    rw [decide_eq_true (rfl : S = S)]
    have T2 := Lib.hid (fun j (hj : (Value.slice A2 L c2).ownBlock = some j) => show w.heap.size ≤ j from by have := (l2.out j hj).1; omega)
    have D2 := Lib.hid (fun j (hj : (Value.slice A1 L c1).ownBlock = some j) (e : (Value.slice A2 L c2).ownBlock = some j) => show False from by have := (l1.out j hj).2; have := (l2.out j e).1; omega)
    go_wp2_with fail
    refine (markIntS_any _ A2 L c2 1 _ _ (by omega) (by omega) (ints_int S) O2.out).mono ?_
    rintro e w4 ⟨rfl, o4, g4⟩
    have B4 : Below w.heap.size w w4 := B3.grown g4 B3.size fun j e => T2.out j e
    have O1 := Lib.hid (own_over O1.out g4 fun j hj e => D2.out j hj e)
    have O2 := Lib.hid o4
    clear o4 g4
    go_wp2_with fail
    refine (heldIntS_any A2 L c2 1 _ (by omega) (by omega) (Rd.of_own O2.out)).mono ?_
    rintro e w' ⟨rfl, rfl⟩
    have hne : ((1 : Int) + L != 1 + L) = false := by simp
    go_wp2_with fail
    refine (skyFrom_any l w4 hb (Ht.out.ext B4) (He.out.ext B4)).mono ?_
    rintro e w5 ⟨v3, rfl, o3, b5⟩
    obtain ⟨A3, c3, rfl⟩ := own_form o3
    rw [hL, hS] at o3
    rw [hL, hok]
    have B5 := B4.trans (b5.mono B4.size)
    have O1 := Lib.hid (own_ext O1.out b5)
    have O2 := Lib.hid (own_ext O2.out b5)
    have O3 := Lib.hid o3
    clear b5 o3
    go_wp2_with fail
    refine (eqIntS_any A3 A1 L L c3 c1 S S _ HLS.out HLS.out (by omega) (Rd.of_own O3.out) (Rd.of_own O1.out)).mono ?_
    rintro e w6 ⟨rfl, b6⟩
    have B6 := B5.trans (b6.mono B5.size)
    have O2 := Lib.hid (own_ext O2.out b6)
    clear b6
    rw [decide_eq_true (rfl : S = S)]
    go_wp2_with fail
    refine (heldIntS_any A2 L c2 1 _ (by omega) (by omega) (Rd.of_own O2.out)).mono ?_
    rintro e w' ⟨rfl, rfl⟩
    go_wp2_with fail
    go_ret
    exact ⟨rfl, B6⟩
  · have hnb : (1048576 : Int) < (l.length : Int) := by omega
    go_enter Tryd.func7, Tryd.ntmps7
    go_wp2_with fail
    go_ret
    exact ⟨rfl, Below.refl _ _⟩
end Go.Proofs.YtbadeopjfmafcaaDoor
