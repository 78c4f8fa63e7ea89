/- FnExactVisFrom returns true at every text. -/
import Derived.Test.YtbadeopjfmafcaaDoorVisFi
import Derived.Test.YtbadeopjfmafcaaDoorVisFs
import Derived.Test.YtbadeopjfmafcaaDoorTied
namespace Go.Proofs.YtbadeopjfmafcaaDoor
open Go.RowKit

theorem VisRes.len {l : List UInt8} {n : Int} {vs : List (Int × Int)} {ok : Bool} (h : VisRes l n vs ok) : vs.length ≤ 21 := by
  rcases h with ⟨_, h⟩ | ⟨_, _, rfl, _⟩
  · have := h.bd
    rcases bm_cases n with a | a | a | a | a | a | a <;> omega
  · simp

set_option maxRecDepth 100000 in
set_option maxHeartbeats 1000000 in
theorem FnExactVisFrom_walk (w : World) (hL : laidMet Tryd.prog Rows.fnExactVisFromRow.laid w) (hS : w.ShapedOpen Tryd.prog) (s : ByteArray) (_hs : s.size ≤ maxLen) :
    Calls Tryd.prog 10 #[.string s] w fun e w' => e = .returned (.bool true) ∧ Below w.heap.size w w' := by
  have Ht := Lib.hid (tab_third hL)
  have He := Lib.hid (errs_fifth hL)
  clear hL
  obtain ⟨⟨l⟩⟩ := s
  have hsz : (ByteArray.mk l.toArray).size = l.length := rfl
  clear _hs
  by_cases hb : l.length ≤ 1048576
  · have hnb : ¬ (1048576 : Int) < (l.length : Int) := by omega
    go_enter Tryd.func10, Tryd.ntmps10
    go_wp2_with fail
    refine (sVisFrom_any l w hb).mono ?_
    rintro e w1 ⟨n1, v1, vs, ok1, rfl, R1, o1, b1⟩
    obtain ⟨A1, c1, rfl⟩ := own_form o1
    have hLen := R1.len
    obtain ⟨L, hLn⟩ : ∃ L, vs.length = L := ⟨_, rfl⟩
    rw [hLn] at o1 hLen ⊢
    have HL := Lib.hid hLn; clear hLn
    have l1 := Lib.hid (show ∀ j, (Value.slice A1 L c1).ownBlock = some j → w.heap.size ≤ j ∧ j < w1.heap.size from fun j h => ⟨(own_lt o1 h).1, (own_lt o1 h).2.1⟩)
    have O1 := Lib.hid o1; clear o1
    go_wp2_with fail
    refine (visFrom_any l w1 hb (Ht.out.ext b1) (He.out.ext b1) (shaped_ext hS b1)).mono ?_
    rintro e w2 ⟨n2, v2, vs2, ok2, rfl, R2, o2, b2⟩
    obtain ⟨rfl, rfl, rfl⟩ := R2.uniq R1
    clear R2
    obtain ⟨A2, c2, rfl⟩ := own_form o2
    rw [HL.out] at o2 ⊢
    have l2 := Lib.hid (show ∀ j, (Value.slice A2 L c2).ownBlock = some j → w1.heap.size ≤ j ∧ j < w2.heap.size from fun j h => ⟨(own_lt o2 h).1, (own_lt o2 h).2.1⟩)
    have O2 := Lib.hid o2; clear o2
    have OX := Lib.hid (own_ext O1.out b2); clear O1; have O1 := OX; clear OX
    have hs1 := b1.size
    have B2 := b1.trans (b2.mono b1.size)
    have hs2 := b2.size
    clear b2
    have hn2 : (n2 != n2) = false := by simp
    have hok2 : (ok2 != ok2) = false := by simp
    go_wp2_with fail
    refine (eqVisS_any A2 A1 L L c2 c1 vs2 vs2 _ HL.out HL.out (by omega) (Rd.of_own O2.out) (Rd.of_own O1.out)).mono ?_
    rintro e w3 ⟨rfl, b3⟩
    have B3 := B2.trans (b3.mono B2.size)
    have OX := Lib.hid (own_ext O1.out b3); clear O1; have O1 := OX; clear OX
    have OX := Lib.hid (own_ext O2.out b3); clear O2; have O2 := OX; clear OX
    clear b3
    rw [decide_eq_true (rfl : vs2 = vs2)]
    have T2 := Lib.hid (fun j (hj : (Value.slice A2 L c2).ownBlock = some j) => show w.heap.size ≤ j from by have := (l2.out j hj).1; omega)
    have D2 := Lib.hid (fun j (hj : (Value.slice A1 L c1).ownBlock = some j) (e : (Value.slice A2 L c2).ownBlock = some j) => show False from by have := (l1.out j hj).2; have := (l2.out j e).1; omega)
    go_wp2_with fail
    refine (markVisS_any _ A2 L c2 1 _ _ (by omega) (by omega) (pairs_int vs2) O2.out).mono ?_
    rintro e w4 ⟨rfl, o4, g4⟩
    have B4 : Below w.heap.size w w4 := B3.grown g4 B3.size fun j e => T2.out j e
    have OX := Lib.hid (own_over O1.out g4 fun j hj e => D2.out j hj e); clear O1; have O1 := OX; clear OX
    have OX := Lib.hid o4; clear O2; have O2 := OX; clear OX
    clear o4 g4
    go_wp2_with fail
    refine (heldVisS_any A2 L c2 1 _ (by omega) (by omega) (Rd.of_own O2.out)).mono ?_
    rintro e w' ⟨rfl, rfl⟩
    have hne : ((1 : Int) + 2 * L != 1 + 2 * L) = false := by simp
    go_wp2_with fail
    refine (visFrom_any l w4 hb (Ht.out.ext B4) (He.out.ext B4) (shaped_ext hS B4)).mono ?_
    rintro e w5 ⟨n3, v3, vs3, ok3, rfl, R3, o3, b5⟩
    obtain ⟨rfl, rfl, rfl⟩ := R3.uniq R1
    clear R3
    obtain ⟨A3, c3, rfl⟩ := own_form o3
    rw [HL.out] at o3 ⊢
    have B5 := B4.trans (b5.mono B4.size)
    have OX := Lib.hid (own_ext O1.out b5); clear O1; have O1 := OX; clear OX
    have OX := Lib.hid (own_ext O2.out b5); clear O2; have O2 := OX; clear OX
    have O3 := Lib.hid o3
    clear b5 o3
    go_wp2_with fail
    refine (eqVisS_any A3 A1 L L c3 c1 vs3 vs3 _ HL.out HL.out (by omega) (Rd.of_own O3.out) (Rd.of_own O1.out)).mono ?_
    rintro e w6 ⟨rfl, b6⟩
    have B6 := B5.trans (b6.mono B5.size)
    have OX := Lib.hid (own_ext O2.out b6); clear O2; have O2 := OX; clear OX
    clear b6
    rw [decide_eq_true (rfl : vs3 = vs3)]
    go_wp2_with fail
    refine (heldVisS_any A2 L c2 1 _ (by omega) (by omega) (Rd.of_own O2.out)).mono ?_
    rintro e w' ⟨rfl, rfl⟩
    go_wp2_with fail
    go_ret
    exact ⟨rfl, B6⟩
  · have hnb : (1048576 : Int) < (l.length : Int) := by omega
    go_enter Tryd.func10, Tryd.ntmps10
    go_wp2_with fail
    go_ret
    exact ⟨rfl, Below.refl _ _⟩
end Go.Proofs.YtbadeopjfmafcaaDoor
