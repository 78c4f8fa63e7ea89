/- FnSolveTurn returns true at every input, and leaves what was there. -/
import Derived.Test.YtcllkocmnohnkaaSolveS
import Derived.Test.YtcllkocmnohnkaaSolveR
import Derived.Test.YtcllkocmnohnkaaDrawV
namespace Go.Proofs.Ytcllkocmnohnkaa
open Go.RowKit

theorem solveV_len (n : Nat) (seen model : List (Int × Int)) : ((solveV n seen model).getD []).length ≤ 7 := by
  cases h : solveV n seen model with
  | none => simp
  | some q =>
    obtain ⟨_, h2, k, _, rfl, _⟩ := solveV_some h
    obtain ⟨N, e, _, h7, _⟩ := obsV_of h2
    obtain rfl : N = n := by omega
    simp [solveQ_len]; omega

set_option maxRecDepth 100000 in
set_option maxHeartbeats 1000000 in
theorem FnSolveTurn_walk (w : World) (A : Option Addr) (n cap : Nat) (bs : List Int) (hn : bs.length = n) (hm : n ≤ 9223372036854775807) (hr : Rd w w.heap.size A (bs.map (Value.int .u8))) (hw : ∀ x ∈ bs, (Lit.int .u8 x).wf = true) (hk : n ≤ cap) :
    Calls Try.prog 8 #[.slice A n cap] w fun e w' => e = .returned (.bool true) ∧ Below w.heap.size w w' := by
  have Hbs := Lib.hid (bytesOk_of hw); clear hw
  by_cases hb : n ≤ 1048576
  · have hnb : ¬ (1048576 : Int) < (n : Int) := by omega
    go_enter Try.func8, Try.ntmps8
    go_wp2_with fail
    refine (drawObserveSolve_any A n cap bs w hn hm hk Hbs.out hr).mono ?_
    rintro e w1 ⟨N, A1, k1, c1, seen, A2, k2, c2, model, rfl, hN2, hN5, hse, hk1, hr1, hmo, hk2, hr2, B1⟩
    have Hse := Lib.hid hse; clear hse
    have Hmo := Lib.hid hmo; clear hmo
    clear hr hn
    go_wp2_with fail
    refine (observeSolve_any N A1 A2 k1 k2 c1 c2 seen model _ Hse.out Hmo.out (by omega) (by omega) hr1 hr2).mono ?_
    rintro e w2 ⟨v, rfl, o2, b2⟩
    have B2 := B1.trans (b2.mono B1.size)
    have extX := (hr1.below b2).more b2.size; clear hr1; have hr1 := extX; clear extX
    have extX := (hr2.below b2).more b2.size; clear hr2; have hr2 := extX; clear extX
    obtain ⟨A3, c3, rfl⟩ := own_form o2
    have O2 := Lib.hid o2
    clear o2 b2
    go_wp2_with fail
    refine (sObserveSolve_any N A1 A2 k1 k2 c1 c2 seen model _ Hse.out Hmo.out (by omega) (by omega) hr1 hr2).mono ?_
    rintro e w3 ⟨v, rfl, o3, b3⟩
    have B3 := B2.trans (b3.mono B2.size)
    have extX := (hr1.below b3).more b3.size; clear hr1; have hr1 := extX; clear extX
    have extX := (hr2.below b3).more b3.size; clear hr2; have hr2 := extX; clear extX
    have extX := Lib.hid (own_ext O2.out b3); clear O2; have O2 := extX; clear extX
    obtain ⟨A4, c4, rfl⟩ := own_form o3
    have O3 := Lib.hid o3
    clear o3 b3
    have hLb := solveV_len N seen model
    obtain ⟨L, hL⟩ : ∃ L, ((solveV N seen model).getD []).length = L := ⟨_, rfl⟩
    obtain ⟨S, hS⟩ : ∃ S, (solveV N seen model).getD [] = S := ⟨_, rfl⟩
    have hSL : S.length = L := by rw [← hS]; exact hL
    have P2 := O2.out
    have P3 := O3.out
    clear O2 O3
    rw [hL, hS] at P2 P3
    rw [hL] at hLb ⊢
    have O2 := Lib.hid P2
    have O3 := Lib.hid P3
    clear P2 P3
    have HSL := Lib.hid hSL; clear hSL
    have HL := Lib.hid hL; clear hL
    have HS := Lib.hid hS; clear hS
    obtain ⟨ok, hok⟩ : ∃ ok, (solveV N seen model).isSome = ok := ⟨_, rfl⟩
    rw [hok]
    have hne : (ok != ok) = false := by simp
    have Hok := Lib.hid hok
    clear hok
    go_wp2_with fail
    refine (sameInts_any A3 A4 L L c3 c4 S S _ HSL.out HSL.out (by omega) (Rd.of_own O2.out) (Rd.of_own O3.out)).mono ?_
    rintro e w4 ⟨rfl, b4⟩
    have B4 := B3.trans (b4.mono B3.size)
    have extX := (hr1.below b4).more b4.size; clear hr1; have hr1 := extX; clear extX
    have extX := (hr2.below b4).more b4.size; clear hr2; have hr2 := extX; clear extX
    have extX := Lib.hid (own_ext O2.out b4); clear O2; have O2 := extX; clear extX
    have extX := Lib.hid (own_ext O3.out b4); clear O3; have O3 := extX; clear extX
    clear b4
    rw [decide_eq_true (rfl : S = S)]
    cases ok
    · go_wp2_with fail
      refine (sameInts_any A3 A4 L L c3 c4 S S _ HSL.out HSL.out (by omega) (Rd.of_own O2.out) (Rd.of_own O3.out)).mono ?_
      rintro e w5 ⟨rfl, b5⟩
      rw [decide_eq_true (rfl : S = S)]
      go_wp2_with fail
      go_ret
      exact ⟨rfl, B4.trans (b5.mono B4.size)⟩
    · have hsv : solveV N seen model = some S := by
        rw [← HS.out]
        cases h : solveV N seen model with
        | none => have := Hok.out; rw [h] at this; cases this
        | some q => rfl
      obtain ⟨t1, t2, t3, t4⟩ := solve_turned hsv
      obtain rfl : L = N := by rw [← HSL.out]; exact t3
      have Hsv := Lib.hid hsv; clear hsv
      have T1 := Lib.hid t1; clear t1
      have T2 := Lib.hid t2; clear t2
      have T3 := Lib.hid t3; clear t3
      have T4 := Lib.hid t4; clear t4
      go_wp2_with fail
      refine (observeTurn_any L A2 A3 k2 c2 L c3 model S _ Hmo.out HSL.out (by omega) (by omega) hr2 (Rd.of_own O2.out)).mono ?_
      rintro e w5 ⟨v, rfl, o5, b5⟩
      have B5 := B4.trans (b5.mono B4.size)
      have extX := (hr1.below b5).more b5.size; clear hr1; have hr1 := extX; clear extX
      have extX := Lib.hid (own_ext O2.out b5); clear O2; have O2 := extX; clear extX
      clear b5
      rw [T1.out]
      rw [T2.out, Hse.out] at o5
      obtain ⟨A5, c5, rfl⟩ := own_form o5
      go_wp2_with fail
      refine (sameGrid_any A5 A1 k1 k1 c5 c1 seen seen _ Hse.out Hse.out (by omega) (Rd.of_own o5) hr1).mono ?_
      rintro e w6 ⟨rfl, b6⟩
      have B6 := B5.trans (b6.mono B5.size)
      have extX := Lib.hid (own_ext O2.out b6); clear O2; have O2 := extX; clear extX
      rw [decide_eq_true (rfl : seen = seen)]
      obtain ⟨b, off, rfl, hb2, hc⟩ := (Rd.of_own O2.out) 0 _ (ints_get (by rw [HSL.out]; omega))
      rw [T4.out (by omega), Nat.add_zero] at hc
      have hL0 : (0 : Int) < L := by omega
      have hL0' : 0 < L := by omega
      clear b6 o5
      go_wp2_with fail
      go_ret
      exact ⟨rfl, B6⟩
  · have hnb : (1048576 : Int) < (n : Int) := by omega
    go_enter Try.func8, Try.ntmps8
    go_wp2_with fail
    go_ret
    exact ⟨rfl, Below.refl _ _⟩
end Go.Proofs.Ytcllkocmnohnkaa
