/- FnSolveTurnBack returns true at every input, and leaves what was there. -/
import Derived.Test.YtklhjofhmcaflaaSolveI
import Derived.Test.YtklhjofhmcaflaaLawObserveTurnAll
namespace Go.Proofs.Ytklhjofhmcaflaa
open Go.RowKit

set_option maxRecDepth 100000 in
set_option maxHeartbeats 4000000 in
theorem FnSolveTurnBack_walk (w : World) (A : Option Addr) (n cap : Nat) (bs : List Int) (hn : bs.length = n) (hm : n ≤ 9223372036854775807) (hr : Rd w w.heap.size A (bs.map (Value.int .u8))) (hw : ∀ x ∈ bs, (Lit.int .u8 x).wf = true) (hk : n ≤ cap) :
    Calls Try.prog 11 #[.slice A n cap] w fun e w' => e = .returned (.bool true) ∧ Below w.heap.size w w' := by
  have Hbs := Lib.hid (bytesOk_of hw); clear hw
  by_cases hb : n ≤ 1048576
  · have hnb : ¬ (1048576 : Int) < (n : Int) := by omega
    go_enter Try.func11, Try.ntmps11
    go_wp2_with fail
    refine (drawObserveTurn_any A n cap bs w hn hm hk Hbs.out hr).mono ?_
    rintro e w1 ⟨N, A1, k1, c1, gs, A2, k2, c2, q, rfl, hN2, hN6, hgs, hk1, hr1, hq, hk2, hr2, B1⟩
    have Hgs := Lib.hid hgs; clear hgs
    have Hq := Lib.hid hq; clear hq
    clear hr hn
    go_wp2_with fail
    refine (observeTurn_any N A1 A2 k1 c1 k2 c2 gs q _ Hgs.out Hq.out (by omega) (by omega) hr1 hr2).mono ?_
    rintro e w2 ⟨v6, rfl, o6, b2⟩
    have B2 := B1.trans (b2.mono B1.size)
    have hr1 := (hr1.below b2).more b2.size
    have hr2 := (hr2.below b2).more b2.size
    obtain ⟨A6, c6, rfl⟩ := own_form o6
    have hL := turnR_len N gs q
    obtain ⟨L, hLe⟩ : ∃ L, (turnR N gs q).length = L := ⟨_, rfl⟩
    obtain ⟨S, hS⟩ : ∃ S, turnR N gs q = S := ⟨_, rfl⟩
    obtain ⟨ok, hok⟩ : ∃ ok, turnOK N gs q = ok := ⟨_, rfl⟩
    have hLS : S.length = L := by rw [← hS]; exact hLe
    rw [hLe] at hL
    rw [hLe, hS] at o6
    have O6 := Lib.hid o6; clear o6 b2
    rw [hLe, hok]
    go_wp2_with fail
    refine (sObserveTurn_any N A1 A2 k1 c1 k2 c2 gs q _ Hgs.out Hq.out (by omega) (by omega) hr1 hr2).mono ?_
    rintro e w3 ⟨v8, rfl, o8, b3⟩
    have B3 := B2.trans (b3.mono B2.size)
    have hr1 := (hr1.below b3).more b3.size
    have hr2 := (hr2.below b3).more b3.size
    have O6 := Lib.hid (own_ext O6.out b3)
    obtain ⟨A8, c8, rfl⟩ := own_form o8
    rw [hLe, hS] at o8
    have O8 := Lib.hid o8; clear o8 b3
    have HLS := Lib.hid hLS; clear hLS
    have HLe := Lib.hid hLe
    have HS := Lib.hid hS
    have Hok := Lib.hid hok
    have hne : (ok != ok) = false := by simp
    rw [hLe, hok]
    clear hLe hS hok
    go_wp2_with fail
    refine (sameGrid_any A6 A8 L L c6 c8 S S _ HLS.out HLS.out (by omega) (Rd.of_own O6.out) (Rd.of_own O8.out)).mono ?_
    rintro e w4 ⟨rfl, b4⟩
    have B4 := B3.trans (b4.mono B3.size)
    have hr1 := (hr1.below b4).more b4.size
    have hr2 := (hr2.below b4).more b4.size
    have O6 := Lib.hid (own_ext O6.out b4)
    have O8 := Lib.hid (own_ext O8.out b4)
    clear b4
    rw [decide_eq_true (rfl : S = S)]
    cases ok
    · go_wp2_with fail
      refine (sameGrid_any A6 A8 L L c6 c8 S S _ HLS.out HLS.out (by omega) (Rd.of_own O6.out) (Rd.of_own O8.out)).mono ?_
      rintro e w5 ⟨rfl, b5⟩
      rw [decide_eq_true (rfl : S = S)]
      go_wp2_with fail
      go_ret
      exact ⟨rfl, B4.trans (b5.mono B4.size)⟩
    · obtain ⟨hobs, hqN, hq3⟩ := turnOK_of Hok.out
      obtain rfl : k2 = N := by rw [← hqN]; exact Hq.out.symm
      have Hq3 := Lib.hid hq3; clear hq3 hqN
      have Hobs := Lib.hid hobs; clear hobs
      have hLk : L = k1 := by
        obtain ⟨h1, h2, _⟩ := turnOK_of Hok.out
        obtain ⟨n', hn', _, _, hl, _, _⟩ := obsV_of h1
        obtain rfl : k2 = n' := by omega
        rw [← HLe.out, ← Hgs.out, hl]
        unfold turnR
        rw [Hok.out, if_pos rfl, turnedOf_len, Int.toNat_natCast]
      subst hLk
      by_cases h5 : (5 : Int) < k2
      · go_wp2_with fail
        go_ret
        exact ⟨rfl, B4⟩
      · obtain ⟨q', hs', hl', ht', hR', h0'⟩ := solve_turn Hok.out
        rw [HS.out] at hs' hR'
        have hq3' := (turnOK_of ht').2.2
        have Hs' := Lib.hid hs'; clear hs'
        have Hl' := Lib.hid hl'; clear hl'
        have Ht' := Lib.hid ht'; clear ht'
        have HR' := Lib.hid hR'; clear hR'
        have H0' := Lib.hid h0'; clear h0'
        go_wp2_with fail
        refine (observeSolve_any k2 A6 A1 L L c6 c1 S gs _ HLS.out Hgs.out (by omega) (by omega) (Rd.of_own O6.out) hr1).mono ?_
        rintro e w5 ⟨v, rfl, o5, b5⟩
        rw [Hs'.out]
        rw [Hs'.out] at o5
        simp only [Option.getD_some, Option.isSome_some] at o5 ⊢
        rw [Hl'.out] at o5
        obtain ⟨A5, c5, rfl⟩ := own_form o5
        have B5 := B4.trans (b5.mono B4.size)
        have hr1 := (hr1.below b5).more b5.size
        have hr2 := (hr2.below b5).more b5.size
        have O6 := Lib.hid (own_ext O6.out b5)
        have O5 := Lib.hid o5
        clear o5 b5
        go_wp2_with fail
        refine (observeTurn_any k2 A1 A5 L c1 k2 c5 gs q' _ Hgs.out Hl'.out (by omega) (by omega) hr1 (Rd.of_own O5.out)).mono ?_
        rintro e w6 ⟨v6, rfl, o7, b6⟩
        rw [Ht'.out]
        rw [HR'.out, HLS.out] at o7
        obtain ⟨A7, c7, rfl⟩ := own_form o7
        have B6 := B5.trans (b6.mono B5.size)
        have O6 := Lib.hid (own_ext O6.out b6)
        have O7 := Lib.hid o7
        clear o7 b6
        go_wp2_with fail
        refine (sameGrid_any A7 A6 L L c7 c6 S S _ HLS.out HLS.out (by omega) (Rd.of_own O7.out) (Rd.of_own O6.out)).mono ?_
        rintro e w7 ⟨rfl, b7⟩
        rw [decide_eq_true (rfl : S = S)]
        go_wp2_with fail
        go_ret
        exact ⟨rfl, B6.trans (b7.mono B6.size)⟩
  · have hnb : (1048576 : Int) < (n : Int) := by omega
    go_enter Try.func11, Try.ntmps11
    go_wp2_with fail
    go_ret
    exact ⟨rfl, Below.refl _ _⟩
end Go.Proofs.Ytklhjofhmcaflaa
