/- FnObserveTriple returns true at every input, and leaves what was there. -/
import Derived.Test.YtklhjofhmcaflaaTripleT
import Derived.Test.YtklhjofhmcaflaaLawObserveTurnAll
namespace Go.Proofs.Ytklhjofhmcaflaa
open Go.RowKit

set_option maxRecDepth 100000 in
set_option maxHeartbeats 4000000 in
theorem FnObserveTriple_walk (w : World) (A : Option Addr) (n cap : Nat) (bs : List Int) (hn : bs.length = n) (hm : n ≤ 9223372036854775807) (hr : Rd w w.heap.size A (bs.map (Value.int .u8))) (hw : ∀ x ∈ bs, (Lit.int .u8 x).wf = true) (hk : n ≤ cap) (C : Option Addr) (nC capC : Nat) (ms : List Int) (_ : ms.length = nC) (_ : nC ≤ 9223372036854775807) (_ : Rd w w.heap.size C (ms.map (Value.int .u8))) (_ : ∀ x ∈ ms, (Lit.int .u8 x).wf = true) (_ : nC ≤ capC) :
    Calls Try.prog 13 #[.slice A n cap, .slice C nC capC] w fun e w' => e = .returned (.bool true) ∧ Below w.heap.size w w' := by
  have Hbs := Lib.hid (bytesOk_of hw); clear hw
  by_cases hb : n ≤ 1048576 ∧ nC ≤ 1048576
  · obtain ⟨hb, hbC⟩ := hb
    have hnb : ¬ (1048576 : Int) < (n : Int) := by omega
    have hnbC : ¬ (1048576 : Int) < (nC : Int) := by omega
    go_enter Try.func13, Try.ntmps13
    go_wp2_with fail
    refine (drawObserveTurn_any A n cap bs w hn hm hk Hbs.out hr).mono ?_
    rintro e w1 ⟨N, A1, k1, c1, gs, A2, k2, c2, q, rfl, hN2, hN6, hgs, hk1, hr1, hq, hk2, hr2, B1⟩
    have Hgs := Lib.hid hgs; clear hgs
    have Hq := Lib.hid hq; clear hq
    clear hr hn
    go_wp2_with fail
    refine (observeTurn_any N A1 A2 k1 c1 k2 c2 gs q _ Hgs.out Hq.out (by omega) (by omega) hr1 hr2).mono ?_
    rintro e w2 ⟨v6, rfl, o6, b2⟩
    have B2 := B1.trans (b2.mono B1.size)
    have hr1 := (hr1.below b2).more b2.size
    have hr2 := (hr2.below b2).more b2.size
    obtain ⟨A6, c6, rfl⟩ := own_form o6
    have hL := turnR_len N gs q
    obtain ⟨L, hLe⟩ : ∃ L, (turnR N gs q).length = L := ⟨_, rfl⟩
    obtain ⟨S, hS⟩ : ∃ S, turnR N gs q = S := ⟨_, rfl⟩
    obtain ⟨ok, hok⟩ : ∃ ok, turnOK N gs q = ok := ⟨_, rfl⟩
    have hLS : S.length = L := by rw [← hS]; exact hLe
    rw [hLe] at hL
    rw [hLe, hS] at o6
    have O6 := Lib.hid o6; clear o6 b2
    rw [hLe, hok]
    go_wp2_with fail
    refine (sObserveTurn_any N A1 A2 k1 c1 k2 c2 gs q _ Hgs.out Hq.out (by omega) (by omega) hr1 hr2).mono ?_
    rintro e w3 ⟨v8, rfl, o8, b3⟩
    have B3 := B2.trans (b3.mono B2.size)
    have hr1 := (hr1.below b3).more b3.size
    have hr2 := (hr2.below b3).more b3.size
    have O6 := Lib.hid (own_ext O6.out b3)
    obtain ⟨A8, c8, rfl⟩ := own_form o8
    rw [hLe, hS] at o8
    have O8 := Lib.hid o8; clear o8 b3
    have HLS := Lib.hid hLS; clear hLS
    have HLe := Lib.hid hLe
    have HS := Lib.hid hS
    have Hok := Lib.hid hok
    have hne : (ok != ok) = false := by simp
    rw [hLe, hok]
    clear hLe hS hok
    go_wp2_with fail
    refine (sameGrid_any A6 A8 L L c6 c8 S S _ HLS.out HLS.out (by omega) (Rd.of_own O6.out) (Rd.of_own O8.out)).mono ?_
    rintro e w4 ⟨rfl, b4⟩
    have B4 := B3.trans (b4.mono B3.size)
    have hr1 := (hr1.below b4).more b4.size
    have hr2 := (hr2.below b4).more b4.size
    have O6 := Lib.hid (own_ext O6.out b4)
    have O8 := Lib.hid (own_ext O8.out b4)
    clear b4
    rw [decide_eq_true (rfl : S = S)]
    cases ok
    · go_wp2_with fail
      refine (sameGrid_any A6 A8 L L c6 c8 S S _ HLS.out HLS.out (by omega) (Rd.of_own O6.out) (Rd.of_own O8.out)).mono ?_
      rintro e w5 ⟨rfl, b5⟩
      rw [decide_eq_true (rfl : S = S)]
      go_wp2_with fail
      go_ret
      exact ⟨rfl, B4.trans (b5.mono B4.size)⟩
    · obtain ⟨hobs, hqN, hq3⟩ := turnOK_of Hok.out
      obtain rfl : k2 = N := by rw [← hqN]; exact Hq.out.symm
      have Hq3 := Lib.hid hq3; clear hq3 hqN
      have Hobs := Lib.hid hobs; clear hobs
      have hLk : L = k1 := by
        obtain ⟨h1, h2, _⟩ := turnOK_of Hok.out
        obtain ⟨n', hn', _, _, hl, _, _⟩ := obsV_of h1
        obtain rfl : k2 = n' := by omega
        rw [← HLe.out, ← Hgs.out, hl]
        unfold turnR
        rw [Hok.out, if_pos rfl, turnedOf_len, Int.toNat_natCast]
      subst hLk
      by_cases h3 : k2 < 3
      · go_wp2_with fail
        go_ret
        exact ⟨rfl, B4⟩
      · have hn2 : 0 < (k2 : Int) - 2 := by omega
        obtain ⟨i, hi⟩ : ∃ i : Nat, nC % (k2 - 2) = i := ⟨_, rfl⟩
        have hi2 : i < k2 - 2 := by rw [← hi]; exact Nat.mod_lt _ (by omega)
        have ei : (nC : Int) % ((k2 : Int) - 2) = (i : Int) := by rw [← hi, Int.natCast_emod]; congr 1; omega
        obtain ⟨d, hd⟩ : ∃ d : Nat, nC / 7 % (k2 - 2 - i) = d := ⟨_, rfl⟩
        have hd2 : d < k2 - 2 - i := by rw [← hd]; exact Nat.mod_lt _ (by omega)
        have ed : (nC : Int) / 7 % ((k2 : Int) - 2 - (i : Int)) = (d : Int) := by rw [← hd, Int.natCast_emod, Int.natCast_ediv]; congr 1; omega
        have hdi : 0 < (k2 : Int) - 2 - (i : Int) := by omega
        have hq0 : 0 ≤ (nC : Int) / 7 := by omega
        have hT := turned_trip Hok.out i (i + 1 + d) (k2 - 1)
        rw [HS.out] at hT
        rw [show ((i + 1 + d : Nat) : Int) = (i : Int) + 1 + d by omega, show ((k2 - 1 : Nat) : Int) = (k2 : Int) - 1 by omega] at hT
        have HT := Lib.hid hT
        clear hT hi hd
        obtain ⟨V, hV⟩ : ∃ V, tripV (k2 : Int) gs i ((i : Int) + 1 + d) ((k2 : Int) - 1) = V := ⟨_, rfl⟩
        have HV := Lib.hid hV; clear hV
        have bV : (V.2 == V.2) = true := beq_self_eq_true _
        go_wp2_with fail
        refine (observeTriple_any k2 A1 L c1 gs i ((i : Int) + 1 + d) ((k2 : Int) - 1) _ Hgs.out (by omega) hr1).mono ?_
        rintro e w5 ⟨rfl, b5⟩
        rw [HV.out]
        have B5 := B4.trans (b5.mono B4.size)
        have O6 := Lib.hid (own_ext O6.out b5)
        have rx := Row.new w5 33 [.int .i64 V.1.1, .int .i64 V.1.2]
        have E5 := bA1 (w := w5) (o := .cells #[.int .i64 V.1.1, .int .i64 V.1.2] 33)
        have O6 := Lib.hid (own_ext O6.out E5)
        have B5 := B5.alloc B5.size (.cells #[.int .i64 V.1.1, .int .i64 V.1.2] 33)
        clear b5 E5
        go_wp2_with fail
        refine (observeTriple_any k2 A6 L c6 S i ((i : Int) + 1 + d) ((k2 : Int) - 1) _ HLS.out (by omega) (Rd.of_own O6.out)).mono ?_
        rintro e w6 ⟨rfl, b6⟩
        rw [HT.out, HV.out]
        have rx := rx.kept b6
        obtain ⟨x0, x1, _, _⟩ := rx.two
        have hlt := rx.lt
        have hne : w5.heap.size ≠ w6.heap.size := by omega
        have B6 := B5.trans (b6.mono B5.size)
        clear b6
        go_wp2_with fail
        go_ret
        exact ⟨rfl, (B6.alloc B6.size _)⟩
  · by_cases h1 : n ≤ 1048576
    · have hnb : ¬ (1048576 : Int) < (n : Int) := by omega
      have hnbC : (1048576 : Int) < (nC : Int) := by omega
      go_enter Try.func13, Try.ntmps13
      go_wp2_with fail
      go_ret
      exact ⟨rfl, Below.refl _ _⟩
    · have hnb : (1048576 : Int) < (n : Int) := by omega
      go_enter Try.func13, Try.ntmps13
      go_wp2_with fail
      go_ret
      exact ⟨rfl, Below.refl _ _⟩
end Go.Proofs.Ytklhjofhmcaflaa
