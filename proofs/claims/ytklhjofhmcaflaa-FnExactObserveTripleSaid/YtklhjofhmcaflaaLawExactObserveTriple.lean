/- FnExactObserveTriple returns true at every input, and leaves what was there. -/
import Derived.Test.YtklhjofhmcaflaaTripleT
import Derived.Test.YtklhjofhmcaflaaGaussS
namespace Go.Proofs.Ytklhjofhmcaflaa
open Go.RowKit

set_option maxRecDepth 100000 in
set_option maxHeartbeats 4000000 in
theorem FnExactObserveTriple_walk (w : World) (n : Int) (_ : (Lit.int .i64 n).wf = true)
    (A : Option Addr) (na capA : Nat) (gs : List (Int × Int)) (hn : gs.length = na) (hm : na ≤ 9223372036854775807) (hr : Rd w w.heap.size A (gs.flatMap pairCells)) (_ : ∀ x ∈ gs, (Lit.int .i64 x.1).wf = true ∧ (Lit.int .i64 x.2).wf = true)
    (i : Int) (_ : (Lit.int .i64 i).wf = true) (j : Int) (_ : (Lit.int .i64 j).wf = true) (k : Int) (_ : (Lit.int .i64 k).wf = true) :
    Calls Try.prog 5 #[.int .i64 n, .slice A na capA, .int .i64 i, .int .i64 j, .int .i64 k] w fun e w' => e = .returned (.bool true) ∧ Below w.heap.size w w' := by
  have Hn := Lib.hid hn; clear hn
  by_cases hb1 : na ≤ 1048576
  · have hif : (if (1048576 : Int) < (na : Int) then (-1 : Int) else 1048576 - na) = 1048576 - na := if_neg (by omega)
    obtain ⟨V, hV⟩ : ∃ V, tripV n gs i j k = V := ⟨_, rfl⟩
    have HV := Lib.hid hV; clear hV
    go_enter Try.func5, Try.ntmps5
    go_wp2_with fail
    refine (szGaussS_any A na capA 1048576 _ hm (by omega)).mono ?_
    rintro e w0 ⟨rfl, rfl⟩
    rw [hif]
    clear hif
    go_wp2_with fail
    refine (toGaussS_any A na capA gs _ Hn.out hb1 hr).mono ?_
    rintro e w1 ⟨rfl, r1, b1⟩
    have B1 := b1
    have hr1 := hr.ext b1
    go_wp2_with fail
    refine (sObserveTriple_any n _ na na gs i j k _ Hn.out (by omega) r1.rd).mono ?_
    rintro e w2 ⟨rfl, b2⟩
    rw [HV.out]
    have B2 := B1.trans (b2.mono B1.size)
    have hr1 := (hr1.below b2).more b2.size
    have ra := Row.new w2 33 [.int .i64 V.1.1, .int .i64 V.1.2]
    have E2 := bA1 (w := w2) (o := .cells #[.int .i64 V.1.1, .int .i64 V.1.2] 33)
    have B2 := B2.trans (E2.mono B2.size)
    have hr1 := (hr1.below E2).more E2.size
    clear r1 b1 b2 E2
    go_wp2_with fail
    refine (toGaussS_any A na capA gs _ Hn.out hb1 hr1).mono ?_
    rw [World.size_alloc]
    rintro e w3 ⟨rfl, r3, b3⟩
    have b3 : Below (w2.alloc (.cells #[.int .i64 V.1.1, .int .i64 V.1.2] 33)).heap.size (w2.alloc (.cells #[.int .i64 V.1.1, .int .i64 V.1.2] 33)) w3 := by rw [World.size_alloc]; exact b3
    have B3 := B2.trans (b3.mono B2.size)
    have hr1 := (hr1.below b3).more b3.size
    have ra := ra.kept b3
    clear b3
    go_wp2_with fail
    refine (observeTriple_any n _ na na gs i j k _ Hn.out (by omega) r3.rd).mono ?_
    rintro e w4 ⟨rfl, b4⟩
    rw [HV.out]
    have B4 := B3.trans (b4.mono B3.size)
    have hr1 := (hr1.below b4).more b4.size
    have ra := ra.kept b4
    have r3 := r3.kept b4
    obtain ⟨x0, x1, _, _⟩ := ra.two
    have hlt := ra.lt
    have hne : w2.heap.size ≠ w4.heap.size := by omega
    clear b4
    have E4 := bA1 (w := w4) (o := .cells #[.int .i64 V.1.1, .int .i64 V.1.2] 33)
    go_wp2_with fail
    refine (eqGauss_any V.1.1 V.1.2 V.1.1 V.1.2 _).mono ?_
    rintro e w5 ⟨rfl, b5⟩
    rw [decide_eq_true rfl]
    have b5 := E4.trans (b5.mono E4.size)
    have B5 := B4.trans (b5.mono B4.size)
    have hr1 := (hr1.below b5).more b5.size
    have r3 := r3.kept b5
    have bV : (V.2 != V.2) = false := by simp
    clear b5 E4 x0 x1 hlt hne
    go_wp2_with fail
    refine (toGaussS_any A na capA gs _ Hn.out hb1 hr1).mono ?_
    rintro e w6 ⟨rfl, r6, b6⟩
    have B6 := B5.trans (b6.mono B5.size)
    have r3 := r3.kept b6
    go_wp2_with fail
    refine (eqGaussS_any _ _ na na na na gs gs _ Hn.out Hn.out hb1 r3.rd r6.rd).mono ?_
    rintro e w7 ⟨rfl, b7⟩
    rw [decide_eq_true (rfl : gs = gs)]
    go_wp2_with fail
    go_ret
    exact ⟨rfl, B6.trans (b7.mono B6.size)⟩
  · have hif : (if (1048576 : Int) < (na : Int) then (-1 : Int) else 1048576 - na) = -1 := if_pos (by omega)
    go_enter Try.func5, Try.ntmps5
    go_wp2_with fail
    refine (szGaussS_any A na capA 1048576 _ hm (by omega)).mono ?_
    rintro e w0 ⟨rfl, rfl⟩
    rw [hif]
    clear hif
    go_wp2_with fail
    go_ret
    exact ⟨rfl, Below.refl _ _⟩
end Go.Proofs.Ytklhjofhmcaflaa
