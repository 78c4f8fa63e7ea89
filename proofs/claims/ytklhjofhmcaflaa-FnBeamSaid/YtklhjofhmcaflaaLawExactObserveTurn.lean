/- FnExactObserveTurn returns true at every input, and leaves what was there. -/
import Derived.Test.YtklhjofhmcaflaaGaussS
import Derived.Test.YtklhjofhmcaflaaTurnT
namespace Go.Proofs.Ytklhjofhmcaflaa
open Go.RowKit

theorem own_form {w : World} {base : Nat} {T : TypeId} {size n : Nat} {v : Value} {xs : List Value} (h : w.ownsRow base T size v n xs) : ∃ A c, v = .slice A n c := by
  rcases h.2 with ⟨rfl, rfl⟩ | ⟨g, cap, cur, rfl, _⟩
  · exact ⟨none, 0, rfl⟩
  · exact ⟨_, _, rfl⟩
theorem own_over {W W' : World} {base : Nat} {T : TypeId} {size n : Nat} {v : Value} {xs : List Value} {r : Option Nat} (h : W.ownsRow base T size v n xs) (hg : W.grownBy W' r) (hne : ∀ j, v.ownBlock = some j → r ≠ some j) : W'.ownsRow base T size v n xs := by
  refine h.kept hg ?_
  rcases h.2 with ⟨rfl, _⟩ | ⟨g, cap, cur, rfl, _⟩
  · exact .inl rfl
  · exact .inr fun e => hne g rfl e.symm
theorem pairs_int (gs : List (Int × Int)) : ∀ u ∈ gs.flatMap pairCells, ∃ z, u = .int .i64 z := by
  intro u hu
  obtain ⟨g, _, hu⟩ := List.mem_flatMap.1 hu
  simp only [pairCells, List.mem_cons, List.not_mem_nil, or_false] at hu
  rcases hu with rfl | rfl <;> exact ⟨_, rfl⟩
theorem ints_int (q : List Int) : ∀ u ∈ q.map (Value.int .i64), ∃ z, u = .int .i64 z := by
  intro u hu
  obtain ⟨g, _, rfl⟩ := List.mem_map.1 hu
  exact ⟨_, rfl⟩
theorem turnR_len (n : Int) (gs : List (Int × Int)) (q : List Int) : (turnR n gs q).length ≤ 21 := by
  unfold turnR
  split
  · rename_i h
    unfold turnOK at h
    rw [Bool.and_eq_true] at h
    obtain ⟨k, rfl, h2, h7, hl, h21, _⟩ := obsV_of h.1
    rw [turnedOf_len, Int.toNat_natCast, ← hl]; exact h21
  · simp

set_option maxRecDepth 100000 in
set_option maxHeartbeats 4000000 in
theorem FnExactObserveTurn_walk (w : World) (n : Int) (_wf : (Lit.int .i64 n).wf = true)
    (A : Option Addr) (na capA : Nat) (gs : List (Int × Int)) (hn : gs.length = na) (hm : na ≤ 9223372036854775807) (hr : Rd w w.heap.size A (gs.flatMap pairCells)) (_hw : ∀ x ∈ gs, (Lit.int .i64 x.1).wf = true ∧ (Lit.int .i64 x.2).wf = true)
    (B : Option Addr) (nb capB : Nat) (q : List Int) (hn2 : q.length = nb) (hm2 : nb ≤ 9223372036854775807) (hr2 : Rd w w.heap.size B (q.map (Value.int .i64))) (_hw2 : ∀ x ∈ q, (Lit.int .i64 x).wf = true) :
    Calls Try.prog 10 #[.int .i64 n, .slice A na capA, .slice B nb capB] w fun e w' => e = .returned (.bool true) ∧ Below w.heap.size w w' := by
  have Hn := Lib.hid hn; clear hn
  have Hn2 := Lib.hid hn2; clear hn2
  by_cases hb2 : nb ≤ 1048576
  · have hnb : ¬ (1048576 : Int) < (nb : Int) := by omega
    by_cases hb1 : na ≤ 1048576
    · have hif : (if (1048576 : Int) < (na : Int) then (-1 : Int) else 1048576 - na) = 1048576 - na := if_neg (by omega)
      go_enter Try.func10, Try.ntmps10
      go_wp2_with fail
      refine (szGaussS_any A na capA 1048576 _ hm (by omega)).mono ?_
      rintro e w0 ⟨rfl, rfl⟩
      rw [hif]
      clear hif
      go_wp2_with fail
      refine (toGaussS_any A na capA gs _ Hn.out hb1 hr).mono ?_
      rintro e w1 ⟨rfl, r1, k1⟩
      have B1 := k1
      go_wp2_with fail
      refine (toIntS_any B nb capB q _ Hn2.out hb2 ((hr2.below B1).more B1.size)).mono ?_
      rintro e w2 ⟨rfl, r2, k2⟩
      have B2 := B1.trans (k2.mono B1.size)
      have r1 := r1.kept k2
      go_wp2_with fail
      refine (sObserveTurn_any n _ _ na na nb nb gs q _ Hn.out Hn2.out (by omega) (by omega) r1.rd r2.rd).mono ?_
      rintro e w3 ⟨v8, rfl, o8, k3⟩
      have B3 := B2.trans (k3.mono B2.size)
      clear r1 r2
      obtain ⟨A8, c8, rfl⟩ := own_form o8
      obtain ⟨L, hL⟩ : ∃ L, (turnR n gs q).length = L := ⟨_, rfl⟩
      have hL21 : L ≤ 21 := by rw [← hL]; exact turnR_len n gs q
      obtain ⟨S, hS⟩ : ∃ S, turnR n gs q = S := ⟨_, rfl⟩
      obtain ⟨ok, hok⟩ : ∃ ok, turnOK n gs q = ok := ⟨_, rfl⟩
      have hLS : S.length = L := by rw [← hS]; exact hL
      rw [hL, hS] at o8
      have l8 : ∀ j, (Value.slice A8 L c8).ownBlock = some j → w2.heap.size ≤ j ∧ j < w3.heap.size := fun j h => ⟨(own_lt o8 h).1, (own_lt o8 h).2.1⟩
      have O8 := Lib.hid o8; clear o8
      have L8 := Lib.hid l8; clear l8
      have HLS := Lib.hid hLS; clear hLS
      rw [hL, hok]
      go_wp2_with fail
      refine (toGaussS_any A na capA gs _ Hn.out hb1 ((hr.below B3).more B3.size)).mono ?_
      rintro e w4 ⟨rfl, r4, k4⟩
      have s4 := r4.lt
      have B4 := B3.trans (k4.mono B3.size)
      go_wp2_with fail
      refine (toIntS_any B nb capB q _ Hn2.out hb2 ((hr2.below B4).more B4.size)).mono ?_
      rintro e w5 ⟨rfl, r5, k5⟩
      have s5 := r5.lt
      have B5 := B4.trans (k5.mono B4.size)
      have r4 := r4.kept k5
      go_wp2_with fail
      refine (observeTurn_any n _ _ na na nb nb gs q _ Hn.out Hn2.out (by omega) (by omega) r4.rd r5.rd).mono ?_
      rintro e w6 ⟨v12, rfl, o12, k6⟩
      have B6 := B5.trans (k6.mono B5.size)
      have r4 := r4.kept k6
      have r5 := r5.kept k6
      obtain ⟨A12, c12, rfl⟩ := own_form o12
      rw [hL, hS] at o12
      have l12 : ∀ j, (Value.slice A12 L c12).ownBlock = some j → w5.heap.size ≤ j ∧ j < w6.heap.size := fun j h => ⟨(own_lt o12 h).1, (own_lt o12 h).2.1⟩
      have O12 := Lib.hid o12; clear o12
      have L12 := Lib.hid l12; clear l12
      have O8 := Lib.hid (own_ext (own_ext (own_ext O8.out k4) k5) k6)
      have hok2 : (ok != ok) = false := by simp
      rw [hL, hok]
      go_wp2_with fail
      refine (eqGaussS_any A12 A8 L L c12 c8 S S _ HLS.out HLS.out (by omega) (Rd.of_own O12.out) (Rd.of_own O8.out)).mono ?_
      rintro e w7 ⟨rfl, k7⟩
      have B7 := B6.trans (k7.mono B6.size)
      have r4 := r4.kept k7
      have r5 := r5.kept k7
      have O8 := Lib.hid (own_ext O8.out k7)
      have O12 := Lib.hid (own_ext O12.out k7)
      rw [decide_eq_true (rfl : S = S)]
      go_wp2_with fail
      refine (toGaussS_any A na capA gs _ Hn.out hb1 ((hr.below B7).more B7.size)).mono ?_
      rintro e w8 ⟨rfl, r8, k8⟩
      have B8 := B7.trans (k8.mono B7.size)
      have r4 := r4.kept k8
      have r5 := r5.kept k8
      have O8 := Lib.hid (own_ext O8.out k8)
      have O12 := Lib.hid (own_ext O12.out k8)
      go_wp2_with fail
      refine (eqGaussS_any _ _ na na na na gs gs _ Hn.out Hn.out (by omega) r4.rd r8.rd).mono ?_
      rintro e w9 ⟨rfl, k9⟩
      have B9 := B8.trans (k9.mono B8.size)
      clear r8
      have r4 := r4.kept k9
      have r5 := r5.kept k9
      have O8 := Lib.hid (own_ext O8.out k9)
      have O12 := Lib.hid (own_ext O12.out k9)
      rw [decide_eq_true (rfl : gs = gs)]
      go_wp2_with fail
      refine (toIntS_any B nb capB q _ Hn2.out hb2 ((hr2.below B9).more B9.size)).mono ?_
      rintro e w10 ⟨rfl, r10, k10⟩
      have B10 := B9.trans (k10.mono B9.size)
      have r4 := r4.kept k10
      have r5 := r5.kept k10
      have O8 := Lib.hid (own_ext O8.out k10)
      have O12 := Lib.hid (own_ext O12.out k10)
      go_wp2_with fail
      refine (eqIntS_any _ _ nb nb nb nb q q _ Hn2.out Hn2.out (by omega) r5.rd r10.rd).mono ?_
      rintro e w11 ⟨rfl, k11⟩
      have B11 := B10.trans (k11.mono B10.size)
      clear r10
      have r4 := r4.kept k11
      have r5 := r5.kept k11
      have O8 := Lib.hid (own_ext O8.out k11)
      have O12 := Lib.hid (own_ext O12.out k11)
      rw [decide_eq_true (rfl : q = q)]
      have S4 := Lib.hid s4; clear s4
      have S5 := Lib.hid s5; clear s5
      have hb11 := B11.size
      have h43 : w.heap.size ≤ w3.heap.size := B3.size
      have h44 : w.heap.size ≤ w4.heap.size := B4.size
      go_wp2_with fail
      refine (markGaussS_any w3.heap.size _ na na 1 _ _ (by omega) (by omega) (pairs_int gs) (r4.own (Nat.le_refl _) (by rw [pairCells_len, Hn.out]) (by unfold maxLen; omega))).mono ?_
      rintro e w12 ⟨rfl, _, g12⟩
      have t4 : ∀ j, (Value.slice (some ⟨w3.heap.size, 0, none⟩) na na).ownBlock = some j → w3.heap.size = j := fun j e => by simpa [Value.ownBlock] using e
      have t5 : ∀ j, (Value.slice (some ⟨w4.heap.size, 0, none⟩) nb nb).ownBlock = some j → w4.heap.size = j := fun j e => by simpa [Value.ownBlock] using e
      have B12 : Below w.heap.size w w12 := B11.grown g12 hb11 fun j e => by have := t4 j e; omega
      have r5 := r5.grown g12 (fun e => by have := t4 _ e.symm; have := S4.out; omega)
      have O8 := Lib.hid (own_over O8.out g12 fun j hj e => by have := t4 j e; have := (L8.out _ hj).2; omega)
      have O12 := Lib.hid (own_over O12.out g12 fun j hj e => by have := t4 j e; have := (L12.out _ hj).1; have := S4.out; have := S5.out; omega)
      go_wp2_with fail
      refine (markIntS_any w4.heap.size _ nb nb (1 + 2 * na) _ _ (by omega) (by omega) (ints_int q) (r5.own (Nat.le_refl _) (by rw [List.length_map, Hn2.out, Nat.mul_one]) (by unfold maxLen; omega))).mono ?_
      rintro e w13 ⟨rfl, _, g13⟩
      have B13 : Below w.heap.size w w13 := B12.grown g13 B12.size fun j e => by have := t5 j e; omega
      have O8 := Lib.hid (own_over O8.out g13 fun j hj e => by have := t5 j e; have := (L8.out _ hj).2; have := S4.out; omega)
      have O12 := Lib.hid (own_over O12.out g13 fun j hj e => by have := t5 j e; have := (L12.out _ hj).1; have := S5.out; omega)
      have T12 := Lib.hid (fun j (hj : (Value.slice A12 L c12).ownBlock = some j) => show w.heap.size ≤ j from Nat.le_trans B5.size (L12.out j hj).1)
      have D12 := Lib.hid (fun j (hj : (Value.slice A8 L c8).ownBlock = some j) (e : (Value.slice A12 L c12).ownBlock = some j) => show False from by
        have := (L8.out j hj).2; have := (L12.out j e).1; have := S4.out; have := S5.out; omega)
      clear t4 t5 r4 r5 hb11 h43 h44
      clear B1 B2 B3 B4 B5 B6 B7 B8 B9 B10 B11 B12 k1 k2 k3 k4 k5 k6 k7 k8 k9 k10 k11 g12 g13
      go_wp2_with fail
      refine (eqGaussS_any A12 A8 L L c12 c8 S S _ HLS.out HLS.out (by omega) (Rd.of_own O12.out) (Rd.of_own O8.out)).mono ?_
      rintro e w14 ⟨rfl, k14⟩
      have B14 := B13.trans (k14.mono B13.size)
      have O8 := Lib.hid (own_ext O8.out k14)
      have O12 := Lib.hid (own_ext O12.out k14)
      rw [decide_eq_true (rfl : S = S)]
      go_wp2_with fail
      refine (markGaussS_any _ A12 L c12 1 _ _ (by omega) (by omega) (pairs_int S) O12.out).mono ?_
      rintro e w15 ⟨rfl, o15, g15⟩
      have B15 : Below w.heap.size w w15 := B14.grown g15 B14.size fun j e => T12.out j e
      have O8 := Lib.hid (own_over O8.out g15 fun j hj e => D12.out j hj e)
      have O12 := Lib.hid o15
      clear o15 g15
      go_wp2_with fail
      refine (heldGaussS_any A12 L c12 1 _ (by omega) (by omega) (Rd.of_own O12.out)).mono ?_
      rintro e w16 ⟨rfl, rfl⟩
      have hne : ((1 : Int) + 2 * L != 1 + 2 * L) = false := by simp
      go_wp2_with fail
      refine (toGaussS_any A na capA gs _ Hn.out hb1 ((hr.below B15).more B15.size)).mono ?_
      rintro e w17 ⟨rfl, r17, k17⟩
      have B17 := B15.trans (k17.mono B15.size)
      have O8 := Lib.hid (own_ext O8.out k17)
      have O12 := Lib.hid (own_ext O12.out k17)
      go_wp2_with fail
      refine (toIntS_any B nb capB q _ Hn2.out hb2 ((hr2.below B17).more B17.size)).mono ?_
      rintro e w18 ⟨rfl, r18, k18⟩
      have B18 := B17.trans (k18.mono B17.size)
      have r17 := r17.kept k18
      have O8 := Lib.hid (own_ext O8.out k18)
      have O12 := Lib.hid (own_ext O12.out k18)
      go_wp2_with fail
      refine (observeTurn_any n _ _ na na nb nb gs q _ Hn.out Hn2.out (by omega) (by omega) r17.rd r18.rd).mono ?_
      rintro e w19 ⟨v19, rfl, o19, k19⟩
      have B19 := B18.trans (k19.mono B18.size)
      obtain ⟨A19, c19, rfl⟩ := own_form o19
      rw [hL, hS] at o19
      have O19 := Lib.hid o19; clear o19 r17 r18
      have O8 := Lib.hid (own_ext O8.out k19)
      have O12 := Lib.hid (own_ext O12.out k19)
      rw [hL, hok]
      go_wp2_with fail
      refine (eqGaussS_any A19 A8 L L c19 c8 S S _ HLS.out HLS.out (by omega) (Rd.of_own O19.out) (Rd.of_own O8.out)).mono ?_
      rintro e w20 ⟨rfl, k20⟩
      have B20 := B19.trans (k20.mono B19.size)
      have O12 := Lib.hid (own_ext O12.out k20)
      rw [decide_eq_true (rfl : S = S)]
      go_wp2_with fail
      refine (heldGaussS_any A12 L c12 1 _ (by omega) (by omega) (Rd.of_own O12.out)).mono ?_
      rintro e w21 ⟨rfl, rfl⟩
      go_wp2_with fail
      go_ret
      exact ⟨rfl, B20⟩
    · have hif : (if (1048576 : Int) < (na : Int) then (-1 : Int) else 1048576 - na) = -1 := if_pos (by omega)
      go_enter Try.func10, Try.ntmps10
      go_wp2_with fail
      refine (szGaussS_any A na capA 1048576 _ hm (by omega)).mono ?_
      rintro e w0 ⟨rfl, rfl⟩
      rw [hif]
      clear hif
      go_wp2_with fail
      go_ret
      exact ⟨rfl, Below.refl _ _⟩
  · go_enter Try.func10, Try.ntmps10
    go_wp2_with fail
    go_ret
    exact ⟨rfl, Below.refl _ _⟩
end Go.Proofs.Ytklhjofhmcaflaa
