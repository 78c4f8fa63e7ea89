/- FnTripleNorm returns true at every input, and leaves what was there. -/
import Derived.Test.YtklhjofhmcaflaaDrawQ
import Derived.Test.YtklhjofhmcaflaaLawObserveTurnAll
namespace Go.Proofs.Ytklhjofhmcaflaa
open Go.RowKit

theorem sq_nonneg (a : Int) : 0 ≤ a * a := by
  rcases Int.le_total 0 a with h | h
  · exact Int.mul_nonneg h h
  · exact Int.mul_nonneg_of_nonpos_of_nonpos h h
theorem gNorm_nonneg {a b : Int} (h : gv a b = true) : 0 ≤ gNorm a b := by
  rw [gNorm_yes h]; have := sq_nonneg a; have := sq_nonneg b; omega
theorem tripV_ok {n : Int} {gs : List (Int × Int)} {i j k : Int} (h : (tripV n gs i j k).2 = true) : tripOK n gs i j k = true := by
  cases h2 : tripOK n gs i j k
  · rw [tripV_no h2] at h; cases h
  · rfl

set_option maxRecDepth 100000 in
set_option maxHeartbeats 4000000 in
theorem FnTripleNorm_walk (w : World) (A : Option Addr) (n cap : Nat) (bs : List Int) (hn : bs.length = n) (hm : n ≤ 9223372036854775807) (hr : Rd w w.heap.size A (bs.map (Value.int .u8))) (hw : ∀ x ∈ bs, (Lit.int .u8 x).wf = true) (hk : n ≤ cap) :
    Calls Try.prog 8 #[.slice A n cap] w fun e w' => e = .returned (.bool true) ∧ Below w.heap.size w w' := by
  have Hbs := Lib.hid (bytesOk_of hw); clear hw
  by_cases hb : n ≤ 1048576
  · have hnb : ¬ (1048576 : Int) < (n : Int) := by omega
    go_enter Try.func8, Try.ntmps8
    go_wp2_with fail
    refine (drawObserveTriple_any A n cap bs w hn hm hk Hbs.out hr).mono ?_
    rintro e w1 ⟨N, A1, k1, c1, gs, i, j, k, rfl, hN3, hN6, hgs, hk1, hr1, hi, hj, hk, B1⟩
    obtain ⟨V, hV⟩ : ∃ V, tripV (N : Int) gs i j k = V := ⟨_, rfl⟩
    have Hgs := Lib.hid hgs; clear hgs
    have HV := Lib.hid hV; clear hV
    clear hr hn
    go_wp2_with fail
    refine (observeTriple_any N A1 k1 c1 gs i j k _ Hgs.out (by omega) hr1).mono ?_
    rintro e w2 ⟨rfl, b2⟩
    rw [HV.out]
    have B2 := B1.trans (b2.mono B1.size)
    have hr1 := (hr1.below b2).more b2.size
    have rx := Row.new w2 33 [.int .i64 V.1.1, .int .i64 V.1.2]
    have E2 := bA1 (w := w2) (o := .cells #[.int .i64 V.1.1, .int .i64 V.1.2] 33)
    have hr1 := hr1.ext E2
    have B2 := B2.alloc B2.size (.cells #[.int .i64 V.1.1, .int .i64 V.1.2] 33)
    clear b2 E2
    go_wp2_with fail
    refine (sObserveTriple_any N A1 k1 c1 gs i j k _ Hgs.out (by omega) hr1).mono ?_
    rintro e w3 ⟨rfl, b3⟩
    rw [HV.out]
    have B3 := B2.trans (b3.mono B2.size)
    have hr1 := (hr1.below b3).more b3.size
    have rx := rx.kept b3
    obtain ⟨x0, x1, _, _⟩ := rx.two
    have hlt := rx.lt
    have hne : w2.heap.size ≠ w3.heap.size := by omega
    have bV : (V.2 == V.2) = true := beq_self_eq_true _
    obtain ⟨ok, hok⟩ : ∃ ok, V.2 = ok := ⟨_, rfl⟩
    rw [hok]
    have Hok := Lib.hid hok
    clear hok
    cases ok
    · go_wp2_with fail
      go_ret
      exact ⟨rfl, B3.alloc B3.size _⟩
    · have hT := tripV_ok (by rw [HV.out]; exact Hok.out)
      obtain ⟨h1, hi0, hij, hjk, hkn⟩ := tripOK_iff.1 hT
      obtain ⟨N', hN', N2, N7, hl, hl21, hv⟩ := obsV_of h1
      obtain rfl : N = N' := by omega
      have hbm := bm_pairs N N2 N7
      rw [← hl, Hgs.out] at hbm
      obtain ⟨p1, q1⟩ := bF_bd N i j (by omega) (by omega) (by omega)
      obtain ⟨p2, q2⟩ := bF_bd N j k (by omega) (by omega) (by omega)
      obtain ⟨p3, q3⟩ := bF_bd N i k (by omega) (by omega) (by omega)
      have hTV := tripV_yes hT
      obtain ⟨x, hx⟩ : ∃ x : Nat, bF N i j = x := ⟨_, (Int.toNat_of_nonneg p1).symm⟩
      obtain ⟨y, hy⟩ : ∃ y : Nat, bF N j k = y := ⟨_, (Int.toNat_of_nonneg p2).symm⟩
      obtain ⟨z, hz⟩ : ∃ z : Nat, bF N i k = z := ⟨_, (Int.toNat_of_nonneg p3).symm⟩
      rw [hx, hy, hz] at hTV
      simp only [Int.toNat_natCast] at hTV
      have hxm : x < k1 := by omega
      have hym : y < k1 := by omega
      have hzm : z < k1 := by omega
      have t1 : ∀ w, Calls Try.prog 32 #[.int .i64 N, .int .i64 i, .int .i64 j] w fun e w' => e = .returned (.int .i64 x) ∧ w = w' := fun w => by
        have := baseIndex_lt N i j w (by omega) (by omega) (by omega); rwa [hx] at this
      have t2 : ∀ w, Calls Try.prog 32 #[.int .i64 N, .int .i64 j, .int .i64 k] w fun e w' => e = .returned (.int .i64 y) ∧ w = w' := fun w => by
        have := baseIndex_lt N j k w (by omega) (by omega) (by omega); rwa [hy] at this
      have t3 : ∀ w, Calls Try.prog 32 #[.int .i64 N, .int .i64 i, .int .i64 k] w fun e w' => e = .returned (.int .i64 z) ∧ w = w' := fun w => by
        have := baseIndex_lt N i k w (by omega) (by omega) (by omega); rwa [hz] at this
      have ga := List.all_eq_true.1 hv _ (List.mem_of_getElem? (getD_of (gs := gs) (k := x) (by rw [Hgs.out]; exact hxm)))
      have gb := List.all_eq_true.1 hv _ (List.mem_of_getElem? (getD_of (gs := gs) (k := y) (by rw [Hgs.out]; exact hym)))
      have gc := List.all_eq_true.1 hv _ (List.mem_of_getElem? (getD_of (gs := gs) (k := z) (by rw [Hgs.out]; exact hzm)))
      obtain ⟨b, off, rfl, hb1, ca1, ca2⟩ := rd_pair hr1 (getD_of (gs := gs) (k := x) (by rw [Hgs.out]; exact hxm))
      generalize ha : gs.getD x (0, 0) = a at *
      generalize hb' : gs.getD y (0, 0) = b' at *
      generalize hc : gs.getD z (0, 0) = c at *
      have hnorm : gNorm V.1.1 V.1.2 = gNorm a.1 a.2 * gNorm b'.1 b'.2 * gNorm c.1 c.2 ∧ gv V.1.1 V.1.2 = true := by
        have h2 : (trip3 a b' c).2 = true := by rw [← hTV, HV.out]; exact Hok.out
        have := trip3_norm h2
        rwa [← hTV, HV.out] at this
      have na := gNorm_nonneg ga
      have nb := gNorm_nonneg gb
      have nc := gNorm_nonneg gc
      obtain ⟨hnv, hgv⟩ := hnorm
      generalize hna : gNorm a.1 a.2 = u at *
      generalize hnb : gNorm b'.1 b'.2 = v at *
      generalize hnc : gNorm c.1 c.2 = t at *
      have hbA : b ≠ w3.heap.size := by omega
      clear hx hy hz p1 p2 p3 q1 q2 q3 hbm hl hT hTV ga gb gc
      have T1 := Lib.hid t1; clear t1
      have T2 := Lib.hid t2; clear t2
      have T3 := Lib.hid t3; clear t3
      have H1 := Lib.hid h1; clear h1
      have Hv := Lib.hid hv; clear hv
      have Hnv := Lib.hid hnv; clear hnv
      have Hgv := Lib.hid hgv; clear hgv
      have Ha := Lib.hid ha; clear ha
      have Hb' := Lib.hid hb'; clear hb'
      have Hc := Lib.hid hc; clear hc
      have Hna := Lib.hid hna; clear hna
      have Hnb := Lib.hid hnb; clear hnb
      have Hnc := Lib.hid hnc; clear hnc
      go_wp2_with fail
      refine (T1.out _).mono ?_
      rintro e w4 ⟨rfl, rfl⟩
      go_wp2_with fail
      refine (gaussNorm_any a.1 a.2 _).mono ?_
      rintro e w5 ⟨rfl, b5⟩
      rw [Hna.out]
      have B5 := (B3.alloc B3.size (.cells #[.int .i64 V.1.1, .int .i64 V.1.2] 33)).trans (b5.mono (B3.alloc B3.size _).size)
      have hr5 := (hr1.ext (bA1 (o := .cells #[.int .i64 V.1.1, .int .i64 V.1.2] 33))).ext b5
      have rx := (rx.alloc (.cells #[.int .i64 V.1.1, .int .i64 V.1.2] 33)).kept b5
      obtain ⟨_, _, e2, hb2, cb1, cb2⟩ := rd_pair hr5 (getD_of (gs := gs) (k := y) (by rw [Hgs.out]; exact hym))
      cases e2
      rw [Hb'.out] at cb1 cb2
      clear x0 x1 ca1 ca2 b5 hr1
      go_wp2_with fail
      refine (T2.out _).mono ?_
      rintro e w4 ⟨rfl, rfl⟩
      go_wp2_with fail
      refine (gaussNorm_any b'.1 b'.2 _).mono ?_
      rintro e w6 ⟨rfl, b6⟩
      rw [Hnb.out]
      have B6 := B5.trans (b6.mono B5.size)
      have hr6 := hr5.ext b6
      have rx := rx.kept b6
      obtain ⟨_, _, e2, hb2, cc1, cc2⟩ := rd_pair hr6 (getD_of (gs := gs) (k := z) (by rw [Hgs.out]; exact hzm))
      cases e2
      rw [Hc.out] at cc1 cc2
      clear cb1 cb2 b6 hr5
      go_wp2_with fail
      refine (T3.out _).mono ?_
      rintro e w4 ⟨rfl, rfl⟩
      go_wp2_with fail
      refine (gaussNorm_any c.1 c.2 _).mono ?_
      rintro e w7 ⟨rfl, b7⟩
      rw [Hnc.out]
      have B7 := B6.trans (b7.mono B6.size)
      have rx := rx.kept b7
      obtain ⟨x0, x1, _, _⟩ := rx.two
      clear cc1 cc2 b7 hr6
      by_cases hbig : 1000 < u ∨ 1000 < v ∨ 1000 < t
      · have fin : ∀ w, Calls Try.prog 33 #[.agg #[.int .i64 V.1.1, .int .i64 V.1.2]] w fun e w' => e = .returned (.bool true) ∧ Below w.heap.size w w' := fun w => by
          have := gaussValid_any V.1.1 V.1.2 w; rwa [Hgv.out] at this
        have Fin := Lib.hid fin; clear fin
        have hb3 : 1000 < u ∨ (¬ 1000 < u ∧ 1000 < v) ∨ (¬ 1000 < u ∧ ¬ 1000 < v ∧ 1000 < t) := by omega
        clear hbig
        rcases hb3 with hb1 | ⟨hb0, hb1⟩ | ⟨hb0, hb1, hb2⟩
        all_goals
          go_wp2_with fail
          refine (Fin.out _).mono ?_
          rintro e w8 ⟨rfl, b8⟩
          go_wp2_with fail
          go_ret
          exact ⟨rfl, B7.trans (b8.mono B7.size)⟩
      · obtain ⟨g1, g2, g3⟩ : ¬ 1000 < u ∧ ¬ 1000 < v ∧ ¬ 1000 < t := by omega
        have m1 := mul_bd u v 1000 1000 (by omega) (by omega)
        have m1' : 0 ≤ u * v := Int.mul_nonneg na nb
        have m2 := mul_bd (u * v) t 1000000 1000 (by omega) (by omega)
        have m2' : 0 ≤ u * v * t := Int.mul_nonneg m1' nc
        simp only [Int.reduceMul, Int.reduceNeg] at m1 m2
        clear hbig
        go_wp2_with fail
        refine (gaussNorm_any V.1.1 V.1.2 _).mono ?_
        rintro e w8 ⟨rfl, b8⟩
        rw [Hnv.out]
        go_wp2_with fail
        go_ret
        exact ⟨by simp, B7.trans (b8.mono B7.size)⟩
  · have hnb : (1048576 : Int) < (n : Int) := by omega
    go_enter Try.func8, Try.ntmps8
    go_wp2_with fail
    go_ret
    exact ⟨rfl, Below.refl _ _⟩
end Go.Proofs.Ytklhjofhmcaflaa
