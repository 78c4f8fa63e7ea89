/- FnObserveShiftTriple returns true at every input, and leaves what was there. -/
import Derived.Test.YtcllkocmnohnkaaObsT
import Derived.Test.YtcllkocmnohnkaaTripleI
namespace Go.Proofs.Ytcllkocmnohnkaa
open Go.RowKit

set_option maxRecDepth 100000 in
set_option maxHeartbeats 1000000 in
theorem FnObserveShiftTriple_walk (w : World) (A : Option Addr) (n cap : Nat) (bs : List Int) (hn : bs.length = n) (hm : n ≤ 9223372036854775807) (hr : Rd w w.heap.size A (bs.map (Value.int .u8))) (hw : ∀ x ∈ bs, (Lit.int .u8 x).wf = true) (hk : n ≤ cap) (C : Option Addr) (nC capC : Nat) (ms : List Int) (_ : ms.length = nC) (_ : nC ≤ 9223372036854775807) (_ : Rd w w.heap.size C (ms.map (Value.int .u8))) (_ : ∀ x ∈ ms, (Lit.int .u8 x).wf = true) (_ : nC ≤ capC) :
    Calls Try.prog 19 #[.slice A n cap, .slice C nC capC] w fun e w' => e = .returned (.bool true) ∧ Below w.heap.size w w' := by
  have Hbs := Lib.hid (bytesOk_of hw); clear hw
  by_cases hb : n ≤ 1048576 ∧ nC ≤ 1048576
  · obtain ⟨hb, hbC⟩ := hb
    have hnb : ¬ (1048576 : Int) < (n : Int) := by omega
    have hnbC : ¬ (1048576 : Int) < (nC : Int) := by omega
    obtain ⟨d, hd0⟩ : ∃ d : Nat, 4 * (nC / 4 % 4) + nC % 4 = d := ⟨_, rfl⟩
    have hd16 : d < 16 := by omega
    have hda : (d : Int) % 4 = (nC : Int) % 4 := by omega
    have hdb : (d : Int) / 4 = (nC : Int) / 4 % 4 := by omega
    clear hd0
    have Hda := Lib.hid hda; clear hda
    have Hdb := Lib.hid hdb; clear hdb
    go_enter Try.func19, Try.ntmps19
    go_wp2_with fail
    refine (drawObserveOf_any A n cap bs w hn hm hk Hbs.out hr).mono ?_
    rintro e w1 ⟨A1, k1, c1, ants, A2, k2, c2, s, rfl, ha, hk1, hkc, hr1, hs, hk2, hr2, B1⟩
    have Ha := Lib.hid ha; clear ha
    have Hs := Lib.hid hs; clear hs
    clear hr hn
    go_wp2_with fail
    refine (observeOf_any A1 A2 k1 k2 c1 c2 ants s _ Ha.out Hs.out hkc (by omega) (by omega) hr1 hr2).mono ?_
    rintro e w2 ⟨v, rfl, o2, b2⟩
    have B2 := B1.trans (b2.mono B1.size)
    have extX := (hr1.below b2).more b2.size; clear hr1; have hr1 := extX; clear extX
    have extX := (hr2.below b2).more b2.size; clear hr2; have hr2 := extX; clear extX
    obtain ⟨A3, c3, rfl⟩ := own_form o2
    have O2 := Lib.hid o2
    clear o2 b2
    go_wp2_with fail
    refine (sObserveOf_any A1 A2 k1 k2 c1 c2 ants s _ Ha.out Hs.out (by omega) (by omega) hr1 hr2).mono ?_
    rintro e w3 ⟨v, rfl, o3, b3⟩
    have B3 := B2.trans (b3.mono B2.size)
    have extX := (hr1.below b3).more b3.size; clear hr1; have hr1 := extX; clear extX
    have extX := (hr2.below b3).more b3.size; clear hr2; have hr2 := extX; clear extX
    have extX := Lib.hid (own_ext O2.out b3); clear O2; have O2 := extX; clear extX
    obtain ⟨A4, c4, rfl⟩ := own_form o3
    have O3 := Lib.hid o3
    clear o3 b3
    have hLb := obsR_len ants s
    obtain ⟨L, hL⟩ : ∃ L, (obsR ants s).length = L := ⟨_, rfl⟩
    obtain ⟨S, hS⟩ : ∃ S, obsR ants s = S := ⟨_, rfl⟩
    have hSL : S.length = L := by rw [← hS]; exact hL
    have O2 := O2.out
    have O3 := O3.out
    rw [hL, hS] at O2 O3
    rw [hL] at hLb ⊢
    have hidX := Lib.hid O2; clear O2; have O2 := hidX; clear hidX
    have hidX := Lib.hid O3; clear O3; have O3 := hidX; clear hidX
    have HSL := Lib.hid hSL; clear hSL
    have HL := Lib.hid hL; clear hL
    have HS := Lib.hid hS; clear hS
    obtain ⟨ok, hok⟩ : ∃ ok, (arrV ants && skyV s) = ok := ⟨_, rfl⟩
    rw [hok]
    have hne : (ok != ok) = false := by simp
    have Hok := Lib.hid hok
    clear hok
    go_wp2_with fail
    refine (sameGrid_any A3 A4 L L c3 c4 S S _ HSL.out HSL.out (by omega) (Rd.of_own O2.out) (Rd.of_own O3.out)).mono ?_
    rintro e w4 ⟨rfl, b4⟩
    have B4 := B3.trans (b4.mono B3.size)
    have extX := (hr1.below b4).more b4.size; clear hr1; have hr1 := extX; clear extX
    have extX := (hr2.below b4).more b4.size; clear hr2; have hr2 := extX; clear extX
    have extX := Lib.hid (own_ext O2.out b4); clear O2; have O2 := extX; clear extX
    have extX := Lib.hid (own_ext O3.out b4); clear O3; have O3 := extX; clear extX
    clear b4
    rw [decide_eq_true (rfl : S = S)]
    cases ok
    · go_wp2_with fail
      refine (sameGrid_any A3 A4 L L c3 c4 S S _ HSL.out HSL.out (by omega) (Rd.of_own O2.out) (Rd.of_own O3.out)).mono ?_
      rintro e w5 ⟨rfl, b5⟩
      rw [decide_eq_true (rfl : S = S)]
      go_wp2_with fail
      go_ret
      exact ⟨rfl, B4.trans (b5.mono B4.size)⟩
    · obtain ⟨hva, hvs⟩ := Bool.and_eq_true_iff.1 Hok.out
      have han := arrV_len hva
      rw [Ha.out] at han
      obtain rfl : k2 = 16 := by rw [← Hs.out]; exact skyV_len hvs
      have hSo : S = obsL ants s := by rw [← HS.out]; exact obsR_yes hva hvs
      have hLp : L = (pairsN k1).length := by rw [← HSL.out, hSo, obsL_len, Ha.out]
      have hL1 : 1 ≤ L := by rw [hLp]; exact pairs_pos k1 han.1 han.2
      have HSo := Lib.hid hSo; clear hSo
      have Hva := Lib.hid hva; clear hva
      have Hvs := Lib.hid hvs; clear hvs
      have HLp := Lib.hid hLp; clear hLp
      go_wp2_with fail
      refine (skyShift_yes A2 c2 s d _ _ _ Hvs.out hd16 Hda.out Hdb.out hr2).mono ?_
      rintro e w5 ⟨rfl, r5, b5⟩
      have B5 := B4.trans (b5.mono B4.size)
      have extX := (hr1.below b5).more b5.size; clear hr1; have hr1 := extX; clear extX
      have extX := Lib.hid (own_ext O2.out b5); clear O2; have O2 := extX; clear extX
      clear b5
      have Hvsh := Lib.hid (skyV_sh Hvs.out d)
      go_wp2_with fail
      refine (observeOf_any A1 _ k1 16 c1 16 ants (shL s d) _ Ha.out (shL_len _ _) hkc (by omega) (by omega) hr1 r5.rd).mono ?_
      rintro e w9 ⟨v, rfl, o9, b9⟩
      rw [Hva.out, Hvsh.out]
      rw [obsR_yes Hva.out Hvsh.out] at o9
      have hzl : (obsL ants (shL s d)).length = L := by rw [obsL_len, Ha.out, HLp.out]
      rw [hzl] at o9
      obtain ⟨A9, c9, rfl⟩ := own_form o9
      have hrZ := Rd.of_own o9
      have B9 := B5.trans (b9.mono B5.size)
      have extX := Lib.hid (own_ext O2.out b9); clear O2; have O2 := extX; clear extX
      have hts := trip_shift Hva.out Hvs.out d hd16 0 1 (k1 - 1)
      rw [Ha.out, ← HSo.out, show ((k1 - 1 : Nat) : Int) = (k1 : Int) - 1 from by omega] at hts
      obtain ⟨Z, hZ⟩ : ∃ Z, obsL ants (shL s d) = Z := ⟨_, rfl⟩
      rw [hZ] at hts hzl hrZ
      have hno : k1 = 2 → (tripV k1 S 0 1 ((k1 : Int) - 1)).2 = false := fun e => by
        rw [tripV_no]
        cases h : tripOK k1 S 0 1 ((k1 : Int) - 1)
        · rfl
        · have := tripOK_iff.1 h; omega
      have Hts := Lib.hid hts; clear hts
      have Hzl := Lib.hid hzl; clear hzl
      have HZ := Lib.hid hZ; clear hZ
      clear o9 b9 r5
      go_wp2_with fail
      refine (observeTriple_any k1 A3 L c3 S 0 1 _ _ HSL.out (by omega) (Rd.of_own O2.out)).mono ?_
      rintro e w10 ⟨rfl, b10⟩
      obtain ⟨T, hT⟩ : ∃ T, tripV (k1 : Int) S 0 1 ((k1 : Int) - 1) = T := ⟨_, rfl⟩
      rw [hT] at hno ⊢
      have B10 := B9.trans (b10.mono B9.size)
      have hbs10 := B10.size
      have extX := (hrZ.below b10).more b10.size; clear hrZ; have hrZ := extX; clear extX
      have Hno := Lib.hid hno
      clear b10 hno
      have HT := Lib.hid hT
      clear hT
      go_wp2_with fail
      have rx := Row.new w10 49 [.int .i64 T.1.1, .int .i64 T.1.2]
      have B11 := B10.alloc hbs10 (.cells #[.int .i64 T.1.1, .int .i64 T.1.2] 49)
      have hrZ' := hrZ.ext (bA1 (o := .cells #[.int .i64 T.1.1, .int .i64 T.1.2] 49))
      refine (observeTriple_any k1 A9 L c9 Z 0 1 _ _ Hzl.out (by omega) hrZ').mono ?_
      rintro e w12 ⟨rfl, b12⟩
      rw [show tripV (k1 : Int) Z 0 1 ((k1 : Int) - 1) = T from Hts.out.trans HT.out]
      have rx := rx.kept b12
      have B12 := B11.trans (b12.mono B11.size)
      have hbs12 := B12.size
      have hne2 := rx.lt
      obtain ⟨x0, x1, _, _⟩ := rx.two
      clear b12 B11
      have B13 := B12.alloc hbs12 (.cells #[.int .i64 T.1.1, .int .i64 T.1.2] 49)
      cases h2 : T.2
      · have H2 := Lib.hid h2; clear h2
        by_cases hk2 : k1 = 2
        · subst hk2
          go_wp2_with fail
          go_ret
          exact ⟨rfl, B13⟩
        · have hk2 : (2 : Int) < (k1 : Int) := by omega
          go_wp2_with fail
          go_ret
          exact ⟨rfl, B13⟩
      · have hk2 : (2 : Int) < (k1 : Int) := by
          by_cases e : k1 = 2
          · rw [Hno.out e] at h2; cases h2
          · omega
        have H2 := Lib.hid h2; clear h2
        go_wp2_with fail
        go_ret
        exact ⟨rfl, B13⟩
  · have hnb : (1048576 : Int) < (n : Int) ∨ (1048576 : Int) < (nC : Int) := by omega
    by_cases h1 : n ≤ 1048576
    · have hnb : ¬ (1048576 : Int) < (n : Int) := by omega
      have hnbC : (1048576 : Int) < (nC : Int) := by omega
      go_enter Try.func19, Try.ntmps19
      go_wp2_with fail
      go_ret
      exact ⟨rfl, Below.refl _ _⟩
    · have hnb : (1048576 : Int) < (n : Int) := by omega
      go_enter Try.func19, Try.ntmps19
      go_wp2_with fail
      go_ret
      exact ⟨rfl, Below.refl _ _⟩
end Go.Proofs.Ytcllkocmnohnkaa
