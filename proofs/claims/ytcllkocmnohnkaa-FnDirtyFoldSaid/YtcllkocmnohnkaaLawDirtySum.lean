/- FnDirtySum returns true at every input, and leaves what was there. -/
import Derived.Test.YtcllkocmnohnkaaDirtyT
import Derived.Test.YtcllkocmnohnkaaDrawS
import Derived.Test.YtcllkocmnohnkaaLawBeam
namespace Go.Proofs.Ytcllkocmnohnkaa
open Go.RowKit

theorem dirtyR_some {s : List Int} {c : List Bool} (h : (dirtyR s c).isSome = true) : skyV s = true ∧ covV c = true ∧ skyV (dirtyL s c) = true ∧ dirtyR s c = some (dirtyL s c) := by
  unfold dirtyR at h ⊢
  split at h
  · rename_i hc
    obtain ⟨h1, h2⟩ := hc
    rw [Bool.and_eq_true] at h1
    exact ⟨h1.1, h1.2, h2, by rw [if_pos ⟨by rw [h1.1, h1.2]; rfl, h2⟩]⟩
  · cases h

set_option maxRecDepth 100000 in
set_option maxHeartbeats 1000000 in
theorem FnDirtySum_walk (w : World) (A : Option Addr) (n cap : Nat) (bs : List Int) (hn : bs.length = n) (hm : n ≤ 9223372036854775807) (hr : Rd w w.heap.size A (bs.map (Value.int .u8))) (hw : ∀ x ∈ bs, (Lit.int .u8 x).wf = true) (hk : n ≤ cap) :
    Calls Try.prog 9 #[.slice A n cap] w fun e w' => e = .returned (.bool true) ∧ Below w.heap.size w w' := by
  have Hbs := Lib.hid (bytesOk_of hw); clear hw
  by_cases hb : n ≤ 1048576
  · have hnb : ¬ (1048576 : Int) < (n : Int) := by omega
    go_enter Try.func9, Try.ntmps9
    go_wp2_with fail
    refine (drawDirtyOf_any A n cap bs w hn hm hk Hbs.out hr).mono ?_
    rintro e w1 ⟨A1, k1, c1, s, A2, k2, c2, cs, rfl, hs, hk1, hr1, hcs, hk2, hr2, B1⟩
    have Hs := Lib.hid hs; clear hs
    have Hcs := Lib.hid hcs; clear hcs
    clear hr hn
    go_wp2_with fail
    refine (dirtyOf_any A1 A2 k1 k2 c1 c2 s cs _ Hs.out Hcs.out (by omega) hr1 hr2).mono ?_
    rintro e w2 ⟨v, rfl, o2, b2⟩
    have B2 := B1.trans (b2.mono B1.size)
    have extX := (hr1.below b2).more b2.size; clear hr1; have hr1 := extX; clear extX
    have extX := (hr2.below b2).more b2.size; clear hr2; have hr2 := extX; clear extX
    obtain ⟨A3, c3, rfl⟩ := own_form o2
    have O2 := Lib.hid o2
    clear o2 b2
    go_wp2_with fail
    refine (sDirtyOf_any A1 A2 k1 k2 c1 c2 s cs _ Hs.out Hcs.out (by omega) hr1 hr2).mono ?_
    rintro e w3 ⟨v, rfl, o3, b3⟩
    have B3 := B2.trans (b3.mono B2.size)
    have extX := (hr1.below b3).more b3.size; clear hr1; have hr1 := extX; clear extX
    have extX := (hr2.below b3).more b3.size; clear hr2; have hr2 := extX; clear extX
    have extX := Lib.hid (own_ext O2.out b3); clear O2; have O2 := extX; clear extX
    obtain ⟨A4, c4, rfl⟩ := own_form o3
    have O3 := Lib.hid o3
    clear o3 b3
    have hLb : ((dirtyR s cs).getD []).length ≤ 16 := by unfold dirtyR; split <;> simp [dirtyL_len]
    obtain ⟨L, hL⟩ : ∃ L, ((dirtyR s cs).getD []).length = L := ⟨_, rfl⟩
    obtain ⟨S, hS⟩ : ∃ S, (dirtyR s cs).getD [] = S := ⟨_, rfl⟩
    have hSL : S.length = L := by rw [← hS]; exact hL
    have O2 := O2.out
    have O3 := O3.out
    rw [hL, hS] at O2 O3
    rw [hL] at hLb ⊢
    have hidX := Lib.hid O2; clear O2; have O2 := hidX; clear hidX
    have hidX := Lib.hid O3; clear O3; have O3 := hidX; clear hidX
    have HSL := Lib.hid hSL; clear hSL
    have HL := Lib.hid hL; clear hL
    have HS := Lib.hid hS; clear hS
    obtain ⟨ok, hok⟩ : ∃ ok, (dirtyR s cs).isSome = ok := ⟨_, rfl⟩
    rw [hok]
    have hne : (ok != ok) = false := by simp
    have Hok := Lib.hid hok
    clear hok
    go_wp2_with fail
    refine (sameInts_any A3 A4 L L c3 c4 S S _ HSL.out HSL.out (by omega) (Rd.of_own O2.out) (Rd.of_own O3.out)).mono ?_
    rintro e w4 ⟨rfl, b4⟩
    have B4 := B3.trans (b4.mono B3.size)
    have extX := (hr1.below b4).more b4.size; clear hr1; have hr1 := extX; clear extX
    have extX := (hr2.below b4).more b4.size; clear hr2; have hr2 := extX; clear extX
    have extX := Lib.hid (own_ext O2.out b4); clear O2; have O2 := extX; clear extX
    have extX := Lib.hid (own_ext O3.out b4); clear O3; have O3 := extX; clear extX
    clear b4
    rw [decide_eq_true (rfl : S = S)]
    cases ok
    · go_wp2_with fail
      refine (sameInts_any A3 A4 L L c3 c4 S S _ HSL.out HSL.out (by omega) (Rd.of_own O2.out) (Rd.of_own O3.out)).mono ?_
      rintro e w5 ⟨rfl, b5⟩
      rw [decide_eq_true (rfl : S = S)]
      go_wp2_with fail
      go_ret
      exact ⟨rfl, B4.trans (b5.mono B4.size)⟩
    · have hdr := dirtyR_some Hok.out
      obtain rfl : k1 = 16 := by rw [← Hs.out]; exact skyV_len hdr.1
      obtain rfl : k2 = 16 := by rw [← Hcs.out]; exact covV_len hdr.2.1
      have hSb : S = dirtyL s cs := by rw [← HS.out, hdr.2.2.2]; rfl
      obtain rfl : L = 16 := by rw [← HSL.out, hSb]; exact dirtyL_len s cs
      have hvs := hdr.1
      have hvc := hdr.2.1
      have hvS : skyV S = true := by rw [hSb]; exact hdr.2.2.1
      clear hdr
      have HSb := Lib.hid hSb; clear hSb
      have Hvs := Lib.hid hvs; clear hvs
      have Hvc := Lib.hid hvc; clear hvc
      have HvS := Lib.hid hvS; clear hvS
      go_wp2_with fail
      refine (skySum_yes A1 c1 s _ Hvs.out hr1).mono ?_
      rintro e w5 ⟨rfl, rfl⟩
      go_wp2_with fail
      refine (beamOf_any A2 16 c2 cs _ Hcs.out hr2).mono ?_
      rintro e w6 ⟨v, rfl, o6, b6⟩
      rw [Hvc.out]
      rw [beamR_yes Hvc.out, beamL_len] at o6
      obtain ⟨A6, c6, rfl⟩ := own_form o6
      have hr6 := Rd.of_own o6
      have B6 := B4.trans (b6.mono B4.size)
      have extX := Lib.hid (own_ext O2.out b6); clear O2; have O2 := extX; clear extX
      have extX := Lib.hid (own_ext O3.out b6); clear O3; have O3 := extX; clear extX
      clear o6 b6
      go_wp2_with fail
      refine (skySum_yes A6 c6 (beamL cs) _ (skyV_beam Hvc.out) hr6).mono ?_
      rintro e w7 ⟨rfl, rfl⟩
      go_wp2_with fail
      refine (skySum_yes A3 c3 S _ HvS.out (Rd.of_own O2.out)).mono ?_
      rintro e w8 ⟨rfl, rfl⟩
      have hsum := dirty_sum s cs
      rw [← HSb.out] at hsum
      have b1 := skySum_bd (iLe_sky Hvs.out) 16
      have b2 := skySum_bd (iLe_mono (iLe_sky (skyV_beam Hvc.out)) (N := 100000) (by omega)) 16
      change -_ ≤ skySum s ∧ skySum s ≤ _ at b1
      change -_ ≤ skySum (beamL cs) ∧ skySum (beamL cs) ≤ _ at b2
      generalize skySum s = l at *
      generalize skySum (beamL cs) = m at *
      rw [hsum]
      have hm2 := mul_bd l m 1600000 1600000 (by omega) (by omega)
      simp only [Int.reduceMul, Int.reduceNeg] at hm2
      clear hsum
      go_wp2_with fail
      go_ret
      exact ⟨ret_bool (by simp), B6⟩
  · have hnb : (1048576 : Int) < (n : Int) := by omega
    go_enter Try.func9, Try.ntmps9
    go_wp2_with fail
    go_ret
    exact ⟨rfl, Below.refl _ _⟩
end Go.Proofs.Ytcllkocmnohnkaa
