/- FnBeamHoles returns true at every input, and leaves what was there. -/
import Derived.Test.YtcllkocmnohnkaaSkyC
import Derived.Test.YtcllkocmnohnkaaLawBeam
namespace Go.Proofs.Ytcllkocmnohnkaa
open Go.RowKit

theorem holes_plain {c : List Bool} (hv : covV c = true) : addR (beamL c) (beamL (holesC c)) 1 = some (spotL 0 16) := by
  have e : addS (beamL c) (beamL (holesC c)) 1 = spotL 0 16 := ext16 (addS_len _ _ _) (spotL_len _ _) fun k hk => by
    rw [addS_get _ _ _ _ hk, spotL_get 0 16 (by omega), Int.one_mul, beam_holes (covV_len hv) k hk]
  unfold addR
  rw [e, if_pos ⟨by rw [skyV_beam hv, skyV_beam (covV_holes hv)]; rfl, by omega, by omega, skyV_spot 0 16 (by omega) (by omega)⟩]

set_option maxRecDepth 100000 in
set_option maxHeartbeats 4000000 in
theorem FnBeamHoles_walk (w : World) (A : Option Addr) (n cap : Nat) (bs : List Int) (hn : bs.length = n) (hm : n ≤ 9223372036854775807) (hr : Rd w w.heap.size A (bs.map (Value.int .u8))) (hw : ∀ x ∈ bs, (Lit.int .u8 x).wf = true) (hk : n ≤ cap) :
    Calls Try.prog 4 #[.slice A n cap] w fun e w' => e = .returned (.bool true) ∧ Below w.heap.size w w' := by
  have Hbs := Lib.hid (bytesOk_of hw); clear hw
  by_cases hb : n ≤ 1048576
  · have hnb : ¬ (1048576 : Int) < (n : Int) := by omega
    go_enter Try.func4, Try.ntmps4
    go_wp2_with fail
    refine (drawBeamOf_any A n cap bs w hn hm hk Hbs.out hr).mono ?_
    rintro e w1 ⟨A1, k1, c1, cs, rfl, hcs, hk1, hr1, B1⟩
    have Hcs := Lib.hid hcs; clear hcs
    clear hr hn
    go_wp2_with fail
    refine (beamOf_any A1 k1 c1 cs _ Hcs.out hr1).mono ?_
    rintro e w2 ⟨v, rfl, o2, b2⟩
    have B2 := B1.trans (b2.mono B1.size)
    have extX := (hr1.below b2).more b2.size; clear hr1; have hr1 := extX; clear extX
    obtain ⟨A2, c2, rfl⟩ := own_form o2
    have O2 := Lib.hid o2
    clear o2 b2
    go_wp2_with fail
    refine (sBeamOf_any A1 k1 c1 cs _ Hcs.out hr1).mono ?_
    rintro e w3 ⟨v, rfl, o3, b3⟩
    have B3 := B2.trans (b3.mono B2.size)
    have extX := (hr1.below b3).more b3.size; clear hr1; have hr1 := extX; clear extX
    have extX := Lib.hid (own_ext O2.out b3); clear O2; have O2 := extX; clear extX
    obtain ⟨A3, c3, rfl⟩ := own_form o3
    have O3 := Lib.hid o3
    clear o3 b3
    have hLb : (beamR cs).length ≤ 16 := by unfold beamR; split <;> simp [beamL_len]
    obtain ⟨L, hL⟩ : ∃ L, (beamR cs).length = L := ⟨_, rfl⟩
    obtain ⟨S, hS⟩ : ∃ S, beamR cs = S := ⟨_, rfl⟩
    have hSL : S.length = L := by rw [← hS]; exact hL
    have O2 := O2.out
    have O3 := O3.out
    rw [hL, hS] at O2 O3
    rw [hL] at hLb ⊢
    have hidX := Lib.hid O2; clear O2; have O2 := hidX; clear hidX
    have hidX := Lib.hid O3; clear O3; have O3 := hidX; clear hidX
    have HSL := Lib.hid hSL; clear hSL
    have HL := Lib.hid hL; clear hL
    have HS := Lib.hid hS; clear hS
    obtain ⟨ok, hok⟩ : ∃ ok, covV cs = ok := ⟨_, rfl⟩
    rw [hok]
    have hne : (ok != ok) = false := by simp
    have Hok := Lib.hid hok
    clear hok
    go_wp2_with fail
    refine (sameInts_any A2 A3 L L c2 c3 S S _ HSL.out HSL.out (by omega) (Rd.of_own O2.out) (Rd.of_own O3.out)).mono ?_
    rintro e w4 ⟨rfl, b4⟩
    have B4 := B3.trans (b4.mono B3.size)
    have extX := (hr1.below b4).more b4.size; clear hr1; have hr1 := extX; clear extX
    have extX := Lib.hid (own_ext O2.out b4); clear O2; have O2 := extX; clear extX
    have extX := Lib.hid (own_ext O3.out b4); clear O3; have O3 := extX; clear extX
    clear b4
    rw [decide_eq_true (rfl : S = S)]
    cases ok
    · go_wp2_with fail
      refine (sameInts_any A2 A3 L L c2 c3 S S _ HSL.out HSL.out (by omega) (Rd.of_own O2.out) (Rd.of_own O3.out)).mono ?_
      rintro e w5 ⟨rfl, b5⟩
      rw [decide_eq_true (rfl : S = S)]
      go_wp2_with fail
      go_ret
      exact ⟨rfl, B4.trans (b5.mono B4.size)⟩
    · have hcl := covV_len Hok.out
      obtain rfl : k1 = 16 := by rw [← Hcs.out]; exact hcl
      have hSb : S = beamL cs := by rw [← HS.out]; exact beamR_yes Hok.out
      obtain rfl : L = 16 := by rw [← HSL.out, hSb]; exact beamL_len cs
      have Hcl := Lib.hid hcl; clear hcl
      have HSb := Lib.hid hSb; clear hSb
      have O2 := Lib.hid (show w4.ownsRow w1.heap.size 3 1 (.slice A2 16 c2) 16 ((beamL cs).map (Value.int .i64)) from by rw [← HSb.out]; exact O2.out)
      go_wp2_with fail
      refine (coverHoles_yes A1 c1 cs _ Hok.out hr1).mono ?_
      rintro e w5 ⟨rfl, r5, b5⟩
      have B5 := B4.trans (b5.mono B4.size)
      have extX := Lib.hid (own_ext O2.out b5); clear O2; have O2 := extX; clear extX
      have hv2 := covV_holes Hok.out
      have hhl := covV_len hv2
      have hbr := beamR_yes hv2
      have hpl := holes_plain Hok.out
      have Hv2 := Lib.hid hv2; clear hv2
      have Hhl := Lib.hid hhl; clear hhl
      have Hbr := Lib.hid hbr; clear hbr
      have Hpl := Lib.hid hpl; clear hpl
      clear b5
      go_wp2_with fail
      refine (beamOf_any _ 16 16 (holesC cs) _ Hhl.out r5.rd).mono ?_
      rintro e w6 ⟨v, rfl, o6, b6⟩
      rw [Hv2.out]
      rw [Hbr.out, beamL_len] at o6
      obtain ⟨A6, c6, rfl⟩ := own_form o6
      have B6 := B5.trans (b6.mono B5.size)
      have extX := Lib.hid (own_ext O2.out b6); clear O2; have O2 := extX; clear extX
      have O6 := Lib.hid o6
      clear o6 b6 r5
      go_wp2_with fail
      refine (skyAdd_any A2 A6 16 16 c2 c6 (beamL cs) (beamL (holesC cs)) 1 _ (beamL_len _) (beamL_len _) (by omega) (by omega) (Rd.of_own O2.out) (Rd.of_own O6.out)).mono ?_
      rintro e w7 ⟨v, rfl, o7, b7⟩
      rw [Hpl.out]
      rw [Hpl.out] at o7
      simp only [Option.getD_some, Option.isSome_some, spotL_len] at o7 ⊢
      obtain ⟨A7, c7, rfl⟩ := own_form o7
      have B7 := B6.trans (b7.mono B6.size)
      have O7 := Lib.hid o7
      clear o7 b7
      go_wp2_with fail
      refine (spot_any 0 16 _ (by omega)).mono ?_
      rintro e w8 ⟨rfl, r8, b8⟩
      have B8 := B7.trans (b8.mono B7.size)
      have extX := Lib.hid (own_ext O7.out b8); clear O7; have O7 := extX; clear extX
      clear b8
      go_wp2_with fail
      refine (sameInts_any A7 _ 16 16 c7 16 (spotL 0 16) (spotL 0 16) _ (spotL_len _ _) (spotL_len _ _) (by omega) (Rd.of_own O7.out) r8.rd).mono ?_
      rintro e w9 ⟨rfl, b9⟩
      rw [decide_eq_true (rfl : spotL 0 16 = spotL 0 16)]
      go_wp2_with fail
      go_ret
      exact ⟨rfl, B8.trans (b9.mono B8.size)⟩
  · have hnb : (1048576 : Int) < (n : Int) := by omega
    go_enter Try.func4, Try.ntmps4
    go_wp2_with fail
    go_ret
    exact ⟨rfl, Below.refl _ _⟩
end Go.Proofs.Ytcllkocmnohnkaa
