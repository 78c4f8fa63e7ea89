/- FnImageSum returns true at every input, and leaves what was there. -/
import Derived.Test.YtfandpgjlahnpaaImg
namespace Go.Proofs.Ytfandpgjlahnpaa
open Go.RowKit

theorem imgR_len (ants seen : List (Int × Int)) : ((imgR ants seen).getD []).length ≤ 16 := by
  cases h : imgR ants seen with
  | none => simp
  | some s => obtain ⟨g, _, rfl, hv⟩ := imgR_is h; simp [imageL_len]
set_option maxRecDepth 100000 in
set_option maxHeartbeats 1000000 in
theorem FnImageSum_walk (w : World) (A : Option Addr) (n cap : Nat) (bs : List Int) (hn : bs.length = n) (hm : n ≤ 9223372036854775807) (hr : Rd w w.heap.size A (bs.map (Value.int .u8))) (hw : ∀ x ∈ bs, (Lit.int .u8 x).wf = true) (hk : n ≤ cap) :
    Calls Try.prog 12 #[.slice A n cap] w fun e w' => e = .returned (.bool true) ∧ Below w.heap.size w w' := by
  have Hbs := Lib.hid (bytesOk_of hw); clear hw
  by_cases hb : n ≤ 1048576
  · have hnb : ¬ (1048576 : Int) < (n : Int) := by omega
    go_enter Try.func12, Try.ntmps12
    go_wp2_with fail
    refine (drawObserveImage_any A n cap bs w hn hm hk Hbs.out hr).mono ?_
    rintro e w1 ⟨A1, k1, c1, ants, A2, k2, c2, seen, rfl, ha, hk1, hkc, hr1, hs, hk2, hr2, B1⟩
    have Ha := Lib.hid ha; clear ha
    have Hs := Lib.hid hs; clear hs
    clear hr hn
    go_wp2_with fail
    refine (observeImage_any A1 A2 k1 c1 k2 c2 ants seen _ Ha.out Hs.out hkc (by omega) (by omega) hr1 hr2).mono ?_
    rintro e w2 ⟨v, rfl, o2, b2⟩
    have B2 := B1.trans (b2.mono B1.size)
    have extX := (hr1.below b2).more b2.size; clear hr1; have hr1 := extX; clear extX
    have extX := (hr2.below b2).more b2.size; clear hr2; have hr2 := extX; clear extX
    obtain ⟨A3, c3, rfl⟩ := own_form o2
    have O2 := Lib.hid o2
    clear o2 b2
    go_wp2_with fail
    refine (sObserveImage_any A1 A2 k1 c1 k2 c2 ants seen _ Ha.out Hs.out (by omega) (by omega) hr1 hr2).mono ?_
    rintro e w3 ⟨v, rfl, o3, b3⟩
    have B3 := B2.trans (b3.mono B2.size)
    have extX := (hr1.below b3).more b3.size; clear hr1; have hr1 := extX; clear extX
    have extX := (hr2.below b3).more b3.size; clear hr2; have hr2 := extX; clear extX
    have extX := Lib.hid (own_ext O2.out b3); clear O2; have O2 := extX; clear extX
    obtain ⟨A4, c4, rfl⟩ := own_form o3
    have O3 := Lib.hid o3
    clear o3 b3
    have hLb := imgR_len ants seen
    obtain ⟨L, hL⟩ : ∃ L, ((imgR ants seen).getD []).length = L := ⟨_, rfl⟩
    obtain ⟨S, hS⟩ : ∃ S, (imgR ants seen).getD [] = S := ⟨_, rfl⟩
    have hSL : S.length = L := by rw [← hS]; exact hL
    have O2 := O2.out
    have O3 := O3.out
    rw [hL, hS] at O2 O3
    rw [hL] at hLb ⊢
    have hidX := Lib.hid O2; clear O2; have O2 := hidX; clear hidX
    have hidX := Lib.hid O3; clear O3; have O3 := hidX; clear hidX
    have HSL := Lib.hid hSL; clear hSL
    have HL := Lib.hid hL; clear hL
    have HS := Lib.hid hS; clear hS
    obtain ⟨ok, hok⟩ : ∃ ok, (imgR ants seen).isSome = ok := ⟨_, rfl⟩
    rw [hok]
    have hne : (ok != ok) = false := by simp
    have Hok := Lib.hid hok
    clear hok
    go_wp2_with fail
    refine (sameInts_any A3 A4 L L c3 c4 S S _ HSL.out HSL.out (by omega) (Rd.of_own O2.out) (Rd.of_own O3.out)).mono ?_
    rintro e w4 ⟨rfl, b4⟩
    have B4 := B3.trans (b4.mono B3.size)
    have extX := (hr1.below b4).more b4.size; clear hr1; have hr1 := extX; clear extX
    have extX := (hr2.below b4).more b4.size; clear hr2; have hr2 := extX; clear extX
    have extX := Lib.hid (own_ext O2.out b4); clear O2; have O2 := extX; clear extX
    have extX := Lib.hid (own_ext O3.out b4); clear O3; have O3 := extX; clear extX
    clear b4
    rw [decide_eq_true (rfl : S = S)]
    cases ok
    · go_wp2_with fail
      refine (sameInts_any A3 A4 L L c3 c4 S S _ HSL.out HSL.out (by omega) (Rd.of_own O2.out) (Rd.of_own O3.out)).mono ?_
      rintro e w5 ⟨rfl, b5⟩
      rw [decide_eq_true (rfl : S = S)]
      go_wp2_with fail
      go_ret
      exact ⟨rfl, B4.trans (b5.mono B4.size)⟩
    · obtain ⟨s0, hsome⟩ := Option.isSome_iff_exists.1 Hok.out
      obtain rfl : S = s0 := by rw [← HS.out, hsome]; rfl
      obtain ⟨g, hg, hsg, hvs⟩ := imgR_is hsome
      obtain ⟨hva, hvo, hgo⟩ := gridR_is hg
      obtain rfl : 16 = L := by rw [← HSL.out]; exact (skyV_len hvs).symm
      have Hva := Lib.hid hva; clear hva
      have Hvo := Lib.hid hvo; clear hvo
      have Hgo := Lib.hid hgo; clear hgo
      have Hg := Lib.hid hg; clear hg
      have Hsg := Lib.hid hsg; clear hsg
      have Hvs := Lib.hid hvs; clear hvs
      have Hsome := Lib.hid hsome; clear hsome
      go_wp2_with fail
      refine (observeGrid_any A1 A2 k1 c1 k2 c2 ants seen _ Ha.out Hs.out hkc (by omega) (by omega) hr1 hr2).mono ?_
      rintro e w5 ⟨b5, v, rfl, o5⟩
      rw [Hg.out] at o5 ⊢
      have hgl := (gridO_is Hgo.out).1
      simp only [Option.getD_some, Option.isSome_some] at o5 ⊢
      rw [hgl] at o5
      obtain ⟨A5, c5, rfl⟩ := own_form o5
      have B5 := B4.trans (b5.mono B4.size)
      have extX := Lib.hid (own_ext O2.out b5); clear O2; have O2 := extX; clear extX
      have O5 := Lib.hid o5
      clear o5 b5 hr1 hr2
      obtain ⟨_, _, _, _, _, _, hgv⟩ := obsV_of Hvo.out
      have hle := gLe_get (gridO_gLe (M := 1000000000) (by omega) (gv_of hgv) Hgo.out) (by omega) 0
      have hsum := image_sum g
      rw [← Hsg.out] at hsum
      obtain ⟨z, hz⟩ : ∃ z, g.getD 0 (0, 0) = z := ⟨_, rfl⟩
      have hg? := getD_of (gs := g) (k := 0) (by omega)
      rw [hz] at hle hsum hg?
      obtain ⟨b, off, rfl, hbl, d0, d1⟩ := rd_pair (Rd.of_own O5.out) hg?
      rw [Nat.zero_mul, Nat.add_zero] at d0 d1
      have j1 : IntKind.i64.wrap (16 * z.1) = 16 * z.1 := IntWalk.i64_in _ (by omega)
      have Hgl := Lib.hid hgl; clear hgl
      have Hgv := Lib.hid hgv; clear hgv
      have Hsum := Lib.hid hsum; clear hsum
      have Hz := Lib.hid hz; clear hz
      have Hg? := Lib.hid hg?; clear hg?
      have J1 := Lib.hid j1; clear j1
      go_wp2_with fail
      refine (skySum_yes A3 c3 S _ Hvs.out (Rd.of_own O2.out)).mono ?_
      rintro e w6 ⟨rfl, rfl⟩
      rw [Hsum.out]
      go_wp2_with fail
      go_ret
      exact ⟨rfl, B5⟩
  · have hnb : (1048576 : Int) < (n : Int) := by omega
    go_enter Try.func12, Try.ntmps12
    go_wp2_with fail
    go_ret
    exact ⟨rfl, Below.refl _ _⟩
end Go.Proofs.Ytfandpgjlahnpaa
