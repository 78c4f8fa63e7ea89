/- FnSkyTextRows returns true at every input, and leaves what was there. -/
import Derived.Test.YtbadeopjfmafcaaDoorSkyTx
import Derived.Test.YtbadeopjfmafcaaDoorDrawK
import Derived.Test.YtbadeopjfmafcaaDoorSkyD
import Derived.Test.YtbadeopjfmafcaaDoorTied
namespace Go.Proofs.YtbadeopjfmafcaaDoor
open Go.RowKit

/-- A sky with a spot more is another. -/
theorem addS_spot_ne {s : List Int} {k : Nat} (hk : k < 16) : addS s (spotL k 1) 1 ≠ s := fun e => by
  have h1 := addS_get s (spotL k 1) 1 k hk
  rw [e, spotL_get k 1 hk, if_pos rfl] at h1
  omega

set_option maxRecDepth 100000 in
set_option maxHeartbeats 1000000 in
theorem FnSkyTextRows_walk (w : World) (hL : laidMet Tryd.prog Rows.fnSkyTextRowsRow.laid w) (A : Option Addr) (n cap : Nat) (bs : List Int) (hn : bs.length = n) (hm : n ≤ 9223372036854775807) (hr : Rd w w.heap.size A (bs.map (Value.int .u8))) (hw : ∀ x ∈ bs, (Lit.int .u8 x).wf = true) (hk : n ≤ cap) (C : Option Addr) (nC capC : Nat) (ms : List Int) (_ : ms.length = nC) (_ : nC ≤ 9223372036854775807) (_ : Rd w w.heap.size C (ms.map (Value.int .u8))) (_ : ∀ x ∈ ms, (Lit.int .u8 x).wf = true) (_ : nC ≤ capC) :
    Calls Tryd.prog 4 #[.slice A n cap, .slice C nC capC] w fun e w' => e = .returned (.bool true) ∧ Below w.heap.size w w' := by
  have Hbs := Lib.hid (bytesOk_of hw); clear hw
  have Ht := Lib.hid (tab_third hL); clear hL
  by_cases hb : n ≤ 1048576 ∧ nC ≤ 1048576
  · obtain ⟨hb, hbC⟩ := hb
    have hnb : ¬ (1048576 : Int) < (n : Int) := by omega
    have hnbC : ¬ (1048576 : Int) < (nC : Int) := by omega
    obtain ⟨k, hk0⟩ : ∃ k : Nat, nC % 16 = k := ⟨_, rfl⟩
    have hk16 : k < 16 := by omega
    have hkI : (nC : Int) % 16 = (k : Int) := by omega
    clear hk0
    have HkI := Lib.hid hkI
    clear hkI
    go_enter Tryd.func4, Tryd.ntmps4
    go_wp2_with fail
    refine (drawSkyText_any A n cap bs w hn hm hk Hbs.out hr).mono ?_
    rintro e w1 ⟨A1, k1, c1, s, rfl, hs, hk1, hr1, B1⟩
    have Hs := Lib.hid hs; clear hs
    clear hr hn
    go_wp2_with fail
    refine (skyText_any A1 k1 c1 s _ Hs.out (by omega) hr1 (Ht.out.ext B1)).mono ?_
    rintro e w2 ⟨rfl, b2⟩
    have B2 := B1.trans (b2.mono B1.size)
    have extX := (hr1.below b2).more b2.size; clear hr1; have hr1 := extX; clear extX
    clear b2
    go_wp2_with fail
    refine (sSkyText_any A1 k1 c1 s _ Hs.out (by omega) hr1).mono ?_
    rintro e w3 ⟨rfl, b3⟩
    have B3 := B2.trans (b3.mono B2.size)
    have extX := (hr1.below b3).more b3.size; clear hr1; have hr1 := extX; clear extX
    clear b3
    cases hv : skyV s
    · rw [skyStr_no hv]
      clear hv
      go_wp2_with fail
      go_ret
      exact ⟨rfl, B3⟩
    · have Hv := Lib.hid hv
      have hne : (skyStr s).isEmpty = false := by
        rw [skyStr_yes hv]
        have := skyB_ne s 16 (by decide)
        simpa using this
      have HST := Lib.hid (skyStr_yes hv)
      clear hv
      go_wp2_with fail
      rw [HkI.out]
      go_wp2_with fail
      refine (spot_any k 1 _ hk16).mono ?_
      rintro e w5 ⟨rfl, r5, b5⟩
      have B5 := B3.trans (b5.mono B3.size)
      have extX := (hr1.below b5).more b5.size; clear hr1; have hr1 := extX; clear extX
      clear b5
      go_wp2_with fail
      refine (skyAdd_any A1 _ k1 16 c1 16 s (spotL k 1) 1 _ Hs.out (spotL_len _ _) (by omega) (by omega) hr1 r5.rd).mono ?_
      rintro e w6 ⟨v, rfl, o6, b6⟩
      obtain ⟨A6, c6, rfl⟩ := own_form o6
      have hr6 := Rd.of_own o6
      have B6 := B5.trans (b6.mono B5.size)
      clear o6 b6 r5
      cases ha : addR s (spotL k 1) 1 with
      | none =>
        rw [ha] at hr6
        simp only [Option.getD_none, List.length_nil, Option.isSome_none] at hr6 ⊢
        go_wp2_with fail
        refine (skyText_any A6 0 c6 [] _ rfl (by omega) hr6 (Ht.out.ext B6)).mono ?_
        rintro e w7 ⟨rfl, b7⟩
        rw [show skyStr [] = [] from rfl]
        go_wp2_with fail
        go_ret
        exact ⟨rfl, B6.trans (b7.mono B6.size)⟩
      | some x =>
        have hxv : skyV x = true ∧ x ≠ s := by
          obtain ⟨h1, h2⟩ := addR_some (show (addR s (spotL k 1) 1).isSome = true by rw [ha]; rfl)
          rw [ha] at h2
          injection h2 with h2
          exact ⟨by rw [h2]; exact h1, by rw [h2]; exact addS_spot_ne hk16⟩
        rw [ha] at hr6
        simp only [Option.getD_some, Option.isSome_some] at hr6 ⊢
        obtain ⟨hxv, hxs⟩ := hxv
        have hxl := skyV_len hxv
        have hne2 : (skyStr x).isEmpty = false := by
          rw [skyStr_yes hxv]
          have := skyB_ne x 16 (by decide)
          simpa using this
        have hdiff : (skyStr x == skyStr s) = false := by
          rw [beq_eq_false_iff_ne]
          exact fun e => hxs (skyB_inj hxv Hv.out (by rw [← skyStr_yes hxv, e, HST.out]))
        rw [hxl]
        have Hxl := Lib.hid hxl; clear hxl
        have Hxv := Lib.hid hxv; clear hxv
        have Hxs := Lib.hid hxs; clear hxs
        have Ha := Lib.hid ha; clear ha
        go_wp2_with fail
        refine (skyText_any A6 16 c6 x _ Hxl.out (by omega) hr6 (Ht.out.ext B6)).mono ?_
        rintro e w7 ⟨rfl, b7⟩
        go_wp2_with fail
        go_ret
        exact ⟨rfl, B6.trans (b7.mono B6.size)⟩
  · by_cases h0 : n ≤ 1048576
    · have hnb : ¬ (1048576 : Int) < (n : Int) := by omega
      have hnbC : (1048576 : Int) < (nC : Int) := by omega
      go_enter Tryd.func4, Tryd.ntmps4
      go_wp2_with fail
      go_ret
      exact ⟨rfl, Below.refl _ _⟩
    · have hnb : (1048576 : Int) < (n : Int) := by omega
      go_enter Tryd.func4, Tryd.ntmps4
      go_wp2_with fail
      go_ret
      exact ⟨rfl, Below.refl _ _⟩
end Go.Proofs.YtbadeopjfmafcaaDoor
