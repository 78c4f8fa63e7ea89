/- FnDirtyAdd returns true at every input, and leaves what was there. -/
import Derived.Test.YtcllkocmnohnkaaLawDirtySum
import Derived.Test.YtcllkocmnohnkaaSkyD
namespace Go.Proofs.Ytcllkocmnohnkaa
open Go.RowKit

theorem dirty_add_spot (s : List Int) (c : List Bool) (k : Nat) (hk : k < 16) : dirtyL (addS s (spotL k 1) 1) c = addS (dirtyL s c) (shL (beamL c) k) 1 := by
  refine ext16 (dirtyL_len _ _) (addS_len _ _ _) fun x hx => ?_
  have e1 := dirty_spot c k 1 hk x hx
  rw [Int.one_mul] at e1
  rw [addS_get _ _ _ _ hx, shL_get _ _ _ hx, beam_even c k x hk hx, ← e1, dirty_get _ _ _ hx, dirty_get _ _ _ hx, dirty_get _ _ _ hx, ← sum16_mul, ← sum16_add]
  exact sum16_congr fun a ha => by rw [addS_get _ _ _ _ ha, Int.add_mul, Int.mul_assoc]
theorem addR_some {a b : List Int} {m : Int} (h : (addR a b m).isSome = true) : skyV (addS a b m) = true ∧ addR a b m = some (addS a b m) := by
  unfold addR at h ⊢
  split at h
  · rename_i hc
    exact ⟨hc.2.2.2, by rw [if_pos hc]⟩
  · cases h
theorem addR_mk {a b : List Int} {m : Int} (h1 : skyV a = true) (h2 : skyV b = true) (hm : -100000 ≤ m ∧ m ≤ 100000) (h3 : skyV (addS a b m) = true) : addR a b m = some (addS a b m) := by
  unfold addR
  rw [if_pos ⟨by rw [h1, h2]; rfl, hm.1, hm.2, h3⟩]
theorem addR_len (a b : List Int) (m : Int) : ((addR a b m).getD []).length ≤ 16 := by unfold addR; split <;> simp [addS_len]
theorem dirtyR_len (s : List Int) (c : List Bool) : ((dirtyR s c).getD []).length ≤ 16 := by unfold dirtyR; split <;> simp [dirtyL_len]
theorem skyV_sh {s : List Int} (h : skyV s = true) (d : Nat) : skyV (shL s d) = true :=
  skyV_of (shL_len _ _) fun k hk => by rw [shL_get _ _ _ hk]; exact iLe_sky h _

set_option maxRecDepth 100000 in
set_option maxHeartbeats 1000000 in
theorem FnDirtyAdd_walk (w : World) (A : Option Addr) (n cap : Nat) (bs : List Int) (hn : bs.length = n) (hm : n ≤ 9223372036854775807) (hr : Rd w w.heap.size A (bs.map (Value.int .u8))) (hw : ∀ x ∈ bs, (Lit.int .u8 x).wf = true) (hk : n ≤ cap) (C : Option Addr) (nC capC : Nat) (ms : List Int) (_ : ms.length = nC) (_ : nC ≤ 9223372036854775807) (_ : Rd w w.heap.size C (ms.map (Value.int .u8))) (_ : ∀ x ∈ ms, (Lit.int .u8 x).wf = true) (_ : nC ≤ capC) :
    Calls Try.prog 13 #[.slice A n cap, .slice C nC capC] w fun e w' => e = .returned (.bool true) ∧ Below w.heap.size w w' := by
  have Hbs := Lib.hid (bytesOk_of hw); clear hw
  by_cases hb : n ≤ 1048576 ∧ nC ≤ 1048576
  · obtain ⟨hb, hbC⟩ := hb
    have hnb : ¬ (1048576 : Int) < (n : Int) := by omega
    have hnbC : ¬ (1048576 : Int) < (nC : Int) := by omega
    obtain ⟨k, hk0⟩ : ∃ k : Nat, nC % 16 = k := ⟨_, rfl⟩
    have hk16 : k < 16 := by omega
    have hkI : (nC : Int) % 16 = (k : Int) := by omega
    clear hk0
    have HkI := Lib.hid hkI
    clear hkI
    go_enter Try.func13, Try.ntmps13
    go_wp2_with fail
    refine (drawDirtyOf_any A n cap bs w hn hm hk Hbs.out hr).mono ?_
    rintro e w1 ⟨A1, k1, c1, s, A2, k2, c2, cs, rfl, hs, hk1, hr1, hcs, hk2, hr2, B1⟩
    have Hs := Lib.hid hs; clear hs
    have Hcs := Lib.hid hcs; clear hcs
    clear hr hn
    go_wp2_with fail
    refine (dirtyOf_any A1 A2 k1 k2 c1 c2 s cs _ Hs.out Hcs.out (by omega) hr1 hr2).mono ?_
    rintro e w2 ⟨v, rfl, o2, b2⟩
    have B2 := B1.trans (b2.mono B1.size)
    have extX := (hr1.below b2).more b2.size; clear hr1; have hr1 := extX; clear extX
    have extX := (hr2.below b2).more b2.size; clear hr2; have hr2 := extX; clear extX
    obtain ⟨A3, c3, rfl⟩ := own_form o2
    have O2 := Lib.hid o2
    clear o2 b2
    go_wp2_with fail
    refine (sDirtyOf_any A1 A2 k1 k2 c1 c2 s cs _ Hs.out Hcs.out (by omega) hr1 hr2).mono ?_
    rintro e w3 ⟨v, rfl, o3, b3⟩
    have B3 := B2.trans (b3.mono B2.size)
    have extX := (hr1.below b3).more b3.size; clear hr1; have hr1 := extX; clear extX
    have extX := (hr2.below b3).more b3.size; clear hr2; have hr2 := extX; clear extX
    have extX := Lib.hid (own_ext O2.out b3); clear O2; have O2 := extX; clear extX
    obtain ⟨A4, c4, rfl⟩ := own_form o3
    have O3 := Lib.hid o3
    clear o3 b3
    have hLb : ((dirtyR s cs).getD []).length ≤ 16 := by unfold dirtyR; split <;> simp [dirtyL_len]
    obtain ⟨L, hL⟩ : ∃ L, ((dirtyR s cs).getD []).length = L := ⟨_, rfl⟩
    obtain ⟨S, hS⟩ : ∃ S, (dirtyR s cs).getD [] = S := ⟨_, rfl⟩
    have hSL : S.length = L := by rw [← hS]; exact hL
    have O2 := O2.out
    have O3 := O3.out
    rw [hL, hS] at O2 O3
    rw [hL] at hLb ⊢
    have hidX := Lib.hid O2; clear O2; have O2 := hidX; clear hidX
    have hidX := Lib.hid O3; clear O3; have O3 := hidX; clear hidX
    have HSL := Lib.hid hSL; clear hSL
    have HL := Lib.hid hL; clear hL
    have HS := Lib.hid hS; clear hS
    obtain ⟨ok, hok⟩ : ∃ ok, (dirtyR s cs).isSome = ok := ⟨_, rfl⟩
    rw [hok]
    have hne : (ok != ok) = false := by simp
    have Hok := Lib.hid hok
    clear hok
    go_wp2_with fail
    refine (sameInts_any A3 A4 L L c3 c4 S S _ HSL.out HSL.out (by omega) (Rd.of_own O2.out) (Rd.of_own O3.out)).mono ?_
    rintro e w4 ⟨rfl, b4⟩
    have B4 := B3.trans (b4.mono B3.size)
    have extX := (hr1.below b4).more b4.size; clear hr1; have hr1 := extX; clear extX
    have extX := (hr2.below b4).more b4.size; clear hr2; have hr2 := extX; clear extX
    have extX := Lib.hid (own_ext O2.out b4); clear O2; have O2 := extX; clear extX
    have extX := Lib.hid (own_ext O3.out b4); clear O3; have O3 := extX; clear extX
    clear b4
    rw [decide_eq_true (rfl : S = S)]
    cases ok
    · go_wp2_with fail
      refine (sameInts_any A3 A4 L L c3 c4 S S _ HSL.out HSL.out (by omega) (Rd.of_own O2.out) (Rd.of_own O3.out)).mono ?_
      rintro e w5 ⟨rfl, b5⟩
      rw [decide_eq_true (rfl : S = S)]
      go_wp2_with fail
      go_ret
      exact ⟨rfl, B4.trans (b5.mono B4.size)⟩
    · have hdr := dirtyR_some Hok.out
      obtain rfl : k1 = 16 := by rw [← Hs.out]; exact skyV_len hdr.1
      obtain rfl : k2 = 16 := by rw [← Hcs.out]; exact covV_len hdr.2.1
      have hSb : S = dirtyL s cs := by rw [← HS.out, hdr.2.2.2]; rfl
      obtain rfl : L = 16 := by rw [← HSL.out, hSb]; exact dirtyL_len s cs
      have hvs := hdr.1
      have hvc := hdr.2.1
      have hvS : skyV S = true := by rw [hSb]; exact hdr.2.2.1
      clear hdr
      have HSb := Lib.hid hSb; clear hSb
      have Hvs := Lib.hid hvs; clear hvs
      have Hvc := Lib.hid hvc; clear hvc
      have HvS := Lib.hid hvS; clear hvS
      go_wp2_with fail
      rw [HkI.out]
      go_wp2_with fail
      refine (spot_any k 1 _ hk16).mono ?_
      rintro e w5 ⟨rfl, r5, b5⟩
      have B5 := B4.trans (b5.mono B4.size)
      have extX := (hr1.below b5).more b5.size; clear hr1; have hr1 := extX; clear extX
      have extX := (hr2.below b5).more b5.size; clear hr2; have hr2 := extX; clear extX
      have extX := Lib.hid (own_ext O2.out b5); clear O2; have O2 := extX; clear extX
      have extX := Lib.hid (own_ext O3.out b5); clear O3; have O3 := extX; clear extX
      clear b5
      go_wp2_with fail
      refine (skyAdd_any A1 _ 16 16 c1 16 s (spotL k 1) 1 _ Hs.out (spotL_len _ _) (by omega) (by omega) hr1 r5.rd).mono ?_
      rintro e w6 ⟨v, rfl, o6, b6⟩
      obtain ⟨A6, c6, rfl⟩ := own_form o6
      have hr6 := Rd.of_own o6
      have B6 := B5.trans (b6.mono B5.size)
      have extX := (hr2.below b6).more b6.size; clear hr2; have hr2 := extX; clear extX
      have extX := Lib.hid (own_ext O2.out b6); clear O2; have O2 := extX; clear extX
      have extX := Lib.hid (own_ext O3.out b6); clear O3; have O3 := extX; clear extX
      clear o6 b6 r5
      have hxl := addR_len s (spotL k 1) 1
      obtain ⟨X, hX⟩ : ∃ X, (addR s (spotL k 1) 1).getD [] = X := ⟨_, rfl⟩
      obtain ⟨p, hp⟩ : ∃ p, (addR s (spotL k 1) 1).isSome = p := ⟨_, rfl⟩
      rw [hX] at hxl hr6 ⊢
      rw [hp]
      have HX := Lib.hid hX; clear hX
      have Hp := Lib.hid hp; clear hp
      go_wp2_with fail
      refine (dirtyOf_any A6 A2 X.length 16 c6 c2 X cs _ rfl Hcs.out (by omega) hr6 hr2).mono ?_
      rintro e w7 ⟨v, rfl, o7, b7⟩
      obtain ⟨A7, c7, rfl⟩ := own_form o7
      have B7 := B6.trans (b7.mono B6.size)
      have extX := (hr2.below b7).more b7.size; clear hr2; have hr2 := extX; clear extX
      have extX := Lib.hid (own_ext O2.out b7); clear O2; have O2 := extX; clear extX
      have extX := Lib.hid (own_ext O3.out b7); clear O3; have O3 := extX; clear extX
      clear b7 hr6
      have hyl := dirtyR_len X cs
      obtain ⟨Y, hY⟩ : ∃ Y, (dirtyR X cs).getD [] = Y := ⟨_, rfl⟩
      obtain ⟨q, hq⟩ : ∃ q, (dirtyR X cs).isSome = q := ⟨_, rfl⟩
      rw [hY] at o7 hyl ⊢
      rw [hq]
      have HY := Lib.hid hY; clear hY
      have Hq := Lib.hid hq; clear hq
      have O7 := Lib.hid o7; clear o7
      go_wp2_with fail
      refine (beamOf_any A2 16 c2 cs _ Hcs.out hr2).mono ?_
      rintro e w8 ⟨v, rfl, o8, b8⟩
      rw [Hvc.out]
      rw [beamR_yes Hvc.out, beamL_len] at o8
      obtain ⟨A8, c8, rfl⟩ := own_form o8
      have hr8 := Rd.of_own o8
      have B8 := B7.trans (b8.mono B7.size)
      have extX := Lib.hid (own_ext O2.out b8); clear O2; have O2 := extX; clear extX
      have extX := Lib.hid (own_ext O3.out b8); clear O3; have O3 := extX; clear extX
      have extX := Lib.hid (own_ext O7.out b8); clear O7; have O7 := extX; clear extX
      clear o8 b8
      go_wp2_with fail
      refine (skyShift_yes A8 c8 (beamL cs) k _ _ _ (skyV_beam Hvc.out) hk16 rfl rfl hr8).mono ?_
      rintro e w9 ⟨rfl, r9, b9⟩
      have B9 := B8.trans (b9.mono B8.size)
      have extX := Lib.hid (own_ext O2.out b9); clear O2; have O2 := extX; clear extX
      have extX := Lib.hid (own_ext O3.out b9); clear O3; have O3 := extX; clear extX
      have extX := Lib.hid (own_ext O7.out b9); clear O7; have O7 := extX; clear extX
      clear b9
      go_wp2_with fail
      refine (skyAdd_any A3 _ 16 16 c3 16 S (shL (beamL cs) k) 1 _ HSL.out (shL_len _ _) (by omega) (by omega) (Rd.of_own O2.out) r9.rd).mono ?_
      rintro e w10 ⟨v, rfl, o10, b10⟩
      obtain ⟨A10, c10, rfl⟩ := own_form o10
      have B10 := B9.trans (b10.mono B9.size)
      have extX := Lib.hid (own_ext O7.out b10); clear O7; have O7 := extX; clear extX
      clear b10 r9
      obtain ⟨V, hV⟩ : ∃ V, (addR S (shL (beamL cs) k) 1).getD [] = V := ⟨_, rfl⟩
      obtain ⟨r, hr⟩ : ∃ r, (addR S (shL (beamL cs) k) 1).isSome = r := ⟨_, rfl⟩
      rw [hV] at o10 ⊢
      rw [hr]
      have hpl : p = true → q = true → r = true ∧ Y = V := fun ep eq => by
        obtain ⟨h1, h2⟩ := addR_some (Hp.out.trans ep)
        have h3 : X = addS s (spotL k 1) 1 := by rw [← HX.out, h2]; rfl
        obtain ⟨_, _, h4, h5⟩ := dirtyR_some (Hq.out.trans eq)
        have h6 : Y = dirtyL X cs := by rw [← HY.out, h5]; rfl
        rw [h3, dirty_add_spot s cs k hk16, ← HSb.out] at h4 h6
        have h7 := addR_mk HvS.out (skyV_sh (skyV_beam Hvc.out) k) (by omega) h4
        refine ⟨by rw [← hr, h7]; rfl, by rw [h6, ← hV, h7]; rfl⟩
      have HV := Lib.hid hV; clear hV
      have Hr := Lib.hid hr; clear hr
      have Hpl := Lib.hid hpl; clear hpl
      cases p
      · go_wp2_with fail
        go_ret
        exact ⟨rfl, B10⟩
      · cases q
        · go_wp2_with fail
          go_ret
          exact ⟨rfl, B10⟩
        · obtain ⟨rfl, rfl⟩ := Hpl.out rfl rfl
          go_wp2_with fail
          refine (sameInts_any A7 A10 Y.length Y.length c7 c10 Y Y _ rfl rfl (by omega) (Rd.of_own O7.out) (Rd.of_own o10)).mono ?_
          rintro e w11 ⟨rfl, b11⟩
          rw [decide_eq_true (rfl : Y = Y)]
          go_wp2_with fail
          go_ret
          exact ⟨rfl, B10.trans (b11.mono B10.size)⟩
  · have hnb : (1048576 : Int) < (n : Int) ∨ (1048576 : Int) < (nC : Int) := by omega
    by_cases h1 : n ≤ 1048576
    · have hnb : ¬ (1048576 : Int) < (n : Int) := by omega
      have hnbC : (1048576 : Int) < (nC : Int) := by omega
      go_enter Try.func13, Try.ntmps13
      go_wp2_with fail
      go_ret
      exact ⟨rfl, Below.refl _ _⟩
    · have hnb : (1048576 : Int) < (n : Int) := by omega
      go_enter Try.func13, Try.ntmps13
      go_wp2_with fail
      go_ret
      exact ⟨rfl, Below.refl _ _⟩
end Go.Proofs.Ytcllkocmnohnkaa
