/- FnObserveAdd returns true at every input, and leaves what was there. -/
import Derived.Test.YtcllkocmnohnkaaLawObs
namespace Go.Proofs.Ytcllkocmnohnkaa
open Go.RowKit

set_option maxRecDepth 100000 in
set_option maxHeartbeats 1000000 in
theorem FnObserveAdd_walk (w : World) (A : Option Addr) (n cap : Nat) (bs : List Int) (hn : bs.length = n) (hm : n ≤ 9223372036854775807) (hr : Rd w w.heap.size A (bs.map (Value.int .u8))) (hw : ∀ x ∈ bs, (Lit.int .u8 x).wf = true) (hk : n ≤ cap) (C : Option Addr) (nC capC : Nat) (ms : List Int) (_ : ms.length = nC) (_ : nC ≤ 9223372036854775807) (_ : Rd w w.heap.size C (ms.map (Value.int .u8))) (_ : ∀ x ∈ ms, (Lit.int .u8 x).wf = true) (_ : nC ≤ capC) :
    Calls Try.prog 12 #[.slice A n cap, .slice C nC capC] w fun e w' => e = .returned (.bool true) ∧ Below w.heap.size w w' := by
  have Hbs := Lib.hid (bytesOk_of hw); clear hw
  by_cases hb : n ≤ 1048576 ∧ nC ≤ 1048576
  · obtain ⟨hb, hbC⟩ := hb
    have hnb : ¬ (1048576 : Int) < (n : Int) := by omega
    have hnbC : ¬ (1048576 : Int) < (nC : Int) := by omega
    obtain ⟨k, hk0⟩ : ∃ k : Nat, nC % 16 = k := ⟨_, rfl⟩
    have hk16 : k < 16 := by omega
    have hkI : (nC : Int) % 16 = (k : Int) := by omega
    clear hk0
    have HkI := Lib.hid hkI
    clear hkI
    go_enter Try.func12, Try.ntmps12
    go_wp2_with fail
    refine (drawObserveOf_any A n cap bs w hn hm hk Hbs.out hr).mono ?_
    rintro e w1 ⟨A1, k1, c1, ants, A2, k2, c2, s, rfl, ha, hk1, hkc, hr1, hs, hk2, hr2, B1⟩
    have Ha := Lib.hid ha; clear ha
    have Hs := Lib.hid hs; clear hs
    clear hr hn
    go_wp2_with fail
    refine (observeOf_any A1 A2 k1 k2 c1 c2 ants s _ Ha.out Hs.out hkc (by omega) (by omega) hr1 hr2).mono ?_
    rintro e w2 ⟨v, rfl, o2, b2⟩
    have B2 := B1.trans (b2.mono B1.size)
    have extX := (hr1.below b2).more b2.size; clear hr1; have hr1 := extX; clear extX
    have extX := (hr2.below b2).more b2.size; clear hr2; have hr2 := extX; clear extX
    obtain ⟨A3, c3, rfl⟩ := own_form o2
    have O2 := Lib.hid o2
    clear o2 b2
    go_wp2_with fail
    refine (sObserveOf_any A1 A2 k1 k2 c1 c2 ants s _ Ha.out Hs.out (by omega) (by omega) hr1 hr2).mono ?_
    rintro e w3 ⟨v, rfl, o3, b3⟩
    have B3 := B2.trans (b3.mono B2.size)
    have extX := (hr1.below b3).more b3.size; clear hr1; have hr1 := extX; clear extX
    have extX := (hr2.below b3).more b3.size; clear hr2; have hr2 := extX; clear extX
    have extX := Lib.hid (own_ext O2.out b3); clear O2; have O2 := extX; clear extX
    obtain ⟨A4, c4, rfl⟩ := own_form o3
    have O3 := Lib.hid o3
    clear o3 b3
    have hLb := obsR_len ants s
    obtain ⟨L, hL⟩ : ∃ L, (obsR ants s).length = L := ⟨_, rfl⟩
    obtain ⟨S, hS⟩ : ∃ S, obsR ants s = S := ⟨_, rfl⟩
    have hSL : S.length = L := by rw [← hS]; exact hL
    have O2 := O2.out
    have O3 := O3.out
    rw [hL, hS] at O2 O3
    rw [hL] at hLb ⊢
    have hidX := Lib.hid O2; clear O2; have O2 := hidX; clear hidX
    have hidX := Lib.hid O3; clear O3; have O3 := hidX; clear hidX
    have HSL := Lib.hid hSL; clear hSL
    have HL := Lib.hid hL; clear hL
    have HS := Lib.hid hS; clear hS
    obtain ⟨ok, hok⟩ : ∃ ok, (arrV ants && skyV s) = ok := ⟨_, rfl⟩
    rw [hok]
    have hne : (ok != ok) = false := by simp
    have Hok := Lib.hid hok
    clear hok
    go_wp2_with fail
    refine (sameGrid_any A3 A4 L L c3 c4 S S _ HSL.out HSL.out (by omega) (Rd.of_own O2.out) (Rd.of_own O3.out)).mono ?_
    rintro e w4 ⟨rfl, b4⟩
    have B4 := B3.trans (b4.mono B3.size)
    have extX := (hr1.below b4).more b4.size; clear hr1; have hr1 := extX; clear extX
    have extX := (hr2.below b4).more b4.size; clear hr2; have hr2 := extX; clear extX
    have extX := Lib.hid (own_ext O2.out b4); clear O2; have O2 := extX; clear extX
    have extX := Lib.hid (own_ext O3.out b4); clear O3; have O3 := extX; clear extX
    clear b4
    rw [decide_eq_true (rfl : S = S)]
    cases ok
    · go_wp2_with fail
      refine (sameGrid_any A3 A4 L L c3 c4 S S _ HSL.out HSL.out (by omega) (Rd.of_own O2.out) (Rd.of_own O3.out)).mono ?_
      rintro e w5 ⟨rfl, b5⟩
      rw [decide_eq_true (rfl : S = S)]
      go_wp2_with fail
      go_ret
      exact ⟨rfl, B4.trans (b5.mono B4.size)⟩
    · obtain ⟨hva, hvs⟩ := Bool.and_eq_true_iff.1 Hok.out
      have han := arrV_len hva
      rw [Ha.out] at han
      obtain rfl : k2 = 16 := by rw [← Hs.out]; exact skyV_len hvs
      have hSo : S = obsL ants s := by rw [← HS.out]; exact obsR_yes hva hvs
      have hLp : L = (pairsN k1).length := by rw [← HSL.out, hSo, obsL_len, Ha.out]
      have hL1 : 1 ≤ L := by rw [hLp]; exact pairs_pos k1 han.1 han.2
      have HSo := Lib.hid hSo; clear hSo
      have Hva := Lib.hid hva; clear hva
      have Hvs := Lib.hid hvs; clear hvs
      have HLp := Lib.hid hLp; clear hLp
      go_wp2_with fail
      rw [HkI.out]
      go_wp2_with fail
      refine (spot_any k 2 _ hk16).mono ?_
      rintro e w5 ⟨rfl, r5, b5⟩
      have B5 := B4.trans (b5.mono B4.size)
      have extX := (hr1.below b5).more b5.size; clear hr1; have hr1 := extX; clear extX
      have extX := (hr2.below b5).more b5.size; clear hr2; have hr2 := extX; clear extX
      have extX := Lib.hid (own_ext O2.out b5); clear O2; have O2 := extX; clear extX
      clear b5
      go_wp2_with fail
      refine (skyAdd_any A2 _ 16 16 c2 16 s (spotL k 2) 1 _ Hs.out (spotL_len _ _) (by omega) (by omega) hr2 r5.rd).mono ?_
      rintro e w6 ⟨v, rfl, o6, b6⟩
      obtain ⟨A6, c6, rfl⟩ := own_form o6
      have hr6 := Rd.of_own o6
      have B6 := B5.trans (b6.mono B5.size)
      have extX := (hr1.below b6).more b6.size; clear hr1; have hr1 := extX; clear extX
      have extX := Lib.hid (own_ext O2.out b6); clear O2; have O2 := extX; clear extX
      clear o6 b6 r5
      have hxl := addR_len s (spotL k 2) 1
      obtain ⟨X, hX⟩ : ∃ X, (addR s (spotL k 2) 1).getD [] = X := ⟨_, rfl⟩
      obtain ⟨p, hp⟩ : ∃ p, (addR s (spotL k 2) 1).isSome = p := ⟨_, rfl⟩
      rw [hX] at hxl hr6 ⊢
      rw [hp]
      have hvX : skyV X = p := by
        cases p
        · rw [← hX, addR_none hp]; rfl
        · rw [← hX, (addR_some hp).2]; exact (addR_some hp).1
      have hyl := obsR_len ants X
      obtain ⟨Y, hY⟩ : ∃ Y, obsR ants X = Y := ⟨_, rfl⟩
      have hyT : p = true → Y = obsL ants (addS s (spotL k 2) 1) := fun e => by
        subst e
        rw [← hY, obsR_yes Hva.out hvX, ← hX, (addR_some hp).2]; rfl
      have hyF : p = false → Y = [] := fun e => by
        subst e
        rw [← hY, obsR_no (by rw [hvX, Bool.and_false])]
      rw [hY] at hyl
      have HY := Lib.hid hY
      clear hY
      have HX := Lib.hid hX; clear hX
      have Hp := Lib.hid hp; clear hp
      have HvX := Lib.hid hvX; clear hvX
      have HyT := Lib.hid hyT; clear hyT
      have HyF := Lib.hid hyF; clear hyF
      go_wp2_with fail
      refine (observeOf_any A1 A6 k1 X.length c1 c6 ants X _ Ha.out rfl hkc (by omega) (by omega) hr1 hr6).mono ?_
      rintro e w7 ⟨v, rfl, o7, b7⟩
      rw [Hva.out, HvX.out]
      rw [HY.out] at o7
      obtain ⟨A7, c7, rfl⟩ := own_form o7
      have B7 := B6.trans (b7.mono B6.size)
      have extX := (hr1.below b7).more b7.size; clear hr1; have hr1 := extX; clear extX
      have extX := Lib.hid (own_ext O2.out b7); clear O2; have O2 := extX; clear extX
      have O7 := Lib.hid o7
      clear b7 hr6 o7
      have hvsp := skyV_spot k 2 hk16 (by omega)
      have Hvsp := Lib.hid hvsp
      clear hvsp
      go_wp2_with fail
      refine (spot_any k 2 _ hk16).mono ?_
      rintro e w8 ⟨rfl, r8, b8⟩
      have B8 := B7.trans (b8.mono B7.size)
      have extX := (hr1.below b8).more b8.size; clear hr1; have hr1 := extX; clear extX
      have extX := Lib.hid (own_ext O2.out b8); clear O2; have O2 := extX; clear extX
      have extX := Lib.hid (own_ext O7.out b8); clear O7; have O7 := extX; clear extX
      clear b8
      go_wp2_with fail
      refine (observeOf_any A1 _ k1 16 c1 16 ants (spotL k 2) _ Ha.out (spotL_len _ _) hkc (by omega) (by omega) hr1 r8.rd).mono ?_
      rintro e w9 ⟨v, rfl, o9, b9⟩
      rw [Hva.out, Hvsp.out]
      rw [obsR_yes Hva.out Hvsp.out] at o9
      have hzl : (obsL ants (spotL k 2)).length = L := by rw [obsL_len, Ha.out, HLp.out]
      rw [hzl] at o9
      obtain ⟨A9, c9, rfl⟩ := own_form o9
      have B9 := B8.trans (b9.mono B8.size)
      have extX := Lib.hid (own_ext O2.out b9); clear O2; have O2 := extX; clear extX
      have extX := Lib.hid (own_ext O7.out b9); clear O7; have O7 := extX; clear extX
      have hrS := Rd.of_own O2.out
      have hrY := Rd.of_own O7.out
      have hrZ := Rd.of_own o9
      cases p
      · obtain rfl := HyF.out rfl
        go_wp2_with fail
        go_loop [18] (fun i => i = .int .i64 0) (fun _ => 0)
        case atStart => rfl
        case round =>
          subst hrel
          go_wp2_with fail
          go_ret
          exact ⟨rfl, B9⟩
      · have hYL : Y.length = L := by rw [HyT.out rfl, obsL_len, Ha.out, HLp.out]
        have hadd := obs_add ants s (spotL k 2)
        rw [← HyT.out rfl, Ha.out, HLp.out.symm, ← HSo.out] at hadd
        have hSb := obs_le (ants := ants) Hvs.out
        rw [← HSo.out] at hSb
        have hZb := obs_le (ants := ants) Hvsp.out
        obtain ⟨Z, hZ⟩ : ∃ Z, obsL ants (spotL k 2) = Z := ⟨_, rfl⟩
        rw [hZ] at hadd hZb hzl hrZ
        rw [hYL]
        have HYL := Lib.hid hYL; clear hYL
        have Hadd := Lib.hid hadd; clear hadd
        have HSb := Lib.hid hSb; clear hSb
        have HZb := Lib.hid hZb; clear hZb
        have Hzl := Lib.hid hzl; clear hzl
        have HZ := Lib.hid hZ; clear hZ
        go_wp2_with fail
        go_loopw [18] (fun i wr => ∃ m : Nat, m ≤ L ∧ i = .int .i64 m ∧ Below w9.heap.size w9 wr) (fun i _ => L - (intOf i).toNat)
        case atStart => exact ⟨0, by omega, rfl, Below.refl _ _⟩
        case round =>
          obtain ⟨m, hm', rfl, hbel⟩ := hrel
          by_cases hlt : m < L
          · have hmL : (m : Int) < L := by omega
            obtain ⟨b7, o7', rfl, hb7, y1, y2⟩ := rd_pair (hrY.ext hbel) (getD_of (gs := Y) (k := m) (by rw [HYL.out]; exact hlt))
            obtain ⟨b3, o3', rfl, hb3, s1, s2⟩ := rd_pair (hrS.ext hbel) (getD_of (gs := S) (k := m) (by rw [HSL.out]; exact hlt))
            obtain ⟨b9, o9', rfl, hb9, z1, z2⟩ := rd_pair (hrZ.ext hbel) (getD_of (gs := Z) (k := m) (by rw [Hzl.out]; exact hlt))
            have had := Hadd.out m hlt
            have hs := gLe_get HSb.out (by omega) m
            have hz := gLe_get HZb.out (by omega) m
            have e1 := congrArg Prod.fst had
            have e2 := congrArg Prod.snd had
            dsimp only at e1 e2
            rw [e1] at y1
            rw [e2] at y2
            generalize S.getD m (0, 0) = x at *
            generalize Z.getD m (0, 0) = u at *
            clear had e1 e2
            have i1 : IntKind.i64.wrap (x.1 + u.1) = x.1 + u.1 := IntWalk.i64_in _ (by omega)
            have i2 : IntKind.i64.wrap (x.2 + u.2) = x.2 + u.2 := IntWalk.i64_in _ (by omega)
            have B10 := B9.trans (hbel.mono B9.size)
            have Hbel := Lib.hid hbel; clear hbel
            have I1 := Lib.hid i1; clear i1
            have I2 := Lib.hid i2; clear i2
            go_wp2_with fail
            refine wp_region_N [] [] (by kernel_rfl) (by kernel_rfl) ?_
            refine wpStill_go (v := .slice (some ⟨b9, o9', none⟩) L c9) rfl rfl (stays_run fun w' h => ex_move rfl rfl) ?_
            simp only [Act.put, List.setIfInBounds_toArray, List.set_cons_succ, List.set_cons_zero]
            refine wpStill_go (v := .int .i64 L) rfl rfl (stays_run fun w' h => ex_len rfl (by kernel_rfl) rfl) ?_
            simp only [Act.put, List.setIfInBounds_toArray, List.set_cons_succ, List.set_cons_zero]
            refine wpStill_go (v := .slice (some ⟨b7, o7', none⟩) L c7) rfl rfl (stays_run fun w' h => ex_move rfl rfl) ?_
            simp only [Act.put, List.setIfInBounds_toArray, List.set_cons_succ, List.set_cons_zero]
            refine wpStill_go (v := .int .i64 L) rfl rfl (stays_run fun w' h => ex_len rfl (by kernel_rfl) rfl) ?_
            simp only [Act.put, List.setIfInBounds_toArray, List.set_cons_succ, List.set_cons_zero]
            refine wpStill_go (v := .bool false) rfl rfl (stays_run fun w' h => by simp [go_sem]) ?_
            simp only [Act.put, List.setIfInBounds_toArray, List.set_cons_succ, List.set_cons_zero]
            refine wpStill_go (v := .bool false) rfl rfl (stays_run fun w' h => ex_move rfl rfl) ?_
            simp only [Act.put, List.setIfInBounds_toArray, List.set_cons_succ, List.set_cons_zero]
            refine wpStill_go (v := .slice (some ⟨b7, o7', none⟩) L c7) rfl rfl (stays_run fun w' h => ex_move rfl rfl) ?_
            simp only [Act.put, List.setIfInBounds_toArray, List.set_cons_succ, List.set_cons_zero]
            refine wpStill_go (v := .int .i64 m) rfl rfl (stays_run fun w' h => ex_move rfl rfl) ?_
            simp only [Act.put, List.setIfInBounds_toArray, List.set_cons_succ, List.set_cons_zero]
            refine wpStill_go (v := .pointer (some ⟨b7, o7' + m * 2, none⟩)) rfl rfl (stays_run fun w' h => ex_index rfl (by kernel_rfl) (by kernel_rfl) rfl rfl (hlt)) ?_
            simp only [Act.put, List.setIfInBounds_toArray, List.set_cons_succ, List.set_cons_zero]
            refine wpStill_go (v := .agg #[.int .i64 (x.1 + u.1), .int .i64 (x.2 + u.2)]) rfl rfl (stays_run fun w' h => ex_load rfl rfl (ld_two (by kernel_rfl) (by kernel_rfl) ((bcl h hb7 _).trans y1) ((bcl h hb7 _).trans y2))) ?_
            simp only [Act.put, List.setIfInBounds_toArray, List.set_cons_succ, List.set_cons_zero]
            refine wpStill_go (v := .slice (some ⟨b3, o3', none⟩) L c3) rfl rfl (stays_run fun w' h => ex_move rfl rfl) ?_
            simp only [Act.put, List.setIfInBounds_toArray, List.set_cons_succ, List.set_cons_zero]
            refine wpStill_go (v := .int .i64 m) rfl rfl (stays_run fun w' h => ex_move rfl rfl) ?_
            simp only [Act.put, List.setIfInBounds_toArray, List.set_cons_succ, List.set_cons_zero]
            refine wpStill_go (v := .pointer (some ⟨b3, o3' + m * 2, none⟩)) rfl rfl (stays_run fun w' h => ex_index rfl (by kernel_rfl) (by kernel_rfl) rfl rfl (hlt)) ?_
            simp only [Act.put, List.setIfInBounds_toArray, List.set_cons_succ, List.set_cons_zero]
            refine wpStill_go (v := .pointer (some ⟨b3, o3' + m * 2, none⟩)) rfl rfl (stays_run fun w' h => by simp [go_sem]) ?_
            simp only [Act.put, List.setIfInBounds_toArray, List.set_cons_succ, List.set_cons_zero]
            refine wpStill_go (v := .int .i64 x.1) rfl rfl (stays_run fun w' h => ex_load rfl rfl (ld_one (by kernel_rfl) ((bcl h hb3 _).trans s1))) ?_
            simp only [Act.put, List.setIfInBounds_toArray, List.set_cons_succ, List.set_cons_zero]
            refine wpStill_go (v := .slice (some ⟨b9, o9', none⟩) L c9) rfl rfl (stays_run fun w' h => ex_move rfl rfl) ?_
            simp only [Act.put, List.setIfInBounds_toArray, List.set_cons_succ, List.set_cons_zero]
            refine wpStill_go (v := .int .i64 m) rfl rfl (stays_run fun w' h => ex_move rfl rfl) ?_
            simp only [Act.put, List.setIfInBounds_toArray, List.set_cons_succ, List.set_cons_zero]
            refine wpStill_go (v := .pointer (some ⟨b9, o9' + m * 2, none⟩)) rfl rfl (stays_run fun w' h => ex_index rfl (by kernel_rfl) (by kernel_rfl) rfl rfl (hlt)) ?_
            simp only [Act.put, List.setIfInBounds_toArray, List.set_cons_succ, List.set_cons_zero]
            refine wpStill_go (v := .pointer (some ⟨b9, o9' + m * 2, none⟩)) rfl rfl (stays_run fun w' h => by simp [go_sem]) ?_
            simp only [Act.put, List.setIfInBounds_toArray, List.set_cons_succ, List.set_cons_zero]
            refine wpStill_go (v := .int .i64 u.1) rfl rfl (stays_run fun w' h => ex_load rfl rfl (ld_one (by kernel_rfl) ((bcl h hb9 _).trans z1))) ?_
            simp only [Act.put, List.setIfInBounds_toArray, List.set_cons_succ, List.set_cons_zero]
            refine wpStill_go (v := .int .i64 (x.1 + u.1)) rfl rfl (stays_run fun w' h => by simp [go_sem, I1.out]) ?_
            simp only [Act.put, List.setIfInBounds_toArray, List.set_cons_succ, List.set_cons_zero]
            refine wpStill_go (v := .slice (some ⟨b3, o3', none⟩) L c3) rfl rfl (stays_run fun w' h => ex_move rfl rfl) ?_
            simp only [Act.put, List.setIfInBounds_toArray, List.set_cons_succ, List.set_cons_zero]
            refine wpStill_go (v := .int .i64 m) rfl rfl (stays_run fun w' h => ex_move rfl rfl) ?_
            simp only [Act.put, List.setIfInBounds_toArray, List.set_cons_succ, List.set_cons_zero]
            refine wpStill_go (v := .pointer (some ⟨b3, o3' + m * 2, none⟩)) rfl rfl (stays_run fun w' h => ex_index rfl (by kernel_rfl) (by kernel_rfl) rfl rfl (hlt)) ?_
            simp only [Act.put, List.setIfInBounds_toArray, List.set_cons_succ, List.set_cons_zero]
            refine wpStill_go (v := .pointer (some ⟨b3, o3' + m * 2 + 1, none⟩)) rfl rfl (stays_run fun w' h => by simp [go_sem]) ?_
            simp only [Act.put, List.setIfInBounds_toArray, List.set_cons_succ, List.set_cons_zero]
            refine wpStill_go (v := .int .i64 x.2) rfl rfl (stays_run fun w' h => ex_load rfl rfl (ld_one (by kernel_rfl) ((bcl h hb3 _).trans s2))) ?_
            simp only [Act.put, List.setIfInBounds_toArray, List.set_cons_succ, List.set_cons_zero]
            refine wpStill_go (v := .slice (some ⟨b9, o9', none⟩) L c9) rfl rfl (stays_run fun w' h => ex_move rfl rfl) ?_
            simp only [Act.put, List.setIfInBounds_toArray, List.set_cons_succ, List.set_cons_zero]
            refine wpStill_go (v := .int .i64 m) rfl rfl (stays_run fun w' h => ex_move rfl rfl) ?_
            simp only [Act.put, List.setIfInBounds_toArray, List.set_cons_succ, List.set_cons_zero]
            refine wpStill_go (v := .pointer (some ⟨b9, o9' + m * 2, none⟩)) rfl rfl (stays_run fun w' h => ex_index rfl (by kernel_rfl) (by kernel_rfl) rfl rfl (hlt)) ?_
            simp only [Act.put, List.setIfInBounds_toArray, List.set_cons_succ, List.set_cons_zero]
            refine wpStill_go (v := .pointer (some ⟨b9, o9' + m * 2 + 1, none⟩)) rfl rfl (stays_run fun w' h => by simp [go_sem]) ?_
            simp only [Act.put, List.setIfInBounds_toArray, List.set_cons_succ, List.set_cons_zero]
            refine wpStill_go (v := .int .i64 u.2) rfl rfl (stays_run fun w' h => ex_load rfl rfl (ld_one (by kernel_rfl) ((bcl h hb9 _).trans z2))) ?_
            simp only [Act.put, List.setIfInBounds_toArray, List.set_cons_succ, List.set_cons_zero]
            refine wpStill_go (v := .int .i64 (x.2 + u.2)) rfl rfl (stays_run fun w' h => by simp [go_sem, I2.out]) ?_
            simp only [Act.put, List.setIfInBounds_toArray, List.set_cons_succ, List.set_cons_zero]
            refine wpStill_go (v := .agg #[.int .i64 (x.1 + u.1), .int .i64 (x.2 + u.2)]) rfl rfl (stays_call (f := 50) (args := #[.int .i64 (x.1 + u.1), .int .i64 (x.2 + u.2)]) (fun w' h => by simp [go_sem]) (fun w' _ => lGauss_any _ _ w')) ?_
            simp only [Act.put, List.setIfInBounds_toArray, List.set_cons_succ, List.set_cons_zero]
            refine wpStill_go (v := .bool false) rfl rfl (stays_run fun w' h => by simp [go_sem]) ?_
            simp only [Act.put, List.setIfInBounds_toArray, List.set_cons_succ, List.set_cons_zero]
            refine wpStill_go (v := .bool false) rfl rfl (stays_run fun w' h => by simp [go_sem]) ?_
            simp only [Act.put, List.setIfInBounds_toArray, List.set_cons_succ, List.set_cons_zero]
            refine wpStill_nil ?_
            repeat (refine wpMark_skip rfl ?_)
            refine wpMark_nil fun w11 h11 => ?_
            simp only [onlyN, Exit.then]
            have B7 := Hbel.out.trans (((Below.refl _ _).drew.trans h11).mono Hbel.out.size)
            clear y1 y2 s1 s2 z1 z2
            go_wp2_with fail
            go_roundw
            case measure => simp [intOf]; omega
            case rel => exact ⟨m + 1, by omega, by go_num, B7⟩
          · obtain rfl : m = L := by omega
            have B10 := B9.trans (hbel.mono B9.size)
            go_wp2_with fail
            go_ret
            exact ⟨rfl, B10⟩
  · have hnb : (1048576 : Int) < (n : Int) ∨ (1048576 : Int) < (nC : Int) := by omega
    by_cases h1 : n ≤ 1048576
    · have hnb : ¬ (1048576 : Int) < (n : Int) := by omega
      have hnbC : (1048576 : Int) < (nC : Int) := by omega
      go_enter Try.func12, Try.ntmps12
      go_wp2_with fail
      go_ret
      exact ⟨rfl, Below.refl _ _⟩
    · have hnb : (1048576 : Int) < (n : Int) := by omega
      go_enter Try.func12, Try.ntmps12
      go_wp2_with fail
      go_ret
      exact ⟨rfl, Below.refl _ _⟩
end Go.Proofs.Ytcllkocmnohnkaa
