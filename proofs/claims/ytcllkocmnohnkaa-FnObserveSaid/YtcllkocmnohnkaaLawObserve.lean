/- FnObserve returns true at every input, and leaves what was there. -/
import Derived.Test.YtcllkocmnohnkaaLawObs
import Derived.Test.YtcllkocmnohnkaaPairJ
import Derived.Test.YtcllkocmnohnkaaLawBeam
namespace Go.Proofs.Ytcllkocmnohnkaa
open Go.RowKit

set_option maxRecDepth 100000 in
set_option maxHeartbeats 1000000 in
theorem FnObserve_walk (w : World) (A : Option Addr) (n cap : Nat) (bs : List Int) (hn : bs.length = n) (hm : n ≤ 9223372036854775807) (hr : Rd w w.heap.size A (bs.map (Value.int .u8))) (hw : ∀ x ∈ bs, (Lit.int .u8 x).wf = true) (hk : n ≤ cap) (C : Option Addr) (nC capC : Nat) (ms : List Int) (_ : ms.length = nC) (_ : nC ≤ 9223372036854775807) (_ : Rd w w.heap.size C (ms.map (Value.int .u8))) (_ : ∀ x ∈ ms, (Lit.int .u8 x).wf = true) (_ : nC ≤ capC) :
    Calls Try.prog 16 #[.slice A n cap, .slice C nC capC] w fun e w' => e = .returned (.bool true) ∧ Below w.heap.size w w' := by
  have Hbs := Lib.hid (bytesOk_of hw); clear hw
  by_cases hb : n ≤ 1048576 ∧ nC ≤ 1048576
  · obtain ⟨hb, hbC⟩ := hb
    have hnb : ¬ (1048576 : Int) < (n : Int) := by omega
    have hnbC : ¬ (1048576 : Int) < (nC : Int) := by omega
    go_enter Try.func16, Try.ntmps16
    go_wp2_with fail
    refine (drawObserveOf_any A n cap bs w hn hm hk Hbs.out hr).mono ?_
    rintro e w1 ⟨A1, k1, c1, ants, A2, k2, c2, s, rfl, ha, hk1, hkc, hr1, hs, hk2, hr2, B1⟩
    have Ha := Lib.hid ha; clear ha
    have Hs := Lib.hid hs; clear hs
    clear hr hn
    go_wp2_with fail
    refine (observeOf_any A1 A2 k1 k2 c1 c2 ants s _ Ha.out Hs.out hkc (by omega) (by omega) hr1 hr2).mono ?_
    rintro e w2 ⟨v, rfl, o2, b2⟩
    have B2 := B1.trans (b2.mono B1.size)
    have extX := (hr1.below b2).more b2.size; clear hr1; have hr1 := extX; clear extX
    have extX := (hr2.below b2).more b2.size; clear hr2; have hr2 := extX; clear extX
    obtain ⟨A3, c3, rfl⟩ := own_form o2
    have O2 := Lib.hid o2
    clear o2 b2
    go_wp2_with fail
    refine (sObserveOf_any A1 A2 k1 k2 c1 c2 ants s _ Ha.out Hs.out (by omega) (by omega) hr1 hr2).mono ?_
    rintro e w3 ⟨v, rfl, o3, b3⟩
    have B3 := B2.trans (b3.mono B2.size)
    have extX := (hr1.below b3).more b3.size; clear hr1; have hr1 := extX; clear extX
    have extX := (hr2.below b3).more b3.size; clear hr2; have hr2 := extX; clear extX
    have extX := Lib.hid (own_ext O2.out b3); clear O2; have O2 := extX; clear extX
    obtain ⟨A4, c4, rfl⟩ := own_form o3
    have O3 := Lib.hid o3
    clear o3 b3
    have hLb := obsR_len ants s
    obtain ⟨L, hL⟩ : ∃ L, (obsR ants s).length = L := ⟨_, rfl⟩
    obtain ⟨S, hS⟩ : ∃ S, obsR ants s = S := ⟨_, rfl⟩
    have hSL : S.length = L := by rw [← hS]; exact hL
    have O2 := O2.out
    have O3 := O3.out
    rw [hL, hS] at O2 O3
    rw [hL] at hLb ⊢
    have hidX := Lib.hid O2; clear O2; have O2 := hidX; clear hidX
    have hidX := Lib.hid O3; clear O3; have O3 := hidX; clear hidX
    have HSL := Lib.hid hSL; clear hSL
    have HL := Lib.hid hL; clear hL
    have HS := Lib.hid hS; clear hS
    obtain ⟨ok, hok⟩ : ∃ ok, (arrV ants && skyV s) = ok := ⟨_, rfl⟩
    rw [hok]
    have hne : (ok != ok) = false := by simp
    have Hok := Lib.hid hok
    clear hok
    go_wp2_with fail
    refine (sameGrid_any A3 A4 L L c3 c4 S S _ HSL.out HSL.out (by omega) (Rd.of_own O2.out) (Rd.of_own O3.out)).mono ?_
    rintro e w4 ⟨rfl, b4⟩
    have B4 := B3.trans (b4.mono B3.size)
    have extX := (hr1.below b4).more b4.size; clear hr1; have hr1 := extX; clear extX
    have extX := (hr2.below b4).more b4.size; clear hr2; have hr2 := extX; clear extX
    have extX := Lib.hid (own_ext O2.out b4); clear O2; have O2 := extX; clear extX
    have extX := Lib.hid (own_ext O3.out b4); clear O3; have O3 := extX; clear extX
    clear b4
    rw [decide_eq_true (rfl : S = S)]
    cases ok
    · go_wp2_with fail
      refine (sameGrid_any A3 A4 L L c3 c4 S S _ HSL.out HSL.out (by omega) (Rd.of_own O2.out) (Rd.of_own O3.out)).mono ?_
      rintro e w5 ⟨rfl, b5⟩
      rw [decide_eq_true (rfl : S = S)]
      go_wp2_with fail
      go_ret
      exact ⟨rfl, B4.trans (b5.mono B4.size)⟩
    · obtain ⟨hva, hvs⟩ := Bool.and_eq_true_iff.1 Hok.out
      have han := arrV_len hva
      rw [Ha.out] at han
      obtain rfl : k2 = 16 := by rw [← Hs.out]; exact skyV_len hvs
      have hSo : S = obsL ants s := by rw [← HS.out]; exact obsR_yes hva hvs
      have hLp : L = (pairsN k1).length := by rw [← HSL.out, hSo, obsL_len, Ha.out]
      have hL1 : 1 ≤ L := by rw [hLp]; exact pairs_pos k1 han.1 han.2
      have HSo := Lib.hid hSo; clear hSo
      have Hva := Lib.hid hva; clear hva
      have Hvs := Lib.hid hvs; clear hvs
      have HLp := Lib.hid hLp; clear hLp
      obtain ⟨m, hm0⟩ : ∃ m, nC % L = m := ⟨_, rfl⟩
      have hmL : m < L := by rw [← hm0]; exact Nat.mod_lt _ (by omega)
      have hmI : (nC : Int) % (L : Int) = (m : Int) := by rw [← hm0]; exact (Int.natCast_emod nC L).symm
      have hL0 : (L : Int) ≠ 0 := by omega
      have hLb : ((L : Int) == 0) = false := beq_eq_false_iff_ne.2 hL0
      have HmI := Lib.hid hmI
      clear hm0 hmI
      have hmp : m < (pairsN k1).length := by rw [← HLp.out]; exact hmL
      obtain ⟨hp1, hp2⟩ := pairAt_lt hmp
      have hbp := fun w => basePair_any k1 m w han.1 han.2 hmp
      have hget := obsL_get ants s m (by rw [Ha.out]; exact hmp)
      rw [← HSo.out, Ha.out] at hget
      change _ = (skyT s).getD (vecC ants (pairAt k1 m).1 (pairAt k1 m).2) (0, 0) at hget
      generalize (pairAt k1 m).1 = i at *
      generalize (pairAt k1 m).2 = j at *
      have Hbp := Lib.hid hbp; clear hbp
      go_wp2_with fail
      rw [HmI.out]
      go_wp2_with fail
      refine (Hbp.out _).mono ?_
      rintro e w5 ⟨rfl, b5⟩
      have B5 := B4.trans (b5.mono B4.size)
      have extX := (hr1.below b5).more b5.size; clear hr1; have hr1 := extX; clear extX
      have extX := (hr2.below b5).more b5.size; clear hr2; have hr2 := extX; clear extX
      have extX := Lib.hid (own_ext O2.out b5); clear O2; have O2 := extX; clear extX
      clear b5
      go_wp2_with fail
      refine (baseVector_yes A1 k1 c1 ants i j _ Ha.out hkc Hva.out (by omega) hp2 hr1).mono ?_
      rintro e w6 ⟨rfl, b6⟩
      have B6 := B5.trans (b6.mono B5.size)
      have extX := (hr2.below b6).more b6.size; clear hr2; have hr2 := extX; clear extX
      have extX := Lib.hid (own_ext O2.out b6); clear O2; have O2 := extX; clear extX
      clear b6
      obtain ⟨X, hX⟩ : ∃ X, vecX ants i j = X := ⟨_, rfl⟩
      obtain ⟨Y, hY⟩ : ∃ Y, vecY ants i j = Y := ⟨_, rfl⟩
      obtain ⟨c, hc⟩ : ∃ c, vecC ants i j = c := ⟨_, rfl⟩
      have hcI : cellI X Y = (c : Int) := by rw [← hc, ← hX, ← hY]; exact cellN_cast _ _
      have hc16 : c < 16 := by rw [← hc]; exact vecC_lt _ _ _
      rw [hX, hY]
      rw [hc] at hget
      have HcI := Lib.hid hcI
      clear hX hY hc hcI
      go_wp2_with fail
      have rv := Row.new w6 53 [.int .i64 X, .int .i64 Y]
      have B7 := B6.alloc B6.size (.cells #[.int .i64 X, .int .i64 Y] 53)
      have e7 := bA1 (w := w6) (o := .cells #[.int .i64 X, .int .i64 Y] 53)
      have extX := (hr2.below e7).more e7.size; clear hr2; have hr2 := extX; clear extX
      have extX := Lib.hid (own_ext O2.out e7); clear O2; have O2 := extX; clear extX
      refine (skyTransform_yes A2 c2 s _ Hvs.out hr2).mono ?_
      rintro e w8 ⟨g, rfl, hg, r8, b8⟩
      have rv := rv.kept b8
      have B8 := B7.trans (b8.mono B7.size)
      have extX := Lib.hid (own_ext O2.out b8); clear O2; have O2 := extX; clear extX
      obtain ⟨h, hh⟩ : ∃ h, w6.heap.size = h := ⟨_, rfl⟩
      rw [hh] at rv ⊢
      clear b8 B7 hh
      obtain ⟨b1, o1, rfl, L1⟩ := ld_pair (Rd.of_own O2.out) (k := m) (by rw [HSL.out]; exact hmL)
      obtain ⟨_, _, e, L2⟩ := ld_pair r8.rd (k := c) (by rw [skyT_len]; exact hc16)
      cases e
      rw [hget] at L1
      generalize (skyT s).getD c (0, 0) = gz at *
      have hbm := bm_pairs k1 han.1 han.2
      rw [← HLp.out] at hbm
      have Hbm := Lib.hid hbm
      clear hbm
      go_wp2_with fail
      refine wp_region_N [] [] (by kernel_rfl) (by kernel_rfl) ?_
      refine wpStill_go (v := .bool true) rfl rfl (stays_run fun w' h => ex_move rfl rfl) ?_
      simp only [Act.put, List.setIfInBounds_toArray, List.set_cons_succ, List.set_cons_zero]
      refine wpStill_go (v := .bool true) rfl rfl (stays_run fun w' h => ex_move rfl rfl) ?_
      simp only [Act.put, List.setIfInBounds_toArray, List.set_cons_succ, List.set_cons_zero]
      refine wpStill_go (v := .bool true) rfl rfl (stays_run fun w' h => ex_move rfl rfl) ?_
      simp only [Act.put, List.setIfInBounds_toArray, List.set_cons_succ, List.set_cons_zero]
      refine wpStill_go (v := .bool true) rfl rfl (stays_run fun w' h => by simp [go_sem]) ?_
      simp only [Act.put, List.setIfInBounds_toArray, List.set_cons_succ, List.set_cons_zero]
      refine wpStill_go (v := .bool true) rfl rfl (stays_run fun w' h => ex_move rfl rfl) ?_
      simp only [Act.put, List.setIfInBounds_toArray, List.set_cons_succ, List.set_cons_zero]
      refine wpStill_go (v := .bool true) rfl rfl (stays_run fun w' h => ex_move rfl rfl) ?_
      simp only [Act.put, List.setIfInBounds_toArray, List.set_cons_succ, List.set_cons_zero]
      refine wpStill_go (v := .bool true) rfl rfl (stays_run fun w' h => by simp [go_sem]) ?_
      simp only [Act.put, List.setIfInBounds_toArray, List.set_cons_succ, List.set_cons_zero]
      refine wpStill_go (v := .bool true) rfl rfl (stays_run fun w' h => ex_move rfl rfl) ?_
      simp only [Act.put, List.setIfInBounds_toArray, List.set_cons_succ, List.set_cons_zero]
      refine wpStill_go (v := .slice (some ⟨b1, o1, none⟩) L c3) rfl rfl (stays_run fun w' h => ex_move rfl rfl) ?_
      simp only [Act.put, List.setIfInBounds_toArray, List.set_cons_succ, List.set_cons_zero]
      refine wpStill_go (v := .int .i64 L) rfl rfl (stays_run fun w' h => ex_len rfl (by kernel_rfl) rfl) ?_
      simp only [Act.put, List.setIfInBounds_toArray, List.set_cons_succ, List.set_cons_zero]
      refine wpStill_go (v := .slice A1 k1 c1) rfl rfl (stays_run fun w' h => ex_move rfl rfl) ?_
      simp only [Act.put, List.setIfInBounds_toArray, List.set_cons_succ, List.set_cons_zero]
      refine wpStill_go (v := .int .i64 k1) rfl rfl (stays_run fun w' h => ex_len rfl (by kernel_rfl) rfl) ?_
      simp only [Act.put, List.setIfInBounds_toArray, List.set_cons_succ, List.set_cons_zero]
      refine wpStill_go (v := .int .i64 L) rfl rfl (stays_call (f := 78) (args := #[.int .i64 k1]) (fun w' h => by simp [go_sem]) (fun w' _ => by rw [← Hbm.out]; exact (baseMany_any _ w').mono fun e w'' ⟨h, h2⟩ => ⟨h, h2 ▸ Below.refl _ _⟩)) ?_
      simp only [Act.put, List.setIfInBounds_toArray, List.set_cons_succ, List.set_cons_zero]
      refine wpStill_go (v := .bool true) rfl rfl (stays_run fun w' h => by simp [go_sem]) ?_
      simp only [Act.put, List.setIfInBounds_toArray, List.set_cons_succ, List.set_cons_zero]
      refine wpStill_go (v := .bool true) rfl rfl (stays_run fun w' h => by simp [go_sem]) ?_
      simp only [Act.put, List.setIfInBounds_toArray, List.set_cons_succ, List.set_cons_zero]
      refine wpStill_go (v := .bool true) rfl rfl (stays_run fun w' h => ex_move rfl rfl) ?_
      simp only [Act.put, List.setIfInBounds_toArray, List.set_cons_succ, List.set_cons_zero]
      refine wpStill_go (v := .slice (some ⟨b1, o1, none⟩) L c3) rfl rfl (stays_run fun w' h => ex_move rfl rfl) ?_
      simp only [Act.put, List.setIfInBounds_toArray, List.set_cons_succ, List.set_cons_zero]
      refine wpStill_go (v := .int .i64 m) rfl rfl (stays_run fun w' h => ex_move rfl rfl) ?_
      simp only [Act.put, List.setIfInBounds_toArray, List.set_cons_succ, List.set_cons_zero]
      refine wpStill_go (v := .pointer (some ⟨b1, o1 + m * 2, none⟩)) rfl rfl (stays_run fun w' h => ex_index rfl (by kernel_rfl) (by kernel_rfl) rfl rfl (hmL)) ?_
      simp only [Act.put, List.setIfInBounds_toArray, List.set_cons_succ, List.set_cons_zero]
      refine wpStill_go (v := .agg #[.int .i64 gz.1, .int .i64 gz.2]) rfl rfl (stays_run fun w' h => ex_load rfl rfl (L1 w' h)) ?_
      simp only [Act.put, List.setIfInBounds_toArray, List.set_cons_succ, List.set_cons_zero]
      refine wpStill_go (v := .slice (some ⟨g, 0, none⟩) 16 16) rfl rfl (stays_run fun w' h => ex_move rfl rfl) ?_
      simp only [Act.put, List.setIfInBounds_toArray, List.set_cons_succ, List.set_cons_zero]
      refine wpStill_go (v := .pointer (some ⟨h, 0, none⟩)) rfl rfl (stays_run fun w' h => by simp [go_sem]) ?_
      simp only [Act.put, List.setIfInBounds_toArray, List.set_cons_succ, List.set_cons_zero]
      refine wpStill_go (v := .int .i64 X) rfl rfl (stays_run fun w' h => ex_load rfl rfl (ld_one (by kernel_rfl) ((rv.kept ‹_›).cell 0))) ?_
      simp only [Act.put, List.setIfInBounds_toArray, List.set_cons_succ, List.set_cons_zero]
      refine wpStill_go (v := .pointer (some ⟨h, 1, none⟩)) rfl rfl (stays_run fun w' h => by simp [go_sem]) ?_
      simp only [Act.put, List.setIfInBounds_toArray, List.set_cons_succ, List.set_cons_zero]
      refine wpStill_go (v := .int .i64 Y) rfl rfl (stays_run fun w' h => ex_load rfl rfl (ld_one (by kernel_rfl) ((rv.kept ‹_›).cell 1))) ?_
      simp only [Act.put, List.setIfInBounds_toArray, List.set_cons_succ, List.set_cons_zero]
      refine wpStill_go (v := .int .i64 (c : Nat)) rfl rfl (stays_call (f := 79) (args := #[.int .i64 X, .int .i64 Y]) (fun w' h => by simp [go_sem]) (fun w' _ => by rw [← HcI.out]; exact (lCellAt_any _ _ w').mono fun e w'' ⟨h, h2⟩ => ⟨h, h2 ▸ Below.refl _ _⟩)) ?_
      simp only [Act.put, List.setIfInBounds_toArray, List.set_cons_succ, List.set_cons_zero]
      refine wpStill_go (v := .pointer (some ⟨g, 0 + c * 2, none⟩)) rfl rfl (stays_run fun w' h => ex_index rfl (by kernel_rfl) (by kernel_rfl) rfl rfl (hc16)) ?_
      simp only [Act.put, List.setIfInBounds_toArray, List.set_cons_succ, List.set_cons_zero]
      refine wpStill_go (v := .agg #[.int .i64 gz.1, .int .i64 gz.2]) rfl rfl (stays_run fun w' h => ex_load rfl rfl (L2 w' h)) ?_
      simp only [Act.put, List.setIfInBounds_toArray, List.set_cons_succ, List.set_cons_zero]
      refine wpStill_go (v := .bool true) rfl rfl (stays_run fun w' h => by simp [go_sem]) ?_
      simp only [Act.put, List.setIfInBounds_toArray, List.set_cons_succ, List.set_cons_zero]
      refine wpStill_go (v := .bool true) rfl rfl (stays_run fun w' h => by simp [go_sem]) ?_
      simp only [Act.put, List.setIfInBounds_toArray, List.set_cons_succ, List.set_cons_zero]
      refine wpStill_go (v := .bool true) rfl rfl (stays_run fun w' h => by simp [go_sem]) ?_
      simp only [Act.put, List.setIfInBounds_toArray, List.set_cons_succ, List.set_cons_zero]
      refine wpStill_nil ?_
      repeat (refine wpMark_skip rfl ?_)
      refine wpMark_nil fun w14 h14 => ?_
      simp only [onlyN, Exit.then]
      have B15 := B8.trans (((Below.refl _ _).drew.trans h14).mono B8.size)
      clear L1 L2 rv r8
      go_wp2_with fail
      go_ret
      exact ⟨rfl, B15⟩
  · have hnb : (1048576 : Int) < (n : Int) ∨ (1048576 : Int) < (nC : Int) := by omega
    by_cases h1 : n ≤ 1048576
    · have hnb : ¬ (1048576 : Int) < (n : Int) := by omega
      have hnbC : (1048576 : Int) < (nC : Int) := by omega
      go_enter Try.func16, Try.ntmps16
      go_wp2_with fail
      go_ret
      exact ⟨rfl, Below.refl _ _⟩
    · have hnb : (1048576 : Int) < (n : Int) := by omega
      go_enter Try.func16, Try.ntmps16
      go_wp2_with fail
      go_ret
      exact ⟨rfl, Below.refl _ _⟩
end Go.Proofs.Ytcllkocmnohnkaa
