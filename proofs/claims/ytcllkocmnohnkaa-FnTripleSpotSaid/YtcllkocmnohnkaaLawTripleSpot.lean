/- FnTripleSpot returns true at every input, and leaves what was there. -/
import Derived.Test.YtcllkocmnohnkaaObsT
import Derived.Test.YtcllkocmnohnkaaTripleI
namespace Go.Proofs.Ytcllkocmnohnkaa
open Go.RowKit

theorem pairs2 : (pairsN 2).length = 1 := by decide
set_option maxRecDepth 100000 in
set_option maxHeartbeats 1000000 in
theorem FnTripleSpot_walk (w : World) (A : Option Addr) (n cap : Nat) (bs : List Int) (hn : bs.length = n) (hm : n ≤ 9223372036854775807) (hr : Rd w w.heap.size A (bs.map (Value.int .u8))) (hw : ∀ x ∈ bs, (Lit.int .u8 x).wf = true) (hk : n ≤ cap) (C : Option Addr) (nC capC : Nat) (ms : List Int) (_ : ms.length = nC) (_ : nC ≤ 9223372036854775807) (_ : Rd w w.heap.size C (ms.map (Value.int .u8))) (_ : ∀ x ∈ ms, (Lit.int .u8 x).wf = true) (_ : nC ≤ capC) :
    Calls Try.prog 17 #[.slice A n cap, .slice C nC capC] w fun e w' => e = .returned (.bool true) ∧ Below w.heap.size w w' := by
  have Hbs := Lib.hid (bytesOk_of hw); clear hw
  by_cases hb : n ≤ 1048576 ∧ nC ≤ 1048576
  · obtain ⟨hb, hbC⟩ := hb
    have hnb : ¬ (1048576 : Int) < (n : Int) := by omega
    have hnbC : ¬ (1048576 : Int) < (nC : Int) := by omega
    obtain ⟨k, hk0⟩ : ∃ k : Nat, nC % 16 = k := ⟨_, rfl⟩
    have hk16 : k < 16 := by omega
    have hkI : (nC : Int) % 16 = (k : Int) := by omega
    obtain ⟨m, hm0⟩ : ∃ m : Int, (1 : Int) + (nC : Int) % 50 = m := ⟨_, rfl⟩
    have hm50 : 1 ≤ m ∧ m ≤ 50 := by omega
    clear hk0
    have HkI := Lib.hid hkI
    have Hm0 := Lib.hid hm0
    clear hkI hm0
    go_enter Try.func17, Try.ntmps17
    go_wp2_with fail
    refine (drawObserveOf_any A n cap bs w hn hm hk Hbs.out hr).mono ?_
    rintro e w1 ⟨A1, k1, c1, ants, A2, k2, c2, s, rfl, ha, hk1, hkc, hr1, hs, hk2, hr2, B1⟩
    have Ha := Lib.hid ha; clear ha
    have Hs := Lib.hid hs; clear hs
    clear hr hn
    go_wp2_with fail
    refine (observeOf_any A1 A2 k1 k2 c1 c2 ants s _ Ha.out Hs.out hkc (by omega) (by omega) hr1 hr2).mono ?_
    rintro e w2 ⟨v, rfl, o2, b2⟩
    have B2 := B1.trans (b2.mono B1.size)
    have extX := (hr1.below b2).more b2.size; clear hr1; have hr1 := extX; clear extX
    have extX := (hr2.below b2).more b2.size; clear hr2; have hr2 := extX; clear extX
    obtain ⟨A3, c3, rfl⟩ := own_form o2
    have O2 := Lib.hid o2
    clear o2 b2
    go_wp2_with fail
    refine (sObserveOf_any A1 A2 k1 k2 c1 c2 ants s _ Ha.out Hs.out (by omega) (by omega) hr1 hr2).mono ?_
    rintro e w3 ⟨v, rfl, o3, b3⟩
    have B3 := B2.trans (b3.mono B2.size)
    have extX := (hr1.below b3).more b3.size; clear hr1; have hr1 := extX; clear extX
    have extX := (hr2.below b3).more b3.size; clear hr2; have hr2 := extX; clear extX
    have extX := Lib.hid (own_ext O2.out b3); clear O2; have O2 := extX; clear extX
    obtain ⟨A4, c4, rfl⟩ := own_form o3
    have O3 := Lib.hid o3
    clear o3 b3
    have hLb := obsR_len ants s
    obtain ⟨L, hL⟩ : ∃ L, (obsR ants s).length = L := ⟨_, rfl⟩
    obtain ⟨S, hS⟩ : ∃ S, obsR ants s = S := ⟨_, rfl⟩
    have hSL : S.length = L := by rw [← hS]; exact hL
    have O2 := O2.out
    have O3 := O3.out
    rw [hL, hS] at O2 O3
    rw [hL] at hLb ⊢
    have hidX := Lib.hid O2; clear O2; have O2 := hidX; clear hidX
    have hidX := Lib.hid O3; clear O3; have O3 := hidX; clear hidX
    have HSL := Lib.hid hSL; clear hSL
    have HL := Lib.hid hL; clear hL
    have HS := Lib.hid hS; clear hS
    obtain ⟨ok, hok⟩ : ∃ ok, (arrV ants && skyV s) = ok := ⟨_, rfl⟩
    rw [hok]
    have hne : (ok != ok) = false := by simp
    have Hok := Lib.hid hok
    clear hok
    go_wp2_with fail
    refine (sameGrid_any A3 A4 L L c3 c4 S S _ HSL.out HSL.out (by omega) (Rd.of_own O2.out) (Rd.of_own O3.out)).mono ?_
    rintro e w4 ⟨rfl, b4⟩
    have B4 := B3.trans (b4.mono B3.size)
    have extX := (hr1.below b4).more b4.size; clear hr1; have hr1 := extX; clear extX
    have extX := (hr2.below b4).more b4.size; clear hr2; have hr2 := extX; clear extX
    have extX := Lib.hid (own_ext O2.out b4); clear O2; have O2 := extX; clear extX
    have extX := Lib.hid (own_ext O3.out b4); clear O3; have O3 := extX; clear extX
    clear b4
    rw [decide_eq_true (rfl : S = S)]
    cases ok
    · go_wp2_with fail
      refine (sameGrid_any A3 A4 L L c3 c4 S S _ HSL.out HSL.out (by omega) (Rd.of_own O2.out) (Rd.of_own O3.out)).mono ?_
      rintro e w5 ⟨rfl, b5⟩
      rw [decide_eq_true (rfl : S = S)]
      go_wp2_with fail
      go_ret
      exact ⟨rfl, B4.trans (b5.mono B4.size)⟩
    · obtain ⟨hva, hvs⟩ := Bool.and_eq_true_iff.1 Hok.out
      have han := arrV_len hva
      rw [Ha.out] at han
      obtain rfl : k2 = 16 := by rw [← Hs.out]; exact skyV_len hvs
      have hSo : S = obsL ants s := by rw [← HS.out]; exact obsR_yes hva hvs
      have hLp : L = (pairsN k1).length := by rw [← HSL.out, hSo, obsL_len, Ha.out]
      have hL1 : 1 ≤ L := by rw [hLp]; exact pairs_pos k1 han.1 han.2
      have HSo := Lib.hid hSo; clear hSo
      have Hva := Lib.hid hva; clear hva
      have Hvs := Lib.hid hvs; clear hvs
      have HLp := Lib.hid hLp; clear hLp
      by_cases h3 : k1 < 3
      · have h3I : (k1 : Int) < 3 := by omega
        obtain rfl : k1 = 2 := by omega
        have hL1 : L = 1 := by rw [HLp.out, pairs2]
        subst hL1
        go_wp2_with fail
        go_ret
        exact ⟨rfl, B4⟩
      · have h3I : ¬ (k1 : Int) < 3 := by omega
        go_wp2_with fail
        rw [Hm0.out, HkI.out]
        have Hvsp := Lib.hid (skyV_spot k m hk16 (by omega))
        go_wp2_with fail
        refine (spot_any k m _ hk16).mono ?_
        rintro e w8 ⟨rfl, r8, b8⟩
        have B8 := B4.trans (b8.mono B4.size)
        have extX := (hr1.below b8).more b8.size; clear hr1; have hr1 := extX; clear extX
        clear b8
        go_wp2_with fail
        refine (observeOf_any A1 _ k1 16 c1 16 ants (spotL k m) _ Ha.out (spotL_len _ _) hkc (by omega) (by omega) hr1 r8.rd).mono ?_
        rintro e w9 ⟨v, rfl, o9, b9⟩
        rw [Hva.out, Hvsp.out]
        rw [obsR_yes Hva.out Hvsp.out] at o9
        have hzl : (obsL ants (spotL k m)).length = L := by rw [obsL_len, Ha.out, HLp.out]
        rw [hzl] at o9
        obtain ⟨A9, c9, rfl⟩ := own_form o9
        have hrZ := Rd.of_own o9
        have B9 := B8.trans (b9.mono B8.size)
        have ht := fun (i j k' : Nat) c1 c2 c3 => trip_spot Hva.out k m hk16 hm50 i j k' c1 c2 c3
        rw [Ha.out] at ht
        obtain ⟨Z, hZ⟩ : ∃ Z, obsL ants (spotL k m) = Z := ⟨_, rfl⟩
        rw [hZ] at ht hzl hrZ
        have ht1 := ht 0 1 2 (by omega) (by omega) (by omega)
        have ht2 := ht (k1 - 3) (k1 - 2) (k1 - 1) (by omega) (by omega) (by omega)
        rw [show ((k1 - 3 : Nat) : Int) = (k1 : Int) - 3 from by omega, show ((k1 - 2 : Nat) : Int) = (k1 : Int) - 2 from by omega, show ((k1 - 1 : Nat) : Int) = (k1 : Int) - 1 from by omega] at ht2
        have Ht1 := Lib.hid ht1; clear ht1
        have Ht2 := Lib.hid ht2; clear ht2
        have Hzl := Lib.hid hzl; clear hzl
        have HZ := Lib.hid hZ; clear hZ
        clear ht o9 b9 r8
        go_wp2_with fail
        refine (observeTriple_any k1 A9 L c9 Z 0 1 2 _ Hzl.out (by omega) hrZ).mono ?_
        rintro e w10 ⟨rfl, b10⟩
        rw [show tripV (k1 : Int) Z 0 1 2 = ((m * m * m, 0), true) from Ht1.out]
        have B10 := B9.trans (b10.mono B9.size)
        have hbs10 := B10.size
        have extX := (hrZ.below b10).more b10.size; clear hrZ; have hrZ := extX; clear extX
        clear b10
        obtain ⟨q, hq⟩ : ∃ q, m * m * m = q := ⟨_, rfl⟩
        rw [hq]
        dsimp only
        go_wp2_with fail
        have rx := Row.new w10 49 [.int .i64 q, .int .i64 0]
        have B11 := B10.alloc hbs10 (.cells #[.int .i64 q, .int .i64 0] 49)
        have hrZ' := hrZ.ext (bA1 (o := .cells #[.int .i64 q, .int .i64 0] 49))
        refine (observeTriple_any k1 A9 L c9 Z _ _ _ _ Hzl.out (by omega) hrZ').mono ?_
        rintro e w12 ⟨rfl, b12⟩
        rw [Ht2.out, hq]
        dsimp only
        have rx := rx.kept b12
        have B12 := B11.trans (b12.mono B11.size)
        have hbs12 := B12.size
        clear b12 B11
        go_wp2_with fail
        have ry := Row.new w12 49 [.int .i64 q, .int .i64 0]
        have rx := rx.alloc (.cells #[.int .i64 q, .int .i64 0] 49)
        have B13 := B12.alloc hbs12 (.cells #[.int .i64 q, .int .i64 0] 49)
        obtain ⟨W, hW⟩ : ∃ W, w12.alloc (.cells #[.int .i64 q, .int .i64 0] 49) = W := ⟨_, rfl⟩
        obtain ⟨g1, hg1⟩ : ∃ g1, w10.heap.size = g1 := ⟨_, rfl⟩
        obtain ⟨g2, hg2⟩ : ∃ g2, w12.heap.size = g2 := ⟨_, rfl⟩
        rw [hW] at rx ry B13 ⊢
        rw [hg1] at rx ⊢
        rw [hg2] at ry ⊢
        have Lx : ∀ w', Below W.heap.size W w' → (Instr.loadAt 49 (.pointer (some ⟨g1, 0, none⟩))).run Try.prog w' = .ok (.agg #[.int .i64 q, .int .i64 0]) w' := fun w' h => ld_two (by kernel_rfl) (by kernel_rfl) ((rx.kept h).cell 0) ((rx.kept h).cell 1)
        have Ly : ∀ w', Below W.heap.size W w' → (Instr.loadAt 49 (.pointer (some ⟨g2, 0, none⟩))).run Try.prog w' = .ok (.agg #[.int .i64 q, .int .i64 0]) w' := fun w' h => ld_two (by kernel_rfl) (by kernel_rfl) ((ry.kept h).cell 0) ((ry.kept h).cell 1)
        have bm2 := mul_bd m m 50 50 (by omega) (by omega)
        have bm3 := mul_bd (m * m) m 2500 50 (by simpa using bm2) (by omega)
        simp only [Int.reduceMul, Int.reduceNeg] at bm2 bm3
        have i1 : IntKind.i64.wrap (m * m) = m * m := IntWalk.i64_in _ (by omega)
        have i2 : IntKind.i64.wrap (m * m * m) = q := by rw [← hq]; exact IntWalk.i64_in _ (by omega)
        have I1 := Lib.hid i1; clear i1
        have I2 := Lib.hid i2; clear i2
        have Hq := Lib.hid hq; clear hq
        refine wp_region_N [] [] (by kernel_rfl) (by kernel_rfl) ?_
        refine wpStill_go (v := .bool true) rfl rfl (stays_run fun w' h => ex_move rfl rfl) ?_
        simp only [Act.put, List.setIfInBounds_toArray, List.set_cons_succ, List.set_cons_zero]
        refine wpStill_go (v := .bool true) rfl rfl (stays_run fun w' h => ex_move rfl rfl) ?_
        simp only [Act.put, List.setIfInBounds_toArray, List.set_cons_succ, List.set_cons_zero]
        refine wpStill_go (v := .bool true) rfl rfl (stays_run fun w' h => ex_move rfl rfl) ?_
        simp only [Act.put, List.setIfInBounds_toArray, List.set_cons_succ, List.set_cons_zero]
        refine wpStill_go (v := .bool true) rfl rfl (stays_run fun w' h => by simp [go_sem]) ?_
        simp only [Act.put, List.setIfInBounds_toArray, List.set_cons_succ, List.set_cons_zero]
        refine wpStill_go (v := .bool true) rfl rfl (stays_run fun w' h => ex_move rfl rfl) ?_
        simp only [Act.put, List.setIfInBounds_toArray, List.set_cons_succ, List.set_cons_zero]
        refine wpStill_go (v := .bool true) rfl rfl (stays_run fun w' h => ex_move rfl rfl) ?_
        simp only [Act.put, List.setIfInBounds_toArray, List.set_cons_succ, List.set_cons_zero]
        refine wpStill_go (v := .bool true) rfl rfl (stays_run fun w' h => by simp [go_sem]) ?_
        simp only [Act.put, List.setIfInBounds_toArray, List.set_cons_succ, List.set_cons_zero]
        refine wpStill_go (v := .bool true) rfl rfl (stays_run fun w' h => ex_move rfl rfl) ?_
        simp only [Act.put, List.setIfInBounds_toArray, List.set_cons_succ, List.set_cons_zero]
        refine wpStill_go (v := .agg #[.int .i64 q, .int .i64 0]) rfl rfl (stays_run fun w' h => ex_load rfl rfl (Lx w' h)) ?_
        simp only [Act.put, List.setIfInBounds_toArray, List.set_cons_succ, List.set_cons_zero]
        refine wpStill_go (v := .int .i64 m) rfl rfl (stays_run fun w' h => ex_move rfl rfl) ?_
        simp only [Act.put, List.setIfInBounds_toArray, List.set_cons_succ, List.set_cons_zero]
        refine wpStill_go (v := .int .i64 m) rfl rfl (stays_run fun w' h => ex_move rfl rfl) ?_
        simp only [Act.put, List.setIfInBounds_toArray, List.set_cons_succ, List.set_cons_zero]
        refine wpStill_go (v := .int .i64 (m * m)) rfl rfl (stays_run fun w' h => by simp [go_sem, I1.out]) ?_
        simp only [Act.put, List.setIfInBounds_toArray, List.set_cons_succ, List.set_cons_zero]
        refine wpStill_go (v := .int .i64 m) rfl rfl (stays_run fun w' h => ex_move rfl rfl) ?_
        simp only [Act.put, List.setIfInBounds_toArray, List.set_cons_succ, List.set_cons_zero]
        refine wpStill_go (v := .int .i64 q) rfl rfl (stays_run fun w' h => by simp [go_sem, I2.out]) ?_
        simp only [Act.put, List.setIfInBounds_toArray, List.set_cons_succ, List.set_cons_zero]
        refine wpStill_go (v := .agg #[.int .i64 q, .int .i64 0]) rfl rfl (stays_call (f := 50) (args := #[.int .i64 q, .int .i64 0]) (fun w' h => by simp [go_sem]) (fun w' _ => lGauss_any _ _ w')) ?_
        simp only [Act.put, List.setIfInBounds_toArray, List.set_cons_succ, List.set_cons_zero]
        refine wpStill_go (v := .bool true) rfl rfl (stays_run fun w' h => by simp [go_sem]) ?_
        simp only [Act.put, List.setIfInBounds_toArray, List.set_cons_succ, List.set_cons_zero]
        refine wpStill_go (v := .bool true) rfl rfl (stays_run fun w' h => by simp [go_sem]) ?_
        simp only [Act.put, List.setIfInBounds_toArray, List.set_cons_succ, List.set_cons_zero]
        refine wpStill_go (v := .bool true) rfl rfl (stays_run fun w' h => ex_move rfl rfl) ?_
        simp only [Act.put, List.setIfInBounds_toArray, List.set_cons_succ, List.set_cons_zero]
        refine wpStill_go (v := .agg #[.int .i64 q, .int .i64 0]) rfl rfl (stays_run fun w' h => ex_load rfl rfl (Ly w' h)) ?_
        simp only [Act.put, List.setIfInBounds_toArray, List.set_cons_succ, List.set_cons_zero]
        refine wpStill_go (v := .agg #[.int .i64 q, .int .i64 0]) rfl rfl (stays_run fun w' h => ex_load rfl rfl (Lx w' h)) ?_
        simp only [Act.put, List.setIfInBounds_toArray, List.set_cons_succ, List.set_cons_zero]
        refine wpStill_go (v := .bool true) rfl rfl (stays_run fun w' h => by simp [go_sem]) ?_
        simp only [Act.put, List.setIfInBounds_toArray, List.set_cons_succ, List.set_cons_zero]
        refine wpStill_go (v := .bool true) rfl rfl (stays_run fun w' h => by simp [go_sem]) ?_
        simp only [Act.put, List.setIfInBounds_toArray, List.set_cons_succ, List.set_cons_zero]
        refine wpStill_go (v := .bool true) rfl rfl (stays_run fun w' h => by simp [go_sem]) ?_
        simp only [Act.put, List.setIfInBounds_toArray, List.set_cons_succ, List.set_cons_zero]
        refine wpStill_nil ?_
        repeat (refine wpMark_skip rfl ?_)
        refine wpMark_nil fun w14 h14 => ?_
        simp only [onlyN, Exit.then]
        have B15 := B13.trans (((Below.refl _ _).drew.trans h14).mono B13.size)
        clear Lx Ly rx ry hrZ hrZ'
        go_wp2_with fail
        go_ret
        exact ⟨rfl, B15⟩
  · have hnb : (1048576 : Int) < (n : Int) ∨ (1048576 : Int) < (nC : Int) := by omega
    by_cases h1 : n ≤ 1048576
    · have hnb : ¬ (1048576 : Int) < (n : Int) := by omega
      have hnbC : (1048576 : Int) < (nC : Int) := by omega
      go_enter Try.func17, Try.ntmps17
      go_wp2_with fail
      go_ret
      exact ⟨rfl, Below.refl _ _⟩
    · have hnb : (1048576 : Int) < (n : Int) := by omega
      go_enter Try.func17, Try.ntmps17
      go_wp2_with fail
      go_ret
      exact ⟨rfl, Below.refl _ _⟩
end Go.Proofs.Ytcllkocmnohnkaa
