/- FnCleanSpot returns true at every input, and leaves what was there. -/
import Derived.Test.YtfandpgjlahnpaaCleanS
import Derived.Test.YtfandpgjlahnpaaBeamS
import Derived.Test.YtfandpgjlahnpaaDrawC
import Derived.Test.YtfandpgjlahnpaaSkyC
import Derived.Test.YtfandpgjlahnpaaLawBeam
namespace Go.Proofs.Ytfandpgjlahnpaa
open Go.RowKit

set_option maxRecDepth 100000 in
set_option maxHeartbeats 2000000 in
theorem FnCleanSpot_walk (w : World) (A : Option Addr) (n cap : Nat) (bs : List Int) (hn : bs.length = n) (hm : n ≤ 9223372036854775807) (hr : Rd w w.heap.size A (bs.map (Value.int .u8))) (hw : ∀ x ∈ bs, (Lit.int .u8 x).wf = true) (hk : n ≤ cap) (C : Option Addr) (nC capC : Nat) (ms : List Int) (_ : ms.length = nC) (_ : nC ≤ 9223372036854775807) (_ : Rd w w.heap.size C (ms.map (Value.int .u8))) (_ : ∀ x ∈ ms, (Lit.int .u8 x).wf = true) (_ : nC ≤ capC) :
    Calls Try.prog 4 #[.slice A n cap, .slice C nC capC] w fun e w' => e = .returned (.bool true) ∧ Below w.heap.size w w' := by
  have Hbs := Lib.hid (bytesOk_of hw); clear hw
  by_cases hb : n ≤ 1048576 ∧ nC ≤ 1048576
  · obtain ⟨hb, hbC⟩ := hb
    have hnb : ¬ (1048576 : Int) < (n : Int) := by omega
    have hnbC : ¬ (1048576 : Int) < (nC : Int) := by omega
    obtain ⟨i, hi0⟩ : ∃ i : Nat, nC % 16 = i := ⟨_, rfl⟩
    have hi16 : i < 16 := by omega
    have hiI : (nC : Int) % 16 = (i : Int) := by omega
    obtain ⟨m, hm0⟩ : ∃ m : Int, (1 : Int) + (nC : Int) % 90 = m := ⟨_, rfl⟩
    have hm90 : 1 ≤ m ∧ m ≤ 90 := by omega
    clear hi0
    have HiI := Lib.hid hiI
    have Hm0 := Lib.hid hm0
    clear hiI hm0
    go_enter Try.func4, Try.ntmps4
    go_wp2_with fail
    refine (drawBeamOf_any A n cap bs w hn hm hk Hbs.out hr).mono ?_
    rintro e w1 ⟨A1, k1, c1, cs, rfl, hcs, hk1, hr1, B1⟩
    have Hcs := Lib.hid hcs; clear hcs
    clear hr hn
    go_wp2_with fail
    refine (beamOf_any A1 k1 c1 cs _ Hcs.out hr1).mono ?_
    rintro e w2 ⟨v, rfl, o2, b2⟩
    have B2 := B1.trans (b2.mono B1.size)
    have extX := (hr1.below b2).more b2.size; clear hr1; have hr1 := extX; clear extX
    obtain ⟨A2, c2, rfl⟩ := own_form o2
    have O2 := Lib.hid o2
    clear o2 b2
    go_wp2_with fail
    refine (sBeamOf_any A1 k1 c1 cs _ Hcs.out hr1).mono ?_
    rintro e w3 ⟨v, rfl, o3, b3⟩
    have B3 := B2.trans (b3.mono B2.size)
    have extX := (hr1.below b3).more b3.size; clear hr1; have hr1 := extX; clear extX
    have extX := Lib.hid (own_ext O2.out b3); clear O2; have O2 := extX; clear extX
    obtain ⟨A3, c3, rfl⟩ := own_form o3
    have O3 := Lib.hid o3
    clear o3 b3
    have hLb : (beamR cs).length ≤ 16 := by unfold beamR; split <;> simp [beamL_len]
    obtain ⟨L, hL⟩ : ∃ L, (beamR cs).length = L := ⟨_, rfl⟩
    obtain ⟨S, hS⟩ : ∃ S, beamR cs = S := ⟨_, rfl⟩
    have hSL : S.length = L := by rw [← hS]; exact hL
    have O2 := O2.out
    have O3 := O3.out
    rw [hL, hS] at O2 O3
    rw [hL] at hLb ⊢
    have hidX := Lib.hid O2; clear O2; have O2 := hidX; clear hidX
    have hidX := Lib.hid O3; clear O3; have O3 := hidX; clear hidX
    have HSL := Lib.hid hSL; clear hSL
    have HL := Lib.hid hL; clear hL
    have HS := Lib.hid hS; clear hS
    obtain ⟨ok, hok⟩ : ∃ ok, covV cs = ok := ⟨_, rfl⟩
    rw [hok]
    have hne : (ok != ok) = false := by simp
    have Hok := Lib.hid hok
    clear hok
    go_wp2_with fail
    refine (sameInts_any A2 A3 L L c2 c3 S S _ HSL.out HSL.out (by omega) (Rd.of_own O2.out) (Rd.of_own O3.out)).mono ?_
    rintro e w4 ⟨rfl, b4⟩
    have B4 := B3.trans (b4.mono B3.size)
    have extX := (hr1.below b4).more b4.size; clear hr1; have hr1 := extX; clear extX
    have extX := Lib.hid (own_ext O2.out b4); clear O2; have O2 := extX; clear extX
    have extX := Lib.hid (own_ext O3.out b4); clear O3; have O3 := extX; clear extX
    clear b4
    rw [decide_eq_true (rfl : S = S)]
    cases ok
    · go_wp2_with fail
      refine (sameInts_any A2 A3 L L c2 c3 S S _ HSL.out HSL.out (by omega) (Rd.of_own O2.out) (Rd.of_own O3.out)).mono ?_
      rintro e w5 ⟨rfl, b5⟩
      rw [decide_eq_true (rfl : S = S)]
      go_wp2_with fail
      go_ret
      exact ⟨rfl, B4.trans (b5.mono B4.size)⟩
    · have hcl := covV_len Hok.out
      obtain rfl : k1 = 16 := by rw [← Hcs.out]; exact hcl
      have hSb : S = beamL cs := by rw [← HS.out]; exact beamR_yes Hok.out
      obtain rfl : L = 16 := by rw [← HSL.out, hSb]; exact beamL_len cs
      have Hcl := Lib.hid hcl; clear hcl
      have HSb := Lib.hid hSb; clear hSb
      go_wp2_with fail
      rw [Hm0.out, HiI.out]
      have Hvsp := Lib.hid (skyV_spot i m hi16 (by omega))
      refine (spot_any i m _ hi16).mono ?_
      rintro e w5 ⟨rfl, r5, b5⟩
      have B5 := B4.trans (b5.mono B4.size)
      have extX := (hr1.below b5).more b5.size; clear hr1; have hr1 := extX; clear extX
      have extX := Lib.hid (own_ext O2.out b5); clear O2; have O2 := extX; clear extX
      clear b5
      go_wp2_with fail
      refine (dirtyOf_any _ A1 16 16 16 c1 (spotL i m) cs _ (spotL_len _ _) Hcs.out (by omega) r5.rd hr1).mono ?_
      rintro e w6 ⟨v, rfl, o6, b6⟩
      have hdv := skyV_dirty_spot cs i m hi16 (by omega)
      have hdR : dirtyR (spotL i m) cs = some (dirtyL (spotL i m) cs) := by rw [dirtyR_eq Hvsp.out Hok.out, hdv]; rfl
      rw [hdR] at o6 ⊢
      simp only [Option.getD_some, dirtyL_len, Option.isSome_some] at o6 ⊢
      obtain ⟨A6, c6, rfl⟩ := own_form o6
      have B6 := B5.trans (b6.mono B5.size)
      have extX := Lib.hid (own_ext O2.out b6); clear O2; have O2 := extX; clear extX
      obtain ⟨D, hD⟩ : ∃ D, dirtyL (spotL i m) cs = D := ⟨_, rfl⟩
      rw [hD] at o6 hdv
      have O6 := Lib.hid o6
      clear o6 b6 hdR r5 hr1
      have Hdv := Lib.hid hdv; clear hdv
      have HD := Lib.hid hD; clear hD
      go_wp2_with fail
      refine (cleanNew_yes A6 c6 D _ Hdv.out (Rd.of_own O6.out)).mono ?_
      rintro e w7 ⟨G, v, rfl, hG, r7, o7, b7⟩
      obtain ⟨A7, c7, rfl⟩ := own_form o7
      have B7 := B6.trans (b7.mono B6.size)
      have extX := Lib.hid (own_ext O2.out b7); clear O2; have O2 := extX; clear extX
      have O7 := Lib.hid o7
      clear o7 b7 O6
      go_wp2_with fail
      have r7 := r7.alloc (.cells #[.slice (some ⟨G, 0, none⟩) 16 16, .slice A7 16 c7] 44)
      have rC := Row.new w7 44 [.slice (some ⟨G, 0, none⟩) 16 16, .slice A7 16 c7]
      have e8 := bA1 (w := w7) (o := .cells #[.slice (some ⟨G, 0, none⟩) 16 16, .slice A7 16 c7] 44)
      have B8 := B7.trans (e8.mono B7.size)
      have extX := Lib.hid (own_ext O2.out e8); clear O2; have O2 := extX; clear extX
      have extX := Lib.hid (own_ext O7.out e8); clear O7; have O7 := extX; clear extX
      clear e8
      obtain ⟨W8, hW8⟩ : ∃ W8, w7.alloc (.cells #[.slice (some ⟨G, 0, none⟩) 16 16, .slice A7 16 c7] 44) = W8 := ⟨_, rfl⟩
      obtain ⟨E, hE⟩ : ∃ E, w7.heap.size = E := ⟨_, rfl⟩
      rw [hW8] at r7 rC B8 O2 O7 ⊢
      rw [hE] at rC ⊢
      clear hW8 hE
      have hz16 : skyV zeros16 = true := by decide +kernel
      have hvS : skyV S = true := by rw [HSb.out]; exact skyV_beam Hok.out
      have h0 : S.getD 0 0 = countB cs := by rw [HSb.out]; exact beam_0 cs
      have hcb := countB_bd cs
      obtain ⟨bS, oS, rfl, _⟩ := rd_some (Rd.of_own O2.out) (by rw [List.length_map, HSL.out]; omega)
      have cS := rd_cells (Rd.of_own O2.out) 0 _ (ints_at' (by rw [HSL.out]; omega))
      rw [Nat.add_zero, h0] at cS
      have hbS : bS < W8.heap.size := by
        obtain ⟨_, _, e, h⟩ := rd_some (Rd.of_own O2.out) (by rw [List.length_map, HSL.out]; omega)
        cases e
        exact h
      have hsp := fun hB => clean_spot Hok.out i m hi16 (by omega) hB
      rw [HD.out, ← HSb.out] at hsp
      obtain ⟨M, hM⟩ : ∃ M, countB cs = M := ⟨_, rfl⟩
      rw [hM] at h0 hcb cS hsp
      have Hz16 := Lib.hid hz16; clear hz16
      have HvS := Lib.hid hvS; clear hvS
      have H0 := Lib.hid h0; clear h0
      have HM := Lib.hid hM; clear hM
      have Hsp := Lib.hid hsp; clear hsp
      refine (cleanStep_any _ A7 _ 16 c7 c2 zeros16 D S _ Hz16.out Hdv.out HvS.out r7.rd (Rd.of_own O7.out) (Rd.of_own O2.out)).mono ?_
      rintro e w9 ⟨b9, hres⟩
      have B9 := B8.trans (b9.mono B8.size)
      have cS9 := (bcl b9 hbS _).trans cS
      have hbS9 := Nat.lt_of_lt_of_le hbS b9.size
      by_cases hM0 : M = 0
      · subst hM0
        have hnone : cleanStep S (zeros16, D) = none := by
          unfold cleanStep
          rw [if_neg]
          rintro ⟨_, _, h⟩
          rw [H0.out] at h
          omega
        obtain ⟨st, hst, _⟩ | ⟨_, rfl⟩ := hres
        · rw [hnone] at hst; cases hst
        · have cSX := (bcl (bA1 (w := w9) (o := .cells #[.slice none 0 0, .slice none 0 0] 44)) hbS9 _).trans cS9
          clear hnone cS cS9
          go_wp2_with fail
          go_ret
          exact ⟨rfl, B9.alloc B9.size _⟩
      · obtain ⟨hmax, hstep, hleft⟩ := Hsp.out (by omega)
        have hM0' : ((M : Int) == 0) = false := beq_eq_false_iff_ne.2 hM0
        obtain ⟨st, hst, u, v, rfl, ou, ov⟩ | ⟨hno, _⟩ := hres
        · rw [hstep] at hst
          injection hst with hst
          subst hst
          dsimp only at ou ov
          have hpk := peakI_lt (l := D) (by rw [skyV_len Hdv.out]; omega)
          rw [skyV_len Hdv.out] at hpk
          obtain ⟨Y, hY⟩ : ∃ Y, addS D (shL S (peakI D)) (-m) = Y := ⟨_, rfl⟩
          rw [hY] at ov hleft
          have hYl : Y.length = 16 := by rw [← hY]; exact addS_len _ _ _
          obtain ⟨k, hk⟩ : ∃ k, peakI D = k := ⟨_, rfl⟩
          rw [hk] at ou hleft hpk
          have hk16 : k < 16 := hpk
          have pu := ints_at' (l := zeros16.set k m) (c := k) (by simp [zeros16]; exact hk16)
          rw [set_get _ _ _ _ (by simp [zeros16]; exact hk16), if_pos rfl] at pu
          obtain ⟨Au, cu, rfl⟩ := own_form ou
          obtain ⟨Av, cv, rfl⟩ := own_form ov
          obtain ⟨bU, rfl, _, _, cU, _, _⟩ := own_set ou (i := k) pu
          have hbU : bU < w9.heap.size := (own_lt ou rfl).2.1
          have rC9 := rC.kept b9
          have r79 := r7.kept b9
          have O79 := own_ext O7.out b9
          have OV := Lib.hid ov
          have OU := Lib.hid ou
          have O7h := Lib.hid O79
          have HY := Lib.hid hY; clear hY
          have HYl := Lib.hid hYl; clear hYl
          have Hk := Lib.hid hk; clear hk
          have Hmax := Lib.hid hmax; clear hmax
          have Hstep := Lib.hid hstep; clear hstep
          have eX := bA1 (w := w9) (o := .cells #[.slice (some ⟨bU, 0, none⟩) 16 cu, .slice Av 16 cv] 44)
          have cSX := (bcl eX hbS9 _).trans cS9
          have rCX := rC9.alloc (.cells #[.slice (some ⟨bU, 0, none⟩) 16 cu, .slice Av 16 cv] 44)
          have r7X := r79.alloc (.cells #[.slice (some ⟨bU, 0, none⟩) 16 cu, .slice Av 16 cv] 44)
          have rX := Row.new w9 44 [.slice (some ⟨bU, 0, none⟩) 16 cu, .slice Av 16 cv]
          have BX := B9.trans (eX.mono B9.size)
          obtain ⟨d0, d1, _, _⟩ := rCX.two
          have extX := Lib.hid (own_ext O7h.out eX); clear O7h; have O7h := extX; clear extX
          have extX := Lib.hid (own_ext OV.out eX); clear OV; have OV := extX; clear extX
          have extX := Lib.hid (own_ext OU.out eX); clear OU; have OU := extX; clear extX
          have hbUX := Nat.lt_of_lt_of_le hbU eX.size
          have hbSX := Nat.lt_of_lt_of_le hbS9 eX.size
          have hM0I : M ≠ 0 := hM0
          clear ou ov pu cS O79 rC r7 b9 cS9 rC9 r79 eX
          go_wp2_with fail
          obtain ⟨WX', hWX⟩ : ∃ WX', w9.alloc (.cells #[.slice (some ⟨bU, 0, none⟩) 16 cu, .slice Av 16 cv] 44) = WX' := ⟨_, rfl⟩
          obtain ⟨X, hX⟩ : ∃ X, w9.heap.size = X := ⟨_, rfl⟩
          rw [hWX] at cSX r7X rX BX O7h OV OU hbUX hbSX ⊢
          rw [hX] at rX ⊢
          clear hWX hX d0 d1 rCX
          refine (cleanPeak_yes _ A7 16 c7 zeros16 D _ Hz16.out Hdv.out r7X.rd (Rd.of_own O7h.out)).mono ?_
          rintro e WX ⟨rfl, bp⟩
          rw [Hk.out, Hmax.out]
          have B10 := BX.trans (bp.mono BX.size)
          have rX := rX.kept bp
          have cSX := (bcl bp hbSX _).trans cSX
          have hbSY := Nat.lt_of_lt_of_le hbSX bp.size
          have extX := Lib.hid (own_ext OV.out bp); clear OV; have OV := extX; clear extX
          have extX := Lib.hid (own_ext OU.out bp); clear OU; have OU := extX; clear extX
          have hbUY := Nat.lt_of_lt_of_le hbUX bp.size
          have pu := ints_at' (l := zeros16.set k m) (c := k) (by simp [zeros16]; exact hk16)
          rw [set_get _ _ _ _ (by simp [zeros16]; exact hk16), if_pos rfl] at pu
          obtain ⟨_, e, _, _, cU, _, _⟩ := own_set OU.out (i := k) pu
          cases e
          have LS : ∀ w', Below WX.heap.size WX w' → w'.cell? ⟨bS, oS, none⟩ = some (.int .i64 M) := fun w' h => (bcl h hbSY _).trans cSX
          have LU : ∀ w', Below WX.heap.size WX w' → w'.cell? ⟨bU, 0 + k * 1, none⟩ = some (.int .i64 m) := fun w' h => by rw [Nat.zero_add, Nat.mul_one]; exact (bcl h hbUY _).trans cU
          have j1 : IntKind.i64.wrap (m * M) = m * M := by
            have h3 : m * M ≤ 90 * 16 := Int.mul_le_mul hm90.2 hcb.2 hcb.1 (by omega)
            have h4 : 0 ≤ m * M := Int.mul_nonneg (by omega) hcb.1
            exact IntWalk.i64_in _ (by omega)
          clear cU pu cSX bp r7X BX
          obtain ⟨Z, hZ⟩ : ∃ Z, List.replicate 16 (Value.int .i64 0) = Z := ⟨_, rfl⟩
          have hmk : ∀ W : World, (Instr.makeSlice 25 (.int .i64 16) (.int .i64 16)).run Try.prog W = .ok (.slice (some ⟨W.heap.size, 0, none⟩) 16 16) (W.alloc (.cells Z.toArray 3)) := fun W => by
            rw [← hZ]; exact run_make1 (P := Try.prog) 25 3 (.int .i64 0) 8 Try.underlying25 (by kernel_rfl) rfl 16 (by omega) (by omega) W
          have hz2 : Z = zeros16.map (Value.int .i64) := by rw [← hZ]; unfold zeros16; rw [List.map_replicate]
          have Hz2 := Lib.hid hz2
          clear hz2 hZ
          have J1 := Lib.hid j1; clear j1
          go_wp2_with fail
          by_cases hki : k = i
          · have HYz := hleft hki
            have hkiI : ((k : Int) != (i : Int)) = false := by rw [hki]; simp
            have Hki := Lib.hid hkiI
            clear hkiI hki hleft
            refine wp_region_N [35, 36, 37, 38, 39] [] (by kernel_rfl) (by kernel_rfl) ?_
            refine wpStill_go (v := .bool true) rfl rfl (stays_run fun w' h => ex_move rfl rfl) ?_
            simp only [Act.put, List.setIfInBounds_toArray, List.set_cons_succ, List.set_cons_zero, Nat.reduceAdd]
            refine wpStill_go (v := .bool true) rfl rfl (stays_run fun w' h => ex_move rfl rfl) ?_
            simp only [Act.put, List.setIfInBounds_toArray, List.set_cons_succ, List.set_cons_zero, Nat.reduceAdd]
            refine wpStill_go (v := .bool true) rfl rfl (stays_run fun w' h => ex_move rfl rfl) ?_
            simp only [Act.put, List.setIfInBounds_toArray, List.set_cons_succ, List.set_cons_zero, Nat.reduceAdd]
            refine wpStill_go (v := .bool true) rfl rfl (stays_run fun w' h => by simp [go_sem]) ?_
            simp only [Act.put, List.setIfInBounds_toArray, List.set_cons_succ, List.set_cons_zero, Nat.reduceAdd]
            refine wpStill_go (v := .bool true) rfl rfl (stays_run fun w' h => ex_move rfl rfl) ?_
            simp only [Act.put, List.setIfInBounds_toArray, List.set_cons_succ, List.set_cons_zero, Nat.reduceAdd]
            refine wpStill_go (v := .bool true) rfl rfl (stays_run fun w' h => ex_move rfl rfl) ?_
            simp only [Act.put, List.setIfInBounds_toArray, List.set_cons_succ, List.set_cons_zero, Nat.reduceAdd]
            refine wpStill_go (v := .bool true) rfl rfl (stays_run fun w' h => by simp [go_sem]) ?_
            simp only [Act.put, List.setIfInBounds_toArray, List.set_cons_succ, List.set_cons_zero, Nat.reduceAdd]
            refine wpStill_go (v := .bool true) rfl rfl (stays_run fun w' h => ex_move rfl rfl) ?_
            simp only [Act.put, List.setIfInBounds_toArray, List.set_cons_succ, List.set_cons_zero, Nat.reduceAdd]
            refine wpStill_go (v := .bool true) rfl rfl (stays_run fun w' h => ex_move rfl rfl) ?_
            simp only [Act.put, List.setIfInBounds_toArray, List.set_cons_succ, List.set_cons_zero, Nat.reduceAdd]
            refine wpStill_go (v := .bool true) rfl rfl (stays_run fun w' h => by simp [go_sem]) ?_
            simp only [Act.put, List.setIfInBounds_toArray, List.set_cons_succ, List.set_cons_zero, Nat.reduceAdd]
            refine wpStill_go (v := .bool true) rfl rfl (stays_run fun w' h => ex_move rfl rfl) ?_
            simp only [Act.put, List.setIfInBounds_toArray, List.set_cons_succ, List.set_cons_zero, Nat.reduceAdd]
            refine wpStill_go (v := .int .i64 (m * M)) rfl rfl (stays_run fun w' h => ex_move rfl rfl) ?_
            simp only [Act.put, List.setIfInBounds_toArray, List.set_cons_succ, List.set_cons_zero, Nat.reduceAdd]
            refine wpStill_go (v := .int .i64 m) rfl rfl (stays_run fun w' h => ex_move rfl rfl) ?_
            simp only [Act.put, List.setIfInBounds_toArray, List.set_cons_succ, List.set_cons_zero, Nat.reduceAdd]
            refine wpStill_go (v := .slice (some ⟨bS, oS, none⟩) 16 c2) rfl rfl (stays_run fun w' h => ex_move rfl rfl) ?_
            simp only [Act.put, List.setIfInBounds_toArray, List.set_cons_succ, List.set_cons_zero, Nat.reduceAdd]
            refine wpStill_go (v := .pointer (some ⟨bS, oS, none⟩)) rfl rfl (stays_run fun w' h => by simp [go_sem]) ?_
            simp only [Act.put, List.setIfInBounds_toArray, List.set_cons_succ, List.set_cons_zero, Nat.reduceAdd]
            refine wpStill_go (v := .int .i64 M) rfl rfl (stays_run fun w' h => ex_load rfl rfl (ld_one (by kernel_rfl) (LS w' h))) ?_
            simp only [Act.put, List.setIfInBounds_toArray, List.set_cons_succ, List.set_cons_zero, Nat.reduceAdd]
            refine wpStill_go (v := .int .i64 (m * M)) rfl rfl (stays_run fun w' h => by simp [go_sem, J1.out]) ?_
            simp only [Act.put, List.setIfInBounds_toArray, List.set_cons_succ, List.set_cons_zero, Nat.reduceAdd]
            refine wpStill_go (v := .bool true) rfl rfl (stays_run fun w' h => by simp [go_sem]) ?_
            simp only [Act.put, List.setIfInBounds_toArray, List.set_cons_succ, List.set_cons_zero, Nat.reduceAdd]
            refine wpStill_go (v := .bool true) rfl rfl (stays_run fun w' h => by simp [go_sem]) ?_
            simp only [Act.put, List.setIfInBounds_toArray, List.set_cons_succ, List.set_cons_zero, Nat.reduceAdd]
            refine wpStill_go (v := .bool true) rfl rfl (stays_run fun w' h => ex_move rfl rfl) ?_
            simp only [Act.put, List.setIfInBounds_toArray, List.set_cons_succ, List.set_cons_zero, Nat.reduceAdd]
            refine wpStill_go (v := .pointer (some ⟨X, 0, none⟩)) rfl rfl (stays_run fun w' h => by simp [go_sem]) ?_
            simp only [Act.put, List.setIfInBounds_toArray, List.set_cons_succ, List.set_cons_zero, Nat.reduceAdd]
            refine wpStill_go (v := .slice (some ⟨bU, 0, none⟩) 16 cu) rfl rfl (stays_run fun w' h => ex_load rfl rfl (ld_one (by kernel_rfl) ((rX.kept ‹_›).cell 0))) ?_
            simp only [Act.put, List.setIfInBounds_toArray, List.set_cons_succ, List.set_cons_zero, Nat.reduceAdd]
            refine wpStill_go (v := .int .i64 (k : Nat)) rfl rfl (stays_run fun w' h => ex_move rfl rfl) ?_
            simp only [Act.put, List.setIfInBounds_toArray, List.set_cons_succ, List.set_cons_zero, Nat.reduceAdd]
            refine wpStill_go (v := .pointer (some ⟨bU, 0 + k * 1, none⟩)) rfl rfl (stays_run fun w' h => ex_index rfl (by kernel_rfl) (by kernel_rfl) rfl rfl (hk16)) ?_
            simp only [Act.put, List.setIfInBounds_toArray, List.set_cons_succ, List.set_cons_zero, Nat.reduceAdd]
            refine wpStill_go (v := .int .i64 m) rfl rfl (stays_run fun w' h => ex_load rfl rfl (ld_one (by kernel_rfl) (LU w' h))) ?_
            simp only [Act.put, List.setIfInBounds_toArray, List.set_cons_succ, List.set_cons_zero, Nat.reduceAdd]
            refine wpStill_go (v := .int .i64 m) rfl rfl (stays_run fun w' h => ex_move rfl rfl) ?_
            simp only [Act.put, List.setIfInBounds_toArray, List.set_cons_succ, List.set_cons_zero, Nat.reduceAdd]
            refine wpStill_go (v := .bool true) rfl rfl (stays_run fun w' h => by simp [go_sem]) ?_
            simp only [Act.put, List.setIfInBounds_toArray, List.set_cons_succ, List.set_cons_zero, Nat.reduceAdd]
            refine wpStill_go (v := .bool true) rfl rfl (stays_run fun w' h => by simp [go_sem]) ?_
            simp only [Act.put, List.setIfInBounds_toArray, List.set_cons_succ, List.set_cons_zero, Nat.reduceAdd]
            refine wpStill_go (v := .bool true) rfl rfl (stays_run fun w' h => ex_move rfl rfl) ?_
            simp only [Act.put, List.setIfInBounds_toArray, List.set_cons_succ, List.set_cons_zero, Nat.reduceAdd]
            refine wpStill_go (v := .int .i64 (k : Nat)) rfl rfl (stays_run fun w' h => ex_move rfl rfl) ?_
            simp only [Act.put, List.setIfInBounds_toArray, List.set_cons_succ, List.set_cons_zero, Nat.reduceAdd]
            refine wpStill_go (v := .int .i64 (i : Nat)) rfl rfl (stays_run fun w' h => ex_move rfl rfl) ?_
            simp only [Act.put, List.setIfInBounds_toArray, List.set_cons_succ, List.set_cons_zero, Nat.reduceAdd]
            refine wpStill_go (v := .bool false) rfl rfl (stays_run fun w' h => by simp [go_sem, Hki.out]) ?_
            simp only [Act.put, List.setIfInBounds_toArray, List.set_cons_succ, List.set_cons_zero, Nat.reduceAdd]
            refine wpStill_go (v := .bool false) rfl rfl (stays_run fun w' h => ex_move rfl rfl) ?_
            simp only [Act.put, List.setIfInBounds_toArray, List.set_cons_succ, List.set_cons_zero, Nat.reduceAdd]
            refine wpStill_go (v := .pointer (some ⟨X, 1, none⟩)) rfl rfl (stays_run fun w' h => by simp [go_sem]) ?_
            simp only [Act.put, List.setIfInBounds_toArray, List.set_cons_succ, List.set_cons_zero, Nat.reduceAdd]
            refine wpStill_go (v := .slice Av 16 cv) rfl rfl (stays_run fun w' h => ex_load rfl rfl (ld_one (by kernel_rfl) ((rX.kept ‹_›).cell 1))) ?_
            simp only [Act.put, List.setIfInBounds_toArray, List.set_cons_succ, List.set_cons_zero, Nat.reduceAdd]
            refine wpStill_skip rfl (wpStill_skip rfl (wpStill_skip rfl (wpStill_skip rfl (wpStill_skip rfl (wpStill_nil ?_)))))
            repeat (refine wpMark_skip rfl ?_)
            refine wpMark_go rfl (fun m1 hm1 K hK => ?_)
            have F1 := (Below.refl WX.heap.size WX).drew.trans hm1
            go_wp2_with fail
            have F2 := F1.alloc F1.size (.cells Z.toArray 3)
            have rZ := Row.new m1 3 Z
            rw [Hz2.out] at rZ F2 ⊢
            refine hK _ _ (fun _ => F2) (wpMark_go rfl (fun m2 hm2 K hK => ?_))
            have F3 := F2.trans (hm2.mono F2.size)
            have rZ := rZ.kept hm2
            go_wp2_with fail
            refine (sameInts_any Av _ 16 16 cv 16 Y zeros16 _ HYl.out (by decide) (by omega) (Rd.of_own (own_ext OV.out F3)) rZ.rd).mono ?_
            rintro e m3 ⟨rfl, b3⟩
            have F4 := F3.trans (b3.mono F3.size)
            rw [decide_eq_true HYz]
            go_wp2_with fail
            refine hK _ _ (fun _ => F4) (wpMark_go rfl (fun m4 hm4 K hK => ?_))
            have F5 := F4.trans (hm4.mono F4.size)
            go_wp2_with fail
            refine hK _ _ (fun _ => F5) (wpMark_go rfl (fun m5 hm5 K hK => ?_))
            have F6 := F5.trans (hm5.mono F5.size)
            go_wp2_with fail
            refine hK _ _ (fun _ => F6) (wpMark_go rfl (fun m6 hm6 K hK => ?_))
            have F7 := F6.trans (hm6.mono F6.size)
            go_wp2_with fail
            refine hK _ _ (fun _ => F7) (wpMark_nil fun V hV => ?_)
            have hV := F7.trans (hV.mono F7.size)
            simp only [onlyN, Exit.then]
            have bV := B10.trans (hV.mono B10.size)
            clear hV rX LS LU F1 F2 F3 F4 F5 F6 F7 rZ
            go_wp2_with fail
            go_ret
            exact ⟨rfl, bV⟩
          · have hkiI : ((k : Int) != (i : Int)) = true := by rw [bne_iff_ne]; omega
            have Hki := Lib.hid hkiI
            clear hkiI hki hleft hmk
            refine wp_region_N [] [] (by kernel_rfl) (by kernel_rfl) ?_
            refine wpStill_go (v := .bool true) rfl rfl (stays_run fun w' h => ex_move rfl rfl) ?_
            simp only [Act.put, List.setIfInBounds_toArray, List.set_cons_succ, List.set_cons_zero, Nat.reduceAdd]
            refine wpStill_go (v := .bool true) rfl rfl (stays_run fun w' h => ex_move rfl rfl) ?_
            simp only [Act.put, List.setIfInBounds_toArray, List.set_cons_succ, List.set_cons_zero, Nat.reduceAdd]
            refine wpStill_go (v := .bool true) rfl rfl (stays_run fun w' h => ex_move rfl rfl) ?_
            simp only [Act.put, List.setIfInBounds_toArray, List.set_cons_succ, List.set_cons_zero, Nat.reduceAdd]
            refine wpStill_go (v := .bool true) rfl rfl (stays_run fun w' h => by simp [go_sem]) ?_
            simp only [Act.put, List.setIfInBounds_toArray, List.set_cons_succ, List.set_cons_zero, Nat.reduceAdd]
            refine wpStill_go (v := .bool true) rfl rfl (stays_run fun w' h => ex_move rfl rfl) ?_
            simp only [Act.put, List.setIfInBounds_toArray, List.set_cons_succ, List.set_cons_zero, Nat.reduceAdd]
            refine wpStill_go (v := .bool true) rfl rfl (stays_run fun w' h => ex_move rfl rfl) ?_
            simp only [Act.put, List.setIfInBounds_toArray, List.set_cons_succ, List.set_cons_zero, Nat.reduceAdd]
            refine wpStill_go (v := .bool true) rfl rfl (stays_run fun w' h => by simp [go_sem]) ?_
            simp only [Act.put, List.setIfInBounds_toArray, List.set_cons_succ, List.set_cons_zero, Nat.reduceAdd]
            refine wpStill_go (v := .bool true) rfl rfl (stays_run fun w' h => ex_move rfl rfl) ?_
            simp only [Act.put, List.setIfInBounds_toArray, List.set_cons_succ, List.set_cons_zero, Nat.reduceAdd]
            refine wpStill_go (v := .bool true) rfl rfl (stays_run fun w' h => ex_move rfl rfl) ?_
            simp only [Act.put, List.setIfInBounds_toArray, List.set_cons_succ, List.set_cons_zero, Nat.reduceAdd]
            refine wpStill_go (v := .bool true) rfl rfl (stays_run fun w' h => by simp [go_sem]) ?_
            simp only [Act.put, List.setIfInBounds_toArray, List.set_cons_succ, List.set_cons_zero, Nat.reduceAdd]
            refine wpStill_go (v := .bool true) rfl rfl (stays_run fun w' h => ex_move rfl rfl) ?_
            simp only [Act.put, List.setIfInBounds_toArray, List.set_cons_succ, List.set_cons_zero, Nat.reduceAdd]
            refine wpStill_go (v := .int .i64 (m * M)) rfl rfl (stays_run fun w' h => ex_move rfl rfl) ?_
            simp only [Act.put, List.setIfInBounds_toArray, List.set_cons_succ, List.set_cons_zero, Nat.reduceAdd]
            refine wpStill_go (v := .int .i64 m) rfl rfl (stays_run fun w' h => ex_move rfl rfl) ?_
            simp only [Act.put, List.setIfInBounds_toArray, List.set_cons_succ, List.set_cons_zero, Nat.reduceAdd]
            refine wpStill_go (v := .slice (some ⟨bS, oS, none⟩) 16 c2) rfl rfl (stays_run fun w' h => ex_move rfl rfl) ?_
            simp only [Act.put, List.setIfInBounds_toArray, List.set_cons_succ, List.set_cons_zero, Nat.reduceAdd]
            refine wpStill_go (v := .pointer (some ⟨bS, oS, none⟩)) rfl rfl (stays_run fun w' h => by simp [go_sem]) ?_
            simp only [Act.put, List.setIfInBounds_toArray, List.set_cons_succ, List.set_cons_zero, Nat.reduceAdd]
            refine wpStill_go (v := .int .i64 M) rfl rfl (stays_run fun w' h => ex_load rfl rfl (ld_one (by kernel_rfl) (LS w' h))) ?_
            simp only [Act.put, List.setIfInBounds_toArray, List.set_cons_succ, List.set_cons_zero, Nat.reduceAdd]
            refine wpStill_go (v := .int .i64 (m * M)) rfl rfl (stays_run fun w' h => by simp [go_sem, J1.out]) ?_
            simp only [Act.put, List.setIfInBounds_toArray, List.set_cons_succ, List.set_cons_zero, Nat.reduceAdd]
            refine wpStill_go (v := .bool true) rfl rfl (stays_run fun w' h => by simp [go_sem]) ?_
            simp only [Act.put, List.setIfInBounds_toArray, List.set_cons_succ, List.set_cons_zero, Nat.reduceAdd]
            refine wpStill_go (v := .bool true) rfl rfl (stays_run fun w' h => by simp [go_sem]) ?_
            simp only [Act.put, List.setIfInBounds_toArray, List.set_cons_succ, List.set_cons_zero, Nat.reduceAdd]
            refine wpStill_go (v := .bool true) rfl rfl (stays_run fun w' h => ex_move rfl rfl) ?_
            simp only [Act.put, List.setIfInBounds_toArray, List.set_cons_succ, List.set_cons_zero, Nat.reduceAdd]
            refine wpStill_go (v := .pointer (some ⟨X, 0, none⟩)) rfl rfl (stays_run fun w' h => by simp [go_sem]) ?_
            simp only [Act.put, List.setIfInBounds_toArray, List.set_cons_succ, List.set_cons_zero, Nat.reduceAdd]
            refine wpStill_go (v := .slice (some ⟨bU, 0, none⟩) 16 cu) rfl rfl (stays_run fun w' h => ex_load rfl rfl (ld_one (by kernel_rfl) ((rX.kept ‹_›).cell 0))) ?_
            simp only [Act.put, List.setIfInBounds_toArray, List.set_cons_succ, List.set_cons_zero, Nat.reduceAdd]
            refine wpStill_go (v := .int .i64 (k : Nat)) rfl rfl (stays_run fun w' h => ex_move rfl rfl) ?_
            simp only [Act.put, List.setIfInBounds_toArray, List.set_cons_succ, List.set_cons_zero, Nat.reduceAdd]
            refine wpStill_go (v := .pointer (some ⟨bU, 0 + k * 1, none⟩)) rfl rfl (stays_run fun w' h => ex_index rfl (by kernel_rfl) (by kernel_rfl) rfl rfl (hk16)) ?_
            simp only [Act.put, List.setIfInBounds_toArray, List.set_cons_succ, List.set_cons_zero, Nat.reduceAdd]
            refine wpStill_go (v := .int .i64 m) rfl rfl (stays_run fun w' h => ex_load rfl rfl (ld_one (by kernel_rfl) (LU w' h))) ?_
            simp only [Act.put, List.setIfInBounds_toArray, List.set_cons_succ, List.set_cons_zero, Nat.reduceAdd]
            refine wpStill_go (v := .int .i64 m) rfl rfl (stays_run fun w' h => ex_move rfl rfl) ?_
            simp only [Act.put, List.setIfInBounds_toArray, List.set_cons_succ, List.set_cons_zero, Nat.reduceAdd]
            refine wpStill_go (v := .bool true) rfl rfl (stays_run fun w' h => by simp [go_sem]) ?_
            simp only [Act.put, List.setIfInBounds_toArray, List.set_cons_succ, List.set_cons_zero, Nat.reduceAdd]
            refine wpStill_go (v := .bool true) rfl rfl (stays_run fun w' h => by simp [go_sem]) ?_
            simp only [Act.put, List.setIfInBounds_toArray, List.set_cons_succ, List.set_cons_zero, Nat.reduceAdd]
            refine wpStill_go (v := .bool true) rfl rfl (stays_run fun w' h => ex_move rfl rfl) ?_
            simp only [Act.put, List.setIfInBounds_toArray, List.set_cons_succ, List.set_cons_zero, Nat.reduceAdd]
            refine wpStill_go (v := .int .i64 (k : Nat)) rfl rfl (stays_run fun w' h => ex_move rfl rfl) ?_
            simp only [Act.put, List.setIfInBounds_toArray, List.set_cons_succ, List.set_cons_zero, Nat.reduceAdd]
            refine wpStill_go (v := .int .i64 (i : Nat)) rfl rfl (stays_run fun w' h => ex_move rfl rfl) ?_
            simp only [Act.put, List.setIfInBounds_toArray, List.set_cons_succ, List.set_cons_zero, Nat.reduceAdd]
            refine wpStill_go (v := .bool true) rfl rfl (stays_run fun w' h => by simp [go_sem, Hki.out]) ?_
            simp only [Act.put, List.setIfInBounds_toArray, List.set_cons_succ, List.set_cons_zero, Nat.reduceAdd]
            refine wpStill_go (v := .bool true) rfl rfl (stays_run fun w' h => ex_move rfl rfl) ?_
            simp only [Act.put, List.setIfInBounds_toArray, List.set_cons_succ, List.set_cons_zero, Nat.reduceAdd]
            refine wpStill_off rfl (by kernel_rfl) ?_
            simp only [Act.put, List.setIfInBounds_toArray, List.set_cons_succ, List.set_cons_zero, Nat.reduceAdd]
            refine wpStill_off rfl (by kernel_rfl) ?_
            simp only [Act.put, List.setIfInBounds_toArray, List.set_cons_succ, List.set_cons_zero, Nat.reduceAdd]
            refine wpStill_off rfl (by kernel_rfl) ?_
            simp only [Act.put, List.setIfInBounds_toArray, List.set_cons_succ, List.set_cons_zero, Nat.reduceAdd]
            refine wpStill_off rfl (by kernel_rfl) ?_
            simp only [Act.put, List.setIfInBounds_toArray, List.set_cons_succ, List.set_cons_zero, Nat.reduceAdd]
            refine wpStill_go (v := .bool true) rfl rfl (stays_run fun w' h => by simp [go_sem]) ?_
            simp only [Act.put, List.setIfInBounds_toArray, List.set_cons_succ, List.set_cons_zero, Nat.reduceAdd]
            refine wpStill_go (v := .bool true) rfl rfl (stays_run fun w' h => by simp [go_sem]) ?_
            simp only [Act.put, List.setIfInBounds_toArray, List.set_cons_succ, List.set_cons_zero, Nat.reduceAdd]
            refine wpStill_go (v := .bool true) rfl rfl (stays_run fun w' h => by simp [go_sem]) ?_
            simp only [Act.put, List.setIfInBounds_toArray, List.set_cons_succ, List.set_cons_zero, Nat.reduceAdd]
            refine wpStill_nil ?_
            repeat (refine wpMark_skip rfl ?_)
            refine wpMark_nil fun V hV => ?_
            have hV := (Below.refl _ _).drew.trans hV
            simp only [onlyN, Exit.then]
            have bV := B10.trans (hV.mono B10.size)
            clear hV rX LS LU
            go_wp2_with fail
            go_ret
            exact ⟨rfl, bV⟩
        · rw [hstep] at hno; cases hno
  · have hnb : (1048576 : Int) < (n : Int) ∨ (1048576 : Int) < (nC : Int) := by omega
    by_cases h1 : n ≤ 1048576
    · have hnb : ¬ (1048576 : Int) < (n : Int) := by omega
      have hnbC : (1048576 : Int) < (nC : Int) := by omega
      go_enter Try.func4, Try.ntmps4
      go_wp2_with fail
      go_ret
      exact ⟨rfl, Below.refl _ _⟩
    · have hnb : (1048576 : Int) < (n : Int) := by omega
      go_enter Try.func4, Try.ntmps4
      go_wp2_with fail
      go_ret
      exact ⟨rfl, Below.refl _ _⟩
end Go.Proofs.Ytfandpgjlahnpaa
