/- FnObserveShift returns true at every input, and leaves what was there. -/
import Derived.Test.YtcllkocmnohnkaaObsT
import Derived.Test.YtcllkocmnohnkaaPairJ
namespace Go.Proofs.Ytcllkocmnohnkaa
open Go.RowKit

theorem gMul_turn1 {z : Int × Int} (hz : (-1600000 ≤ z.1 ∧ z.1 ≤ 1600000) ∧ -1600000 ≤ z.2 ∧ z.2 ≤ 1600000) (q : Int) : gMul z.1 z.2 (unit q).1 (unit q).2 = (turnAt z q, true) := by
  have h1 := turnAt_bd q hz.1 hz.2
  have h2 := unit_1 q
  have g1 : gv z.1 z.2 = true := gv_iff.2 (by omega)
  have g2 : gv (unit q).1 (unit q).2 = true := gv_iff.2 (by omega)
  have g3 : gv (turnAt z q).1 (turnAt z q).2 = true := gv_iff.2 (by omega)
  unfold gMul
  rw [g1, g2]
  change (if (true && true && gv (turnAt z q).1 (turnAt z q).2) = true then _ else _) = _
  rw [g3]; rfl

set_option maxRecDepth 100000 in
set_option maxHeartbeats 1000000 in
theorem FnObserveShift_walk (w : World) (A : Option Addr) (n cap : Nat) (bs : List Int) (hn : bs.length = n) (hm : n ≤ 9223372036854775807) (hr : Rd w w.heap.size A (bs.map (Value.int .u8))) (hw : ∀ x ∈ bs, (Lit.int .u8 x).wf = true) (hk : n ≤ cap) (C : Option Addr) (nC capC : Nat) (ms : List Int) (_ : ms.length = nC) (_ : nC ≤ 9223372036854775807) (_ : Rd w w.heap.size C (ms.map (Value.int .u8))) (_ : ∀ x ∈ ms, (Lit.int .u8 x).wf = true) (_ : nC ≤ capC) :
    Calls Try.prog 18 #[.slice A n cap, .slice C nC capC] w fun e w' => e = .returned (.bool true) ∧ Below w.heap.size w w' := by
  have Hbs := Lib.hid (bytesOk_of hw); clear hw
  by_cases hb : n ≤ 1048576 ∧ nC ≤ 1048576
  · obtain ⟨hb, hbC⟩ := hb
    have hnb : ¬ (1048576 : Int) < (n : Int) := by omega
    have hnbC : ¬ (1048576 : Int) < (nC : Int) := by omega
    obtain ⟨d, hd0⟩ : ∃ d : Nat, 4 * (nC / 4 % 4) + nC % 4 = d := ⟨_, rfl⟩
    have hd16 : d < 16 := by omega
    obtain ⟨a, ha0⟩ : ∃ a : Nat, nC % 4 = a := ⟨_, rfl⟩
    obtain ⟨b, hb0⟩ : ∃ b : Nat, nC / 4 % 4 = b := ⟨_, rfl⟩
    have hda : (d : Int) % 4 = (a : Int) := by omega
    have hdb : (d : Int) / 4 = (b : Int) := by omega
    have hna : (nC : Int) % 4 = (a : Int) := by omega
    have hnb4 : (nC : Int) / 4 % 4 = (b : Int) := by omega
    have ha4 : a < 4 := by omega
    have hb4 : b < 4 := by omega
    have hdN : d % 4 = a ∧ d / 4 = b := by omega
    clear hd0 ha0 hb0
    have Hda := Lib.hid hda; clear hda
    have Hdb := Lib.hid hdb; clear hdb
    have Hna := Lib.hid hna; clear hna
    have Hnb4 := Lib.hid hnb4; clear hnb4
    have HdN := Lib.hid hdN; clear hdN
    go_enter Try.func18, Try.ntmps18
    go_wp2_with fail
    refine (drawObserveOf_any A n cap bs w hn hm hk Hbs.out hr).mono ?_
    rintro e w1 ⟨A1, k1, c1, ants, A2, k2, c2, s, rfl, ha, hk1, hkc, hr1, hs, hk2, hr2, B1⟩
    have Ha := Lib.hid ha; clear ha
    have Hs := Lib.hid hs; clear hs
    clear hr hn
    go_wp2_with fail
    refine (observeOf_any A1 A2 k1 k2 c1 c2 ants s _ Ha.out Hs.out hkc (by omega) (by omega) hr1 hr2).mono ?_
    rintro e w2 ⟨v, rfl, o2, b2⟩
    have B2 := B1.trans (b2.mono B1.size)
    have extX := (hr1.below b2).more b2.size; clear hr1; have hr1 := extX; clear extX
    have extX := (hr2.below b2).more b2.size; clear hr2; have hr2 := extX; clear extX
    obtain ⟨A3, c3, rfl⟩ := own_form o2
    have O2 := Lib.hid o2
    clear o2 b2
    go_wp2_with fail
    refine (sObserveOf_any A1 A2 k1 k2 c1 c2 ants s _ Ha.out Hs.out (by omega) (by omega) hr1 hr2).mono ?_
    rintro e w3 ⟨v, rfl, o3, b3⟩
    have B3 := B2.trans (b3.mono B2.size)
    have extX := (hr1.below b3).more b3.size; clear hr1; have hr1 := extX; clear extX
    have extX := (hr2.below b3).more b3.size; clear hr2; have hr2 := extX; clear extX
    have extX := Lib.hid (own_ext O2.out b3); clear O2; have O2 := extX; clear extX
    obtain ⟨A4, c4, rfl⟩ := own_form o3
    have O3 := Lib.hid o3
    clear o3 b3
    have hLb := obsR_len ants s
    obtain ⟨L, hL⟩ : ∃ L, (obsR ants s).length = L := ⟨_, rfl⟩
    obtain ⟨S, hS⟩ : ∃ S, obsR ants s = S := ⟨_, rfl⟩
    have hSL : S.length = L := by rw [← hS]; exact hL
    have O2 := O2.out
    have O3 := O3.out
    rw [hL, hS] at O2 O3
    rw [hL] at hLb ⊢
    have hidX := Lib.hid O2; clear O2; have O2 := hidX; clear hidX
    have hidX := Lib.hid O3; clear O3; have O3 := hidX; clear hidX
    have HSL := Lib.hid hSL; clear hSL
    have HL := Lib.hid hL; clear hL
    have HS := Lib.hid hS; clear hS
    obtain ⟨ok, hok⟩ : ∃ ok, (arrV ants && skyV s) = ok := ⟨_, rfl⟩
    rw [hok]
    have hne : (ok != ok) = false := by simp
    have Hok := Lib.hid hok
    clear hok
    go_wp2_with fail
    refine (sameGrid_any A3 A4 L L c3 c4 S S _ HSL.out HSL.out (by omega) (Rd.of_own O2.out) (Rd.of_own O3.out)).mono ?_
    rintro e w4 ⟨rfl, b4⟩
    have B4 := B3.trans (b4.mono B3.size)
    have extX := (hr1.below b4).more b4.size; clear hr1; have hr1 := extX; clear extX
    have extX := (hr2.below b4).more b4.size; clear hr2; have hr2 := extX; clear extX
    have extX := Lib.hid (own_ext O2.out b4); clear O2; have O2 := extX; clear extX
    have extX := Lib.hid (own_ext O3.out b4); clear O3; have O3 := extX; clear extX
    clear b4
    rw [decide_eq_true (rfl : S = S)]
    cases ok
    · go_wp2_with fail
      refine (sameGrid_any A3 A4 L L c3 c4 S S _ HSL.out HSL.out (by omega) (Rd.of_own O2.out) (Rd.of_own O3.out)).mono ?_
      rintro e w5 ⟨rfl, b5⟩
      rw [decide_eq_true (rfl : S = S)]
      go_wp2_with fail
      go_ret
      exact ⟨rfl, B4.trans (b5.mono B4.size)⟩
    · obtain ⟨hva, hvs⟩ := Bool.and_eq_true_iff.1 Hok.out
      have han := arrV_len hva
      rw [Ha.out] at han
      obtain rfl : k2 = 16 := by rw [← Hs.out]; exact skyV_len hvs
      have hSo : S = obsL ants s := by rw [← HS.out]; exact obsR_yes hva hvs
      have hLp : L = (pairsN k1).length := by rw [← HSL.out, hSo, obsL_len, Ha.out]
      have hL1 : 1 ≤ L := by rw [hLp]; exact pairs_pos k1 han.1 han.2
      have HSo := Lib.hid hSo; clear hSo
      have Hva := Lib.hid hva; clear hva
      have Hvs := Lib.hid hvs; clear hvs
      have HLp := Lib.hid hLp; clear hLp
      go_wp2_with fail
      rw [Hna.out, Hnb4.out]
      go_wp2_with fail
      refine (skyShift_yes A2 c2 s d _ _ _ Hvs.out hd16 Hda.out Hdb.out hr2).mono ?_
      rintro e w5 ⟨rfl, r5, b5⟩
      have B5 := B4.trans (b5.mono B4.size)
      have extX := (hr1.below b5).more b5.size; clear hr1; have hr1 := extX; clear extX
      have extX := Lib.hid (own_ext O2.out b5); clear O2; have O2 := extX; clear extX
      clear b5
      have Hvsh := Lib.hid (skyV_sh Hvs.out d)
      go_wp2_with fail
      refine (observeOf_any A1 _ k1 16 c1 16 ants (shL s d) _ Ha.out (shL_len _ _) hkc (by omega) (by omega) hr1 r5.rd).mono ?_
      rintro e w9 ⟨v, rfl, o9, b9⟩
      rw [Hva.out, Hvsh.out]
      rw [obsR_yes Hva.out Hvsh.out] at o9
      have hzl : (obsL ants (shL s d)).length = L := by rw [obsL_len, Ha.out, HLp.out]
      rw [hzl] at o9
      obtain ⟨A9, c9, rfl⟩ := own_form o9
      have hrZ := Rd.of_own o9
      have B9 := B5.trans (b9.mono B5.size)
      have extX := (hr1.below b9).more b9.size; clear hr1; have hr1 := extX; clear extX
      have extX := Lib.hid (own_ext O2.out b9); clear O2; have O2 := extX; clear extX
      have hsh : ∀ k, k < L → ∃ i j : Nat, pairAt k1 k = (i, j) ∧ i < j ∧ j < k1 ∧ (obsL ants (shL s d)).getD k (0, 0) = turnAt (S.getD k (0, 0)) (vecX ants i j * a + vecY ants i j * b) := fun k hk => by
        have hkp : k < (pairsN k1).length := by rw [← HLp.out]; exact hk
        obtain ⟨h1, h2⟩ := pairAt_lt hkp
        refine ⟨(pairAt k1 k).1, (pairAt k1 k).2, rfl, h1, h2, ?_⟩
        rw [HSo.out, obsL_get _ _ _ (by rw [Ha.out]; exact hkp), obsL_get _ _ _ (by rw [Ha.out]; exact hkp), Ha.out]
        change (skyT (shL s d)).getD (vecC ants (pairAt k1 k).1 (pairAt k1 k).2) (0, 0) = turnAt ((skyT s).getD (vecC ants (pairAt k1 k).1 (pairAt k1 k).2) (0, 0)) _
        rw [skyT_shift _ _ _ hd16 (vecC_lt _ _ _)]
        have hp := ph_cell (vecX ants (pairAt k1 k).1 (pairAt k1 k).2) (vecY ants (pairAt k1 k).1 (pairAt k1 k).2) d
        rw [HdN.out.1, HdN.out.2] at hp
        exact turnAt_congr hp
      have hSb := obs_le (ants := ants) Hvs.out
      rw [← HSo.out] at hSb
      obtain ⟨Z, hZ⟩ : ∃ Z, obsL ants (shL s d) = Z := ⟨_, rfl⟩
      rw [hZ] at hsh hzl hrZ
      have hrS := Rd.of_own O2.out
      have hgl := arrV_gLe Hva.out
      have Hsh := Lib.hid hsh; clear hsh
      have HSb := Lib.hid hSb; clear hSb
      have Hzl := Lib.hid hzl; clear hzl
      have HZ := Lib.hid hZ; clear hZ
      have Hgl := Lib.hid hgl; clear hgl
      clear o9 b9 r5
      go_wp2_with fail
      go_loopw [17] (fun i wr => ∃ m : Nat, m ≤ L ∧ i = .int .i64 m ∧ Below w9.heap.size w9 wr) (fun i _ => L - (intOf i).toNat)
      case atStart => exact ⟨0, by omega, rfl, Below.refl _ _⟩
      case round =>
        obtain ⟨m, hm', rfl, hbel⟩ := hrel
        by_cases hlt : m < L
        · have hmL : (m : Int) < L := by omega
          have hmp : m < (pairsN k1).length := by rw [← HLp.out]; exact hlt
          obtain ⟨i, j, hp, hij, hjk, hZm⟩ := Hsh.out m hlt
          have hbp := fun w => basePair_any k1 m w han.1 han.2 hmp
          rw [hp] at hbp
          dsimp only at hbp
          have hvb := vec_bd Hgl.out i j
          obtain ⟨X, hX⟩ : ∃ X, vecX ants i j = X := ⟨_, rfl⟩
          obtain ⟨Y, hY⟩ : ∃ Y, vecY ants i j = Y := ⟨_, rfl⟩
          rw [hX, hY] at hZm hvb
          have hx1 := mul_bd X a 2000 3 hvb.1 (by omega)
          have hy1 := mul_bd Y b 2000 3 hvb.2 (by omega)
          simp only [Int.reduceMul, Int.reduceNeg] at hx1 hy1
          have i1 : IntKind.i64.wrap (X * a) = X * a := IntWalk.i64_in _ (by omega)
          have i2 : IntKind.i64.wrap (Y * b) = Y * b := IntWalk.i64_in _ (by omega)
          obtain ⟨q, hq⟩ : ∃ q, X * a + Y * b = q := ⟨_, rfl⟩
          have i3 : IntKind.i64.wrap (X * a + Y * b) = q := by rw [← hq]; exact IntWalk.i64_in _ (by omega)
          rw [hq] at hZm
          have hz := gLe_get HSb.out (by omega) m
          have hmul := gMul_turn1 hz q
          obtain ⟨b3, o3', rfl, LS⟩ := ld_pair (hrS.ext hbel) (k := m) (by rw [HSL.out]; exact hlt)
          obtain ⟨b9', o9', rfl, LZ⟩ := ld_pair (hrZ.ext hbel) (k := m) (by rw [Hzl.out]; exact hlt)
          rw [hZm] at LZ
          have hrA := hr1.ext hbel
          generalize S.getD m (0, 0) = z at *
          have B10 := B9.trans (hbel.mono B9.size)
          have Hbp := Lib.hid hbp
          have Hbel := Lib.hid hbel
          have Hmul := Lib.hid hmul
          have HX := Lib.hid hX
          have HY := Lib.hid hY
          have I1 := Lib.hid i1
          have I2 := Lib.hid i2
          have I3 := Lib.hid i3
          have Hb10 := B10.size
          clear hbp hbel hmul hX hY i1 i2 i3 hq hp hZm
          go_wp2_with fail
          refine (Hbp.out _).mono ?_
          rintro e w11 ⟨rfl, b11⟩
          have extX := (hrA.below b11).more b11.size; clear hrA; have hrA := extX; clear extX
          have B11 := B10.trans (b11.mono B10.size)
          go_wp2_with fail
          refine (baseVector_yes A1 k1 c1 ants i j _ Ha.out hkc Hva.out (by omega) hjk hrA).mono ?_
          rintro e w12 ⟨rfl, b12⟩
          rw [HX.out, HY.out]
          have B12 := B11.trans (b12.mono B11.size)
          go_wp2_with fail
          have b13 := b11.trans ((b12.alloc b12.size (.cells #[.int .i64 X, .int .i64 Y] 53)).mono b11.size)
          have rv := Row.new w12 53 [.int .i64 X, .int .i64 Y]
          have B13 := B12.alloc B12.size (.cells #[.int .i64 X, .int .i64 Y] 53)
          obtain ⟨V, hV⟩ : ∃ V, w12.alloc (.cells #[.int .i64 X, .int .i64 Y] 53) = V := ⟨_, rfl⟩
          obtain ⟨h, hh⟩ : ∃ h, w12.heap.size = h := ⟨_, rfl⟩
          rw [hV] at rv B13 b13 ⊢
          rw [hh] at rv ⊢
          clear hV hh b11 b12
          refine wp_region_N [18, 19, 20] [] (by kernel_rfl) (by kernel_rfl) ?_
          refine wpStill_go (v := .slice (some ⟨b3, o3', none⟩) L c3) rfl rfl (stays_run fun w' h => ex_move rfl rfl) ?_
          simp only [Act.put, List.setIfInBounds_toArray, List.set_cons_succ, List.set_cons_zero]
          refine wpStill_go (v := .int .i64 m) rfl rfl (stays_run fun w' h => ex_move rfl rfl) ?_
          simp only [Act.put, List.setIfInBounds_toArray, List.set_cons_succ, List.set_cons_zero]
          refine wpStill_go (v := .pointer (some ⟨b3, o3' + m * 2, none⟩)) rfl rfl (stays_run fun w' h => ex_index rfl (by kernel_rfl) (by kernel_rfl) rfl rfl (hlt)) ?_
          simp only [Act.put, List.setIfInBounds_toArray, List.set_cons_succ, List.set_cons_zero]
          refine wpStill_go (v := .agg #[.int .i64 z.1, .int .i64 z.2]) rfl rfl (stays_run fun w' h => ex_load rfl rfl (LS w' (b13.trans (‹Below V.heap.size V w'›.mono b13.size)))) ?_
          simp only [Act.put, List.setIfInBounds_toArray, List.set_cons_succ, List.set_cons_zero]
          refine wpStill_go (v := .pointer (some ⟨h, 0, none⟩)) rfl rfl (stays_run fun w' h => by simp [go_sem]) ?_
          simp only [Act.put, List.setIfInBounds_toArray, List.set_cons_succ, List.set_cons_zero]
          refine wpStill_go (v := .int .i64 X) rfl rfl (stays_run fun w' h => ex_load rfl rfl (ld_one (by kernel_rfl) ((rv.kept ‹_›).cell 0))) ?_
          simp only [Act.put, List.setIfInBounds_toArray, List.set_cons_succ, List.set_cons_zero]
          refine wpStill_go (v := .int .i64 a) rfl rfl (stays_run fun w' h => ex_move rfl rfl) ?_
          simp only [Act.put, List.setIfInBounds_toArray, List.set_cons_succ, List.set_cons_zero]
          refine wpStill_go (v := .int .i64 (X * a)) rfl rfl (stays_run fun w' h => by simp [go_sem, I1.out]) ?_
          simp only [Act.put, List.setIfInBounds_toArray, List.set_cons_succ, List.set_cons_zero]
          refine wpStill_go (v := .pointer (some ⟨h, 1, none⟩)) rfl rfl (stays_run fun w' h => by simp [go_sem]) ?_
          simp only [Act.put, List.setIfInBounds_toArray, List.set_cons_succ, List.set_cons_zero]
          refine wpStill_go (v := .int .i64 Y) rfl rfl (stays_run fun w' h => ex_load rfl rfl (ld_one (by kernel_rfl) ((rv.kept ‹_›).cell 1))) ?_
          simp only [Act.put, List.setIfInBounds_toArray, List.set_cons_succ, List.set_cons_zero]
          refine wpStill_go (v := .int .i64 b) rfl rfl (stays_run fun w' h => ex_move rfl rfl) ?_
          simp only [Act.put, List.setIfInBounds_toArray, List.set_cons_succ, List.set_cons_zero]
          refine wpStill_go (v := .int .i64 (Y * b)) rfl rfl (stays_run fun w' h => by simp [go_sem, I2.out]) ?_
          simp only [Act.put, List.setIfInBounds_toArray, List.set_cons_succ, List.set_cons_zero]
          refine wpStill_go (v := .int .i64 q) rfl rfl (stays_run fun w' h => by simp [go_sem, I3.out]) ?_
          simp only [Act.put, List.setIfInBounds_toArray, List.set_cons_succ, List.set_cons_zero]
          refine wpStill_go (v := .agg #[.int .i64 (unit q).1, .int .i64 (unit q).2]) rfl rfl (stays_call (f := 51) (args := #[.int .i64 q]) (fun w' h => by simp [go_sem]) (fun w' _ => gaussUnit_any q w')) ?_
          simp only [Act.put, List.setIfInBounds_toArray, List.set_cons_succ, List.set_cons_zero]
          refine wpStill_go (v := .tuple #[.agg #[.int .i64 (turnAt z q).1, .int .i64 (turnAt z q).2], .bool true]) rfl rfl (stays_call (f := 81) (args := #[.agg #[.int .i64 z.1, .int .i64 z.2], .agg #[.int .i64 (unit q).1, .int .i64 (unit q).2]]) (fun w' h => by simp [go_sem]) (fun w' _ => by have hg := gaussMul_any z.1 z.2 (unit q).1 (unit q).2 w'; rw [Hmul.out] at hg; exact hg)) ?_
          simp only [Act.put, List.setIfInBounds_toArray, List.set_cons_succ, List.set_cons_zero]
          refine wpStill_go (v := .tuple #[.agg #[.int .i64 (turnAt z q).1, .int .i64 (turnAt z q).2], .bool true]) rfl rfl (stays_run fun w' h => ex_move rfl rfl) ?_
          simp only [Act.put, List.setIfInBounds_toArray, List.set_cons_succ, List.set_cons_zero]
          refine wpStill_go (v := .agg #[.int .i64 (turnAt z q).1, .int .i64 (turnAt z q).2]) rfl rfl (stays_run fun w' h => by simp [go_sem]) ?_
          simp only [Act.put, List.setIfInBounds_toArray, List.set_cons_succ, List.set_cons_zero]
          refine wpStill_go (v := .bool true) rfl rfl (stays_run fun w' h => by simp [go_sem]) ?_
          simp only [Act.put, List.setIfInBounds_toArray, List.set_cons_succ, List.set_cons_zero]
          refine wpStill_skip rfl ?_
          refine wpStill_skip rfl ?_
          refine wpStill_skip rfl ?_
          refine wpStill_nil ?_
          repeat (refine wpMark_skip rfl ?_)
          generalize turnAt z q = T at *
          refine wpMark_go rfl (fun m1 hm1 K hK => ?_)
          go_wp2_with fail
          have C1 := fun o => ((Below.refl _ _).drew.trans hm1).alloc hm1.size o
          refine hK _ _ (fun _ => C1 _) ?_
          clear hK
          refine wpMark_go rfl (fun m2 hm2 K hK => ?_)
          have e1 := (Row.new m1 49 [.int .i64 0, .int .i64 0]).kept hm2
          obtain ⟨c0, c1', z0, z1⟩ := e1.two
          go_wp2_with fail
          have E2 := (C1 (.cells #[.int .i64 0, .int .i64 0] 49)).trans (hm2.mono (C1 _).size)
          have E3 := (E2.setCell (p := ⟨m1.heap.size, 0, none⟩) hm1.size (.int .i64 T.1)).setCell (p := ⟨m1.heap.size, 1, none⟩) hm1.size (.int .i64 T.2)
          refine hK _ _ (fun _ => E3) ?_
          clear hK
          refine wpMark_go rfl (fun m3 hm3 K hK => ?_)
          have E4 := E3.trans (hm3.mono E3.size)
          go_wp2_with fail
          refine hK _ _ (fun _ => E4) (wpMark_nil fun m6 hm6 => ?_)
          simp only [onlyN, Exit.then]
          have E6 := E4.trans (hm6.mono E4.size)
          have r2 := (((e1.set_ 0 (.int .i64 T.1)).set_ 1 (.int .i64 T.2)).kept hm3).kept hm6
          simp only [List.set_cons_zero, List.set_cons_succ] at r2
          have B16 := B13.trans (E6.mono B13.size)
          have b16 := b13.trans (E6.mono b13.size)
          obtain ⟨g, hg⟩ : ∃ g, m1.heap.size = g := ⟨_, rfl⟩
          rw [hg] at r2 ⊢
          clear E6 E4 E3 E2 hm6 hm3 hm2 hm1 C1 c0 c1' z0 z1 e1 hK rv LS hg B13 b13
          go_wp2_with fail
          refine wp_region_N [] [] (by kernel_rfl) (by kernel_rfl) ?_
          refine wpStill_go (v := .bool true) rfl rfl (stays_run fun w' h => ex_move rfl rfl) ?_
          simp only [Act.put, List.setIfInBounds_toArray, List.set_cons_succ, List.set_cons_zero]
          refine wpStill_go (v := .bool false) rfl rfl (stays_run fun w' h => by simp [go_sem]) ?_
          simp only [Act.put, List.setIfInBounds_toArray, List.set_cons_succ, List.set_cons_zero]
          refine wpStill_go (v := .bool false) rfl rfl (stays_run fun w' h => ex_move rfl rfl) ?_
          simp only [Act.put, List.setIfInBounds_toArray, List.set_cons_succ, List.set_cons_zero]
          refine wpStill_go (v := .bool true) rfl rfl (stays_run fun w' h => ex_move rfl rfl) ?_
          simp only [Act.put, List.setIfInBounds_toArray, List.set_cons_succ, List.set_cons_zero]
          refine wpStill_go (v := .bool false) rfl rfl (stays_run fun w' h => by simp [go_sem]) ?_
          simp only [Act.put, List.setIfInBounds_toArray, List.set_cons_succ, List.set_cons_zero]
          refine wpStill_go (v := .bool false) rfl rfl (stays_run fun w' h => by simp [go_sem]) ?_
          simp only [Act.put, List.setIfInBounds_toArray, List.set_cons_succ, List.set_cons_zero]
          refine wpStill_go (v := .bool false) rfl rfl (stays_run fun w' h => ex_move rfl rfl) ?_
          simp only [Act.put, List.setIfInBounds_toArray, List.set_cons_succ, List.set_cons_zero]
          refine wpStill_go (v := .bool true) rfl rfl (stays_run fun w' h => ex_move rfl rfl) ?_
          simp only [Act.put, List.setIfInBounds_toArray, List.set_cons_succ, List.set_cons_zero]
          refine wpStill_go (v := .bool false) rfl rfl (stays_run fun w' h => by simp [go_sem]) ?_
          simp only [Act.put, List.setIfInBounds_toArray, List.set_cons_succ, List.set_cons_zero]
          refine wpStill_go (v := .bool false) rfl rfl (stays_run fun w' h => by simp [go_sem]) ?_
          simp only [Act.put, List.setIfInBounds_toArray, List.set_cons_succ, List.set_cons_zero]
          refine wpStill_go (v := .bool false) rfl rfl (stays_run fun w' h => ex_move rfl rfl) ?_
          simp only [Act.put, List.setIfInBounds_toArray, List.set_cons_succ, List.set_cons_zero]
          refine wpStill_go (v := .slice (some ⟨b9', o9', none⟩) L c9) rfl rfl (stays_run fun w' h => ex_move rfl rfl) ?_
          simp only [Act.put, List.setIfInBounds_toArray, List.set_cons_succ, List.set_cons_zero]
          refine wpStill_go (v := .int .i64 L) rfl rfl (stays_run fun w' h => ex_len rfl (by kernel_rfl) rfl) ?_
          simp only [Act.put, List.setIfInBounds_toArray, List.set_cons_succ, List.set_cons_zero]
          refine wpStill_go (v := .slice (some ⟨b3, o3', none⟩) L c3) rfl rfl (stays_run fun w' h => ex_move rfl rfl) ?_
          simp only [Act.put, List.setIfInBounds_toArray, List.set_cons_succ, List.set_cons_zero]
          refine wpStill_go (v := .int .i64 L) rfl rfl (stays_run fun w' h => ex_len rfl (by kernel_rfl) rfl) ?_
          simp only [Act.put, List.setIfInBounds_toArray, List.set_cons_succ, List.set_cons_zero]
          refine wpStill_go (v := .bool false) rfl rfl (stays_run fun w' h => by simp [go_sem]) ?_
          simp only [Act.put, List.setIfInBounds_toArray, List.set_cons_succ, List.set_cons_zero]
          refine wpStill_go (v := .bool false) rfl rfl (stays_run fun w' h => by simp [go_sem]) ?_
          simp only [Act.put, List.setIfInBounds_toArray, List.set_cons_succ, List.set_cons_zero]
          refine wpStill_go (v := .bool false) rfl rfl (stays_run fun w' h => ex_move rfl rfl) ?_
          simp only [Act.put, List.setIfInBounds_toArray, List.set_cons_succ, List.set_cons_zero]
          refine wpStill_go (v := .slice (some ⟨b9', o9', none⟩) L c9) rfl rfl (stays_run fun w' h => ex_move rfl rfl) ?_
          simp only [Act.put, List.setIfInBounds_toArray, List.set_cons_succ, List.set_cons_zero]
          refine wpStill_go (v := .int .i64 m) rfl rfl (stays_run fun w' h => ex_move rfl rfl) ?_
          simp only [Act.put, List.setIfInBounds_toArray, List.set_cons_succ, List.set_cons_zero]
          refine wpStill_go (v := .pointer (some ⟨b9', o9' + m * 2, none⟩)) rfl rfl (stays_run fun w' h => ex_index rfl (by kernel_rfl) (by kernel_rfl) rfl rfl (hlt)) ?_
          simp only [Act.put, List.setIfInBounds_toArray, List.set_cons_succ, List.set_cons_zero]
          refine wpStill_go (v := .agg #[.int .i64 T.1, .int .i64 T.2]) rfl rfl (stays_run fun w' h => ex_load rfl rfl (LZ w' (b16.trans (‹Below m6.heap.size m6 w'›.mono b16.size)))) ?_
          simp only [Act.put, List.setIfInBounds_toArray, List.set_cons_succ, List.set_cons_zero]
          refine wpStill_go (v := .agg #[.int .i64 T.1, .int .i64 T.2]) rfl rfl (stays_run fun w' h => ex_load rfl rfl (ld_two (by kernel_rfl) (by kernel_rfl) ((r2.kept ‹_›).cell 0) ((r2.kept ‹_›).cell 1))) ?_
          simp only [Act.put, List.setIfInBounds_toArray, List.set_cons_succ, List.set_cons_zero]
          refine wpStill_go (v := .bool false) rfl rfl (stays_run fun w' h => by simp [go_sem]) ?_
          simp only [Act.put, List.setIfInBounds_toArray, List.set_cons_succ, List.set_cons_zero]
          refine wpStill_go (v := .bool false) rfl rfl (stays_run fun w' h => by simp [go_sem]) ?_
          simp only [Act.put, List.setIfInBounds_toArray, List.set_cons_succ, List.set_cons_zero]
          refine wpStill_nil ?_
          repeat (refine wpMark_skip rfl ?_)
          refine wpMark_nil fun w21 h21 => ?_
          simp only [onlyN, Exit.then]
          have B22 := (Hbel.out.trans (b16.mono Hbel.out.size)).trans (((Below.refl _ _).drew.trans h21).mono (Nat.le_trans Hbel.out.size b16.size))
          clear LZ r2
          go_wp2_with fail
          go_roundw
          case measure => simp [intOf]; omega
          case rel => exact ⟨m + 1, by omega, by go_num, B22⟩
        · obtain rfl : m = L := by omega
          have B10 := B9.trans (hbel.mono B9.size)
          go_wp2_with fail
          go_ret
          exact ⟨rfl, B10⟩
  · have hnb : (1048576 : Int) < (n : Int) ∨ (1048576 : Int) < (nC : Int) := by omega
    by_cases h1 : n ≤ 1048576
    · have hnb : ¬ (1048576 : Int) < (n : Int) := by omega
      have hnbC : (1048576 : Int) < (nC : Int) := by omega
      go_enter Try.func18, Try.ntmps18
      go_wp2_with fail
      go_ret
      exact ⟨rfl, Below.refl _ _⟩
    · have hnb : (1048576 : Int) < (n : Int) := by omega
      go_enter Try.func18, Try.ntmps18
      go_wp2_with fail
      go_ret
      exact ⟨rfl, Below.refl _ _⟩
end Go.Proofs.Ytcllkocmnohnkaa
