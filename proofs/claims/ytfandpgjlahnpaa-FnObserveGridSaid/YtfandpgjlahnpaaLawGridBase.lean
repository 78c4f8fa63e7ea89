/- FnGridBase returns true at every input, and leaves what was there. -/
import Derived.Test.YtfandpgjlahnpaaLawGrid
import Derived.Test.YtfandpgjlahnpaaPairJ
import Derived.Test.YtfandpgjlahnpaaLawBeam
namespace Go.Proofs.Ytfandpgjlahnpaa
open Go.RowKit

theorem gridValid_any (A : Option Addr) (cap : Nat) (gs : List (Int × Int)) (w : World) (hn : gs.length = 16) (hr : Rd w w.heap.size A (gs.flatMap pairCells)) :
    Calls Try.prog 53 #[.slice A 16 cap] w fun e w' => e = .returned (.bool (allV gs)) ∧ Below w.heap.size w w' := by
  have Hn := Lib.hid hn; clear hn
  go_enter Try.func53, Try.ntmps53
  go_wp2_with fail
  refine (allGauss_any A 16 cap gs _ Hn.out (by omega) hr).mono ?_
  rintro e w1 ⟨rfl, b1⟩
  obtain ⟨m, hm⟩ : ∃ m, allV gs = m := ⟨_, rfl⟩
  rw [hm]
  have Hm := Lib.hid hm; clear hm
  go_wp2_with fail
  go_ret
  exact ⟨ret_bool Hm.out.symm, b1⟩

set_option maxRecDepth 100000 in
set_option maxHeartbeats 2000000 in
theorem FnGridBase_walk (w : World) (A : Option Addr) (n cap : Nat) (bs : List Int) (hn : bs.length = n) (hm : n ≤ 9223372036854775807) (hr : Rd w w.heap.size A (bs.map (Value.int .u8))) (hw : ∀ x ∈ bs, (Lit.int .u8 x).wf = true) (hk : n ≤ cap) :
    Calls Try.prog 8 #[.slice A n cap] w fun e w' => e = .returned (.bool true) ∧ Below w.heap.size w w' := by
  have Hbs := Lib.hid (bytesOk_of hw); clear hw
  by_cases hb : n ≤ 1048576
  · have hnb : ¬ (1048576 : Int) < (n : Int) := by omega
    go_enter Try.func8, Try.ntmps8
    go_wp2_with fail
    refine (drawObserveGrid_any A n cap bs w hn hm hk Hbs.out hr).mono ?_
    rintro e w1 ⟨A1, k1, c1, ants, A2, k2, c2, seen, rfl, ha, hk1, hkc, hr1, hs, hk2, hr2, B1⟩
    have Ha := Lib.hid ha; clear ha
    have Hs := Lib.hid hs; clear hs
    clear hr hn
    go_wp2_with fail
    refine (observeGrid_any A1 A2 k1 c1 k2 c2 ants seen _ Ha.out Hs.out hkc (by omega) (by omega) hr1 hr2).mono ?_
    rintro e w2 ⟨b2, v, rfl, o2⟩
    have B2 := B1.trans (b2.mono B1.size)
    have extX := (hr1.below b2).more b2.size; clear hr1; have hr1 := extX; clear extX
    have extX := (hr2.below b2).more b2.size; clear hr2; have hr2 := extX; clear extX
    obtain ⟨A3, c3, rfl⟩ := own_form o2
    have O2 := Lib.hid o2
    clear o2 b2
    go_wp2_with fail
    refine (sObserveGrid_all A1 A2 k1 c1 k2 c2 ants seen _ Ha.out Hs.out (by omega) (by omega) hr1 hr2).mono ?_
    rintro e w3 ⟨b3, v, rfl, o3⟩
    have B3 := B2.trans (b3.mono B2.size)
    have extX := (hr1.below b3).more b3.size; clear hr1; have hr1 := extX; clear extX
    have extX := (hr2.below b3).more b3.size; clear hr2; have hr2 := extX; clear extX
    have extX := Lib.hid (own_ext O2.out b3); clear O2; have O2 := extX; clear extX
    obtain ⟨A4, c4, rfl⟩ := own_form o3
    have O3 := Lib.hid o3
    clear o3 b3
    have hLb := gridR_len ants seen
    obtain ⟨L, hL⟩ : ∃ L, ((gridR ants seen).getD []).length = L := ⟨_, rfl⟩
    obtain ⟨S, hS⟩ : ∃ S, (gridR ants seen).getD [] = S := ⟨_, rfl⟩
    have hSL : S.length = L := by rw [← hS]; exact hL
    have O2 := O2.out
    have O3 := O3.out
    rw [hL, hS] at O2 O3
    rw [hL] at hLb ⊢
    have hidX := Lib.hid O2; clear O2; have O2 := hidX; clear hidX
    have hidX := Lib.hid O3; clear O3; have O3 := hidX; clear hidX
    have HSL := Lib.hid hSL; clear hSL
    have HL := Lib.hid hL; clear hL
    have HS := Lib.hid hS; clear hS
    obtain ⟨ok, hok⟩ : ∃ ok, (gridR ants seen).isSome = ok := ⟨_, rfl⟩
    rw [hok]
    have hne : (ok != ok) = false := by simp
    have Hok := Lib.hid hok
    clear hok
    go_wp2_with fail
    refine (sameGrid_any A3 A4 L L c3 c4 S S _ HSL.out HSL.out (by omega) (Rd.of_own O2.out) (Rd.of_own O3.out)).mono ?_
    rintro e w4 ⟨rfl, b4⟩
    have B4 := B3.trans (b4.mono B3.size)
    have extX := (hr1.below b4).more b4.size; clear hr1; have hr1 := extX; clear extX
    have extX := (hr2.below b4).more b4.size; clear hr2; have hr2 := extX; clear extX
    have extX := Lib.hid (own_ext O2.out b4); clear O2; have O2 := extX; clear extX
    have extX := Lib.hid (own_ext O3.out b4); clear O3; have O3 := extX; clear extX
    clear b4
    rw [decide_eq_true (rfl : S = S)]
    cases ok
    · go_wp2_with fail
      refine (sameGrid_any A3 A4 L L c3 c4 S S _ HSL.out HSL.out (by omega) (Rd.of_own O2.out) (Rd.of_own O3.out)).mono ?_
      rintro e w5 ⟨rfl, b5⟩
      rw [decide_eq_true (rfl : S = S)]
      go_wp2_with fail
      go_ret
      exact ⟨rfl, B4.trans (b5.mono B4.size)⟩
    · obtain ⟨g, hg⟩ := Option.isSome_iff_exists.1 Hok.out
      obtain rfl : g = S := by rw [← HS.out, hg]; rfl
      obtain ⟨hva, hvo, hgo⟩ := gridR_is hg
      rw [Ha.out] at hvo
      have han := arrV_len hva
      rw [Ha.out] at han
      obtain ⟨k0, hk0, _, _, hp2, hp21, hgv⟩ := obsV_of hvo
      obtain rfl : k1 = k0 := by omega
      rw [Hs.out] at hp2 hp21
      obtain rfl : 16 = L := by rw [← HSL.out]; exact (gridO_is hgo).1.symm
      clear hk0
      have Hva := Lib.hid hva; clear hva
      have Hvo := Lib.hid hvo; clear hvo
      have Hgo := Lib.hid hgo; clear hgo
      have Hp2 := Lib.hid hp2; clear hp2
      have Hgv := Lib.hid hgv; clear hgv
      have Hg := Lib.hid hg; clear hg
      have hglG := gridO_gLe (M := 1000000000) (by omega) (gv_of Hgv.out) Hgo.out
      have hrdO := Rd.of_own O2.out
      obtain ⟨bO, oO, rfl⟩ : ∃ b o, A3 = some ⟨b, o, none⟩ := by
        obtain ⟨b, o, rfl, _⟩ := rd_pair hrdO (getD_of (gs := g) (k := 0) (by rw [HSL.out]; omega))
        exact ⟨b, o, rfl⟩
      have hkp : 1 ≤ k2 := by rw [Hp2.out]; exact pairs_pos k1 han.1 han.2
      obtain ⟨bS, oS, rfl⟩ : ∃ b o, A2 = some ⟨b, o, none⟩ := by
        obtain ⟨b, o, rfl, _⟩ := rd_pair hr2 (getD_of (gs := seen) (k := 0) (by rw [Hs.out]; omega))
        exact ⟨b, o, rfl⟩
      have hval : allV g = true := List.all_eq_true.2 fun y hy => gv_iff.2 (hglG y hy)
      have HglG := Lib.hid hglG; clear hglG
      have Hval := Lib.hid hval; clear hval
      go_wp2_with fail
      go_loopw [9] (fun i wr => ∃ k : Nat, k ≤ k2 ∧ i = .int .i64 k ∧ Below w4.heap.size w4 wr) (fun i _ => k2 - (intOf i).toNat)
      case atStart => exact ⟨0, by omega, rfl, Below.refl _ _⟩
      case round =>
        obtain ⟨k, hkk, rfl, hbel⟩ := hrel
        by_cases hlt : k < k2
        · have hmp : k < (pairsN k1).length := by rw [← Hp2.out]; exact hlt
          obtain ⟨hp1, hp2'⟩ := pairAt_lt hmp
          have hbp := fun w => basePair_any k1 k w han.1 han.2 hmp
          have hgk := (gridO_is Hgo.out).2.1 k (by rw [Ha.out]; exact hmp)
          rw [Ha.out] at hgk
          change g.getD (vecC ants (pairAt k1 k).1 (pairAt k1 k).2) (0, 0) = seen.getD k (0, 0) at hgk
          generalize (pairAt k1 k).1 = i at *
          generalize (pairAt k1 k).2 = j at *
          obtain ⟨z, hz⟩ : ∃ z, seen.getD k (0, 0) = z := ⟨_, rfl⟩
          rw [hz] at hgk
          have O2w := own_ext O2.out hbel
          have hr1w := hr1.ext hbel
          have hr2w := hr2.ext hbel
          have Hbp := Lib.hid hbp; clear hbp
          have Hgk := Lib.hid hgk; clear hgk
          have Hz := Lib.hid hz; clear hz
          have O2W := Lib.hid O2w
          clear O2w
          go_wp2_with fail
          refine (Hbp.out _).mono ?_
          rintro e w5 ⟨rfl, b5⟩
          have extX := (hr1w.below b5).more b5.size; clear hr1w; have hr1w := extX; clear extX
          have extX := (hr2w.below b5).more b5.size; clear hr2w; have hr2w := extX; clear extX
          have extX := Lib.hid (own_ext O2W.out b5); clear O2W; have O2W := extX; clear extX
          have B5 := hbel.trans (b5.mono hbel.size)
          clear b5
          go_wp2_with fail
          refine (baseVector_yes A1 k1 c1 ants i j _ Ha.out hkc Hva.out (by omega) hp2' hr1w).mono ?_
          rintro e w6 ⟨rfl, b6⟩
          have extX := (hr2w.below b6).more b6.size; clear hr2w; have hr2w := extX; clear extX
          have extX := Lib.hid (own_ext O2W.out b6); clear O2W; have O2W := extX; clear extX
          have B6 := B5.trans (b6.mono B5.size)
          clear b6 hr1w
          obtain ⟨X, hX⟩ : ∃ X, vecX ants i j = X := ⟨_, rfl⟩
          obtain ⟨Y, hY⟩ : ∃ Y, vecY ants i j = Y := ⟨_, rfl⟩
          obtain ⟨c, hc⟩ : ∃ c, vecC ants i j = c := ⟨_, rfl⟩
          have hcI : cellI X Y = (c : Int) := by rw [← hc, ← hX, ← hY]; exact cellN_cast _ _
          have hc16 : c < 16 := by rw [← hc]; exact vecC_lt _ _ _
          have hgc := Hgk.out
          rw [hc] at hgc
          rw [hX, hY]
          have HcI := Lib.hid hcI
          have Hgc := Lib.hid hgc
          clear hX hY hc hcI hgc Hgk
          go_wp2_with fail
          have BT : Below w4.heap.size w4 (w6.alloc (.cells #[.int .i64 X, .int .i64 Y] 35)) := B6.alloc B6.size _
          have rT := Row.new w6 35 [.int .i64 X, .int .i64 Y]
          have e7 := bA1 (w := w6) (o := .cells #[.int .i64 X, .int .i64 Y] 35)
          have extX := (hr2w.below e7).more e7.size; clear hr2w; have hr2w := extX; clear extX
          have extX := Lib.hid (own_ext O2W.out e7); clear O2W; have O2W := extX; clear extX
          obtain ⟨T, hT⟩ : ∃ T, w6.alloc (.cells #[.int .i64 X, .int .i64 Y] 35) = T := ⟨_, rfl⟩
          obtain ⟨H, hH⟩ : ∃ H, w6.heap.size = H := ⟨_, rfl⟩
          rw [hT] at BT rT O2W hr2w ⊢
          rw [hH] at rT ⊢
          obtain ⟨_, _, e, L1⟩ := ld_pair (Rd.of_own O2W.out) (k := c) (by rw [HSL.out]; exact hc16)
          cases e
          obtain ⟨_, _, e, L2⟩ := ld_pair hr2w (k := k) (by rw [Hs.out]; exact hlt)
          cases e
          rw [Hgc.out] at L1
          rw [Hz.out] at L2
          clear hT hH e7
          refine wp_region_N [] [] (by kernel_rfl) (by kernel_rfl) ?_
          refine wpStill_go (v := .bool true) rfl rfl (stays_run fun w' h => ex_move rfl rfl) ?_
          simp only [Act.put, List.setIfInBounds_toArray, List.set_cons_succ, List.set_cons_zero, Nat.reduceAdd]
          refine wpStill_go (v := .bool false) rfl rfl (stays_run fun w' h => by simp [go_sem]) ?_
          simp only [Act.put, List.setIfInBounds_toArray, List.set_cons_succ, List.set_cons_zero, Nat.reduceAdd]
          refine wpStill_go (v := .bool false) rfl rfl (stays_run fun w' h => ex_move rfl rfl) ?_
          simp only [Act.put, List.setIfInBounds_toArray, List.set_cons_succ, List.set_cons_zero, Nat.reduceAdd]
          refine wpStill_go (v := .bool true) rfl rfl (stays_run fun w' h => ex_move rfl rfl) ?_
          simp only [Act.put, List.setIfInBounds_toArray, List.set_cons_succ, List.set_cons_zero, Nat.reduceAdd]
          refine wpStill_go (v := .bool false) rfl rfl (stays_run fun w' h => by simp [go_sem]) ?_
          simp only [Act.put, List.setIfInBounds_toArray, List.set_cons_succ, List.set_cons_zero, Nat.reduceAdd]
          refine wpStill_go (v := .bool false) rfl rfl (stays_run fun w' h => by simp [go_sem]) ?_
          simp only [Act.put, List.setIfInBounds_toArray, List.set_cons_succ, List.set_cons_zero, Nat.reduceAdd]
          refine wpStill_go (v := .bool false) rfl rfl (stays_run fun w' h => ex_move rfl rfl) ?_
          simp only [Act.put, List.setIfInBounds_toArray, List.set_cons_succ, List.set_cons_zero, Nat.reduceAdd]
          refine wpStill_go (v := .slice (some ⟨bO, oO, none⟩) 16 c3) rfl rfl (stays_run fun w' h => ex_move rfl rfl) ?_
          simp only [Act.put, List.setIfInBounds_toArray, List.set_cons_succ, List.set_cons_zero, Nat.reduceAdd]
          refine wpStill_go (v := .pointer (some ⟨H, 0, none⟩)) rfl rfl (stays_run fun w' h => by simp [go_sem]) ?_
          simp only [Act.put, List.setIfInBounds_toArray, List.set_cons_succ, List.set_cons_zero, Nat.reduceAdd]
          refine wpStill_go (v := .int .i64 X) rfl rfl (stays_run fun w' h => ex_load rfl rfl (ld_one (by kernel_rfl) ((rT.kept ‹_›).cell 0))) ?_
          simp only [Act.put, List.setIfInBounds_toArray, List.set_cons_succ, List.set_cons_zero, Nat.reduceAdd]
          refine wpStill_go (v := .pointer (some ⟨H, 1, none⟩)) rfl rfl (stays_run fun w' h => by simp [go_sem]) ?_
          simp only [Act.put, List.setIfInBounds_toArray, List.set_cons_succ, List.set_cons_zero, Nat.reduceAdd]
          refine wpStill_go (v := .int .i64 Y) rfl rfl (stays_run fun w' h => ex_load rfl rfl (ld_one (by kernel_rfl) ((rT.kept ‹_›).cell 1))) ?_
          simp only [Act.put, List.setIfInBounds_toArray, List.set_cons_succ, List.set_cons_zero, Nat.reduceAdd]
          refine wpStill_go (v := .int .i64 (c : Nat)) rfl rfl (stays_call (f := 50) (args := #[.int .i64 X, .int .i64 Y]) (fun w' h => by simp [go_sem]) (fun w' _ => by rw [← HcI.out]; exact (lCellAt_any _ _ w').mono fun e w'' ⟨h, h2⟩ => ⟨h, h2 ▸ Below.refl _ _⟩)) ?_
          simp only [Act.put, List.setIfInBounds_toArray, List.set_cons_succ, List.set_cons_zero, Nat.reduceAdd]
          refine wpStill_go (v := .pointer (some ⟨bO, oO + c * 2, none⟩)) rfl rfl (stays_run fun w' h => ex_index rfl (by kernel_rfl) (by kernel_rfl) rfl rfl (hc16)) ?_
          simp only [Act.put, List.setIfInBounds_toArray, List.set_cons_succ, List.set_cons_zero, Nat.reduceAdd]
          refine wpStill_go (v := .agg #[.int .i64 z.1, .int .i64 z.2]) rfl rfl (stays_run fun w' h => ex_load rfl rfl (L1 w' h)) ?_
          simp only [Act.put, List.setIfInBounds_toArray, List.set_cons_succ, List.set_cons_zero, Nat.reduceAdd]
          refine wpStill_go (v := .slice (some ⟨bS, oS, none⟩) k2 c2) rfl rfl (stays_run fun w' h => ex_move rfl rfl) ?_
          simp only [Act.put, List.setIfInBounds_toArray, List.set_cons_succ, List.set_cons_zero, Nat.reduceAdd]
          refine wpStill_go (v := .int .i64 k) rfl rfl (stays_run fun w' h => ex_move rfl rfl) ?_
          simp only [Act.put, List.setIfInBounds_toArray, List.set_cons_succ, List.set_cons_zero, Nat.reduceAdd]
          refine wpStill_go (v := .pointer (some ⟨bS, oS + k * 2, none⟩)) rfl rfl (stays_run fun w' h => ex_index rfl (by kernel_rfl) (by kernel_rfl) rfl rfl (hlt)) ?_
          simp only [Act.put, List.setIfInBounds_toArray, List.set_cons_succ, List.set_cons_zero, Nat.reduceAdd]
          refine wpStill_go (v := .agg #[.int .i64 z.1, .int .i64 z.2]) rfl rfl (stays_run fun w' h => ex_load rfl rfl (L2 w' h)) ?_
          simp only [Act.put, List.setIfInBounds_toArray, List.set_cons_succ, List.set_cons_zero, Nat.reduceAdd]
          refine wpStill_go (v := .bool false) rfl rfl (stays_run fun w' h => by simp [go_sem]) ?_
          simp only [Act.put, List.setIfInBounds_toArray, List.set_cons_succ, List.set_cons_zero, Nat.reduceAdd]
          refine wpStill_go (v := .bool false) rfl rfl (stays_run fun w' h => by simp [go_sem]) ?_
          simp only [Act.put, List.setIfInBounds_toArray, List.set_cons_succ, List.set_cons_zero, Nat.reduceAdd]
          refine wpStill_nil ?_
          repeat (refine wpMark_skip rfl ?_)
          refine wpMark_nil fun V hV => ?_
          have hV := (Below.refl _ _).drew.trans hV
          simp only [onlyN, Exit.then]
          have bV := BT.trans (hV.mono BT.size)
          clear rT L1 L2 hV hr2w
          go_wp2_with fail
          go_roundw
          case rel => exact ⟨k + 1, by omega, by go_num, bV⟩
          case measure => simp [intOf]; omega
        · obtain rfl : k = k2 := by omega
          have O2w := own_ext O2.out hbel
          go_wp2_with fail
          refine (gridValid_any _ c3 g _ HSL.out (Rd.of_own O2w)).mono ?_
          rintro e w5 ⟨rfl, b5⟩
          rw [Hval.out]
          go_wp2_with fail
          go_ret
          exact ⟨rfl, B4.trans ((hbel.trans (b5.mono hbel.size)).mono B4.size)⟩
  · have hnb : (1048576 : Int) < (n : Int) := by omega
    go_enter Try.func8, Try.ntmps8
    go_wp2_with fail
    go_ret
    exact ⟨rfl, Below.refl _ _⟩
end Go.Proofs.Ytfandpgjlahnpaa
