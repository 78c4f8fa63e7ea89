/- FnGridConj returns true at every input, and leaves what was there. -/
import Derived.Test.YtfandpgjlahnpaaLawGrid
import Derived.Test.YtfandpgjlahnpaaTrack
import Derived.Test.YtfandpgjlahnpaaLawBeam
namespace Go.Proofs.Ytfandpgjlahnpaa
open Go.RowKit

set_option maxRecDepth 100000 in
set_option maxHeartbeats 2000000 in
theorem FnGridConj_walk (w : World) (A : Option Addr) (n cap : Nat) (bs : List Int) (hn : bs.length = n) (hm : n ≤ 9223372036854775807) (hr : Rd w w.heap.size A (bs.map (Value.int .u8))) (hw : ∀ x ∈ bs, (Lit.int .u8 x).wf = true) (hk : n ≤ cap) :
    Calls Try.prog 7 #[.slice A n cap] w fun e w' => e = .returned (.bool true) ∧ Below w.heap.size w w' := by
  have Hbs := Lib.hid (bytesOk_of hw); clear hw
  by_cases hb : n ≤ 1048576
  · have hnb : ¬ (1048576 : Int) < (n : Int) := by omega
    go_enter Try.func7, Try.ntmps7
    go_wp2_with fail
    refine (drawObserveGrid_any A n cap bs w hn hm hk Hbs.out hr).mono ?_
    rintro e w1 ⟨A1, k1, c1, ants, A2, k2, c2, seen, rfl, ha, hk1, hkc, hr1, hs, hk2, hr2, B1⟩
    have Ha := Lib.hid ha; clear ha
    have Hs := Lib.hid hs; clear hs
    clear hr hn
    go_wp2_with fail
    refine (observeGrid_any A1 A2 k1 c1 k2 c2 ants seen _ Ha.out Hs.out hkc (by omega) (by omega) hr1 hr2).mono ?_
    rintro e w2 ⟨b2, v, rfl, o2⟩
    have B2 := B1.trans (b2.mono B1.size)
    have extX := (hr1.below b2).more b2.size; clear hr1; have hr1 := extX; clear extX
    have extX := (hr2.below b2).more b2.size; clear hr2; have hr2 := extX; clear extX
    obtain ⟨A3, c3, rfl⟩ := own_form o2
    have O2 := Lib.hid o2
    clear o2 b2
    go_wp2_with fail
    refine (sObserveGrid_all A1 A2 k1 c1 k2 c2 ants seen _ Ha.out Hs.out (by omega) (by omega) hr1 hr2).mono ?_
    rintro e w3 ⟨b3, v, rfl, o3⟩
    have B3 := B2.trans (b3.mono B2.size)
    have extX := (hr1.below b3).more b3.size; clear hr1; have hr1 := extX; clear extX
    have extX := (hr2.below b3).more b3.size; clear hr2; have hr2 := extX; clear extX
    have extX := Lib.hid (own_ext O2.out b3); clear O2; have O2 := extX; clear extX
    obtain ⟨A4, c4, rfl⟩ := own_form o3
    have O3 := Lib.hid o3
    clear o3 b3
    have hLb := gridR_len ants seen
    obtain ⟨L, hL⟩ : ∃ L, ((gridR ants seen).getD []).length = L := ⟨_, rfl⟩
    obtain ⟨S, hS⟩ : ∃ S, (gridR ants seen).getD [] = S := ⟨_, rfl⟩
    have hSL : S.length = L := by rw [← hS]; exact hL
    have O2 := O2.out
    have O3 := O3.out
    rw [hL, hS] at O2 O3
    rw [hL] at hLb ⊢
    have hidX := Lib.hid O2; clear O2; have O2 := hidX; clear hidX
    have hidX := Lib.hid O3; clear O3; have O3 := hidX; clear hidX
    have HSL := Lib.hid hSL; clear hSL
    have HL := Lib.hid hL; clear hL
    have HS := Lib.hid hS; clear hS
    obtain ⟨ok, hok⟩ : ∃ ok, (gridR ants seen).isSome = ok := ⟨_, rfl⟩
    rw [hok]
    have hne : (ok != ok) = false := by simp
    have Hok := Lib.hid hok
    clear hok
    go_wp2_with fail
    refine (sameGrid_any A3 A4 L L c3 c4 S S _ HSL.out HSL.out (by omega) (Rd.of_own O2.out) (Rd.of_own O3.out)).mono ?_
    rintro e w4 ⟨rfl, b4⟩
    have B4 := B3.trans (b4.mono B3.size)
    have extX := (hr1.below b4).more b4.size; clear hr1; have hr1 := extX; clear extX
    have extX := (hr2.below b4).more b4.size; clear hr2; have hr2 := extX; clear extX
    have extX := Lib.hid (own_ext O2.out b4); clear O2; have O2 := extX; clear extX
    have extX := Lib.hid (own_ext O3.out b4); clear O3; have O3 := extX; clear extX
    clear b4
    rw [decide_eq_true (rfl : S = S)]
    cases ok
    · go_wp2_with fail
      refine (sameGrid_any A3 A4 L L c3 c4 S S _ HSL.out HSL.out (by omega) (Rd.of_own O2.out) (Rd.of_own O3.out)).mono ?_
      rintro e w5 ⟨rfl, b5⟩
      rw [decide_eq_true (rfl : S = S)]
      go_wp2_with fail
      go_ret
      exact ⟨rfl, B4.trans (b5.mono B4.size)⟩
    · obtain ⟨g, hg⟩ := Option.isSome_iff_exists.1 Hok.out
      obtain rfl : g = S := by rw [← HS.out, hg]; rfl
      obtain ⟨hva, hvo, hgo⟩ := gridR_is hg
      rw [Ha.out] at hvo
      have han := arrV_len hva
      rw [Ha.out] at han
      obtain ⟨k0, hk0, _, _, hp2, hp21, hgv⟩ := obsV_of hvo
      obtain rfl : k1 = k0 := by omega
      rw [Hs.out] at hp2 hp21
      obtain rfl : 16 = L := by rw [← HSL.out]; exact (gridO_is hgo).1.symm
      clear hk0
      have Hva := Lib.hid hva; clear hva
      have Hvo := Lib.hid hvo; clear hvo
      have Hgo := Lib.hid hgo; clear hgo
      have Hp2 := Lib.hid hp2; clear hp2
      have Hgv := Lib.hid hgv; clear hgv
      have Hg := Lib.hid hg; clear hg
      clear hr2 hk2
      go_wp2_with fail
      refine (coverOf_yes A1 k1 c1 ants _ Ha.out hkc Hva.out hr1).mono ?_
      rintro e w5 ⟨G, rfl, hG, r5, b5⟩
      have B5 := B4.trans (b5.mono B4.size)
      have extX := Lib.hid (own_ext O2.out b5); clear O2; have O2 := extX; clear extX
      have extX := Lib.hid (own_ext O3.out b5); clear O3; have O3 := extX; clear extX
      clear hr1 b5
      have hco := covL_len ants
      have hglG := gridO_gLe (M := 1000000000) (by omega) (gv_of Hgv.out) Hgo.out
      have hrdO := Rd.of_own O2.out
      obtain ⟨bO, oO, rfl⟩ : ∃ b o, A3 = some ⟨b, o, none⟩ := by
        obtain ⟨b, o, rfl, _⟩ := rd_pair hrdO (getD_of (gs := g) (k := 0) (by rw [HSL.out]; omega))
        exact ⟨b, o, rfl⟩
      have Hco := Lib.hid hco; clear hco
      have HglG := Lib.hid hglG; clear hglG
      go_wp2_with fail
      go_loopw [11] (fun i wr => ∃ k : Nat, k ≤ 16 ∧ i = .int .i64 k ∧ Below w5.heap.size w5 wr) (fun i _ => 16 - (intOf i).toNat)
      case atStart => exact ⟨0, by omega, rfl, Below.refl _ _⟩
      case round =>
        obtain ⟨k, hk16, rfl, hbel⟩ := hrel
        by_cases hlt : k < 16
        · obtain ⟨z, hz⟩ : ∃ z, g.getD k (0, 0) = z := ⟨_, rfl⟩
          have hgz := gv_get HglG.out k
          have hcj := gridO_conj Hgo.out k hlt
          have hz0 := (gridO_is Hgo.out).2.2.2 k hlt
          rw [hz] at hgz hcj hz0
          have ho16 := oppN_lt k
          have O2w := own_ext O2.out hbel
          have r5w := r5.kept hbel
          obtain ⟨_, _, e, L1⟩ := ld_pair (Rd.of_own O2w) (k := k) (by rw [HSL.out]; exact hlt)
          cases e
          rw [hz] at L1
          have L1w := L1 wr (Below.refl _ _)
          have hg? := getD_of (gs := g) (k := k) (by rw [HSL.out]; exact hlt)
          rw [hz] at hg?
          obtain ⟨_, _, e, _, d0, d1⟩ := rd_pair (Rd.of_own O2w) hg?
          cases e
          have Hcj := Lib.hid hcj
          have Hz0 := Lib.hid hz0
          have Hz := Lib.hid hz
          have O2W := Lib.hid O2w
          clear hz hg? L1 L1w hcj hz0 O2w
          go_wp2_with fail
          refine (iGaussConj_yes z.1 z.2 _ hgz).mono ?_
          rintro e w6 ⟨rfl, b6⟩
          go_wp2_with fail
          have BT : Below w5.heap.size w5 (w6.alloc (.cells #[.int .i64 z.1, .int .i64 (-z.2)] 31)) := (hbel.trans (b6.mono hbel.size)).alloc (Nat.le_trans hbel.size b6.size) _
          have ET : Below wr.heap.size wr (w6.alloc (.cells #[.int .i64 z.1, .int .i64 (-z.2)] 31)) := b6.alloc b6.size _
          have rT := Row.new w6 31 [.int .i64 z.1, .int .i64 (-z.2)]
          have O2T := own_ext O2W.out ET
          have r5T := r5w.kept ET
          obtain ⟨T, hT⟩ : ∃ T, w6.alloc (.cells #[.int .i64 z.1, .int .i64 (-z.2)] 31) = T := ⟨_, rfl⟩
          obtain ⟨H, hH⟩ : ∃ H, w6.heap.size = H := ⟨_, rfl⟩
          rw [hT] at BT rT O2T r5T ⊢
          rw [hH] at rT ⊢
          obtain ⟨_, _, e, Lz⟩ := ld_pair (Rd.of_own O2T) (k := k) (by rw [HSL.out]; exact hlt)
          cases e
          obtain ⟨_, _, e, Lo⟩ := ld_pair (Rd.of_own O2T) (k := oppN k) (by rw [HSL.out]; exact ho16)
          cases e
          rw [Hz.out] at Lz
          rw [Hcj.out] at Lo
          obtain ⟨m, hm⟩ : ∃ m, (covL ants).getD k false = m := ⟨_, rfl⟩
          have pk := bools_get (cs := covL ants) (k := k) (by rw [Hco.out]; exact hlt)
          rw [hm] at pk
          have LK : ∀ w', Below T.heap.size T w' → w'.cell? ⟨G, 0 + k * 1, none⟩ = some (.bool m) := fun w' h => by rw [Nat.zero_add, Nat.mul_one]; exact ((r5T.kept h).cell k).trans pk
          have j1 : IntKind.i64.wrap (-((k : Int) % 4)) = -((k : Int) % 4) := IntWalk.i64_in _ (by omega)
          have j2 : IntKind.i64.wrap (-((k : Int) / 4)) = -((k : Int) / 4) := IntWalk.i64_in _ (by omega)
          have j3 : (k : Int).tmod 4 = (k : Int) % 4 := Int.tmod_eq_emod_of_nonneg (by omega)
          have j4 : IntKind.i64.wrap ((k : Int) / 4) = (k : Int) / 4 := IntWalk.i64_in _ (by omega)
          have J1 := Lib.hid j1; clear j1
          have J2 := Lib.hid j2; clear j2
          have J3 := Lib.hid j3; clear j3
          have J4 := Lib.hid j4; clear j4
          have hidX := Lib.hid O2T; clear O2T; have O2T := hidX; clear hidX
          have R5T := Lib.hid r5T; clear r5T
          clear b6 ET d0 d1 pk hT hH r5w hgz
          cases m
          · rw [Hz0.out hm] at Lz
            have Hm := Lib.hid hm; clear hm
            refine wp_region_N [] [] (by kernel_rfl) (by kernel_rfl) ?_
            refine wpStill_go (v := .bool true) rfl rfl (stays_run fun w' h => ex_move rfl rfl) ?_
            simp only [Act.put, List.setIfInBounds_toArray, List.set_cons_succ, List.set_cons_zero, Nat.reduceAdd]
            refine wpStill_go (v := .bool false) rfl rfl (stays_run fun w' h => by simp [go_sem]) ?_
            simp only [Act.put, List.setIfInBounds_toArray, List.set_cons_succ, List.set_cons_zero, Nat.reduceAdd]
            refine wpStill_go (v := .bool false) rfl rfl (stays_run fun w' h => ex_move rfl rfl) ?_
            simp only [Act.put, List.setIfInBounds_toArray, List.set_cons_succ, List.set_cons_zero, Nat.reduceAdd]
            refine wpStill_go (v := .slice (some ⟨bO, oO, none⟩) 16 c3) rfl rfl (stays_run fun w' h => ex_move rfl rfl) ?_
            simp only [Act.put, List.setIfInBounds_toArray, List.set_cons_succ, List.set_cons_zero, Nat.reduceAdd]
            refine wpStill_go (v := .int .i64 k) rfl rfl (stays_run fun w' h => ex_move rfl rfl) ?_
            simp only [Act.put, List.setIfInBounds_toArray, List.set_cons_succ, List.set_cons_zero, Nat.reduceAdd]
            refine wpStill_go (v := .int .i64 ((k : Int) % 4)) rfl rfl (stays_run fun w' h => by simp [go_sem, J3.out]) ?_
            simp only [Act.put, List.setIfInBounds_toArray, List.set_cons_succ, List.set_cons_zero, Nat.reduceAdd]
            refine wpStill_go (v := .int .i64 (-((k : Int) % 4))) rfl rfl (stays_run fun w' h => by simp [go_sem, J1.out]) ?_
            simp only [Act.put, List.setIfInBounds_toArray, List.set_cons_succ, List.set_cons_zero, Nat.reduceAdd]
            refine wpStill_go (v := .int .i64 k) rfl rfl (stays_run fun w' h => ex_move rfl rfl) ?_
            simp only [Act.put, List.setIfInBounds_toArray, List.set_cons_succ, List.set_cons_zero, Nat.reduceAdd]
            refine wpStill_go (v := .int .i64 ((k : Int) / 4)) rfl rfl (stays_run fun w' h => by simp [go_sem, J4.out]) ?_
            simp only [Act.put, List.setIfInBounds_toArray, List.set_cons_succ, List.set_cons_zero, Nat.reduceAdd]
            refine wpStill_go (v := .int .i64 (-((k : Int) / 4))) rfl rfl (stays_run fun w' h => by simp [go_sem, J2.out]) ?_
            simp only [Act.put, List.setIfInBounds_toArray, List.set_cons_succ, List.set_cons_zero, Nat.reduceAdd]
            refine wpStill_go (v := .int .i64 (oppN k : Nat)) rfl rfl (stays_call (f := 50) (args := #[.int .i64 (-((k : Int) % 4)), .int .i64 (-((k : Int) / 4))]) (fun w' h => by simp [go_sem]) (fun w' _ => by rw [← conj_cell k hlt]; exact (lCellAt_any _ _ w').mono fun e w'' ⟨h, h2⟩ => ⟨h, h2 ▸ Below.refl _ _⟩)) ?_
            simp only [Act.put, List.setIfInBounds_toArray, List.set_cons_succ, List.set_cons_zero, Nat.reduceAdd]
            refine wpStill_go (v := .pointer (some ⟨bO, oO + oppN k * 2, none⟩)) rfl rfl (stays_run fun w' h => ex_index rfl (by kernel_rfl) (by kernel_rfl) rfl rfl (ho16)) ?_
            simp only [Act.put, List.setIfInBounds_toArray, List.set_cons_succ, List.set_cons_zero, Nat.reduceAdd]
            refine wpStill_go (v := .agg #[.int .i64 z.1, .int .i64 (-z.2)]) rfl rfl (stays_run fun w' h => ex_load rfl rfl (Lo w' h)) ?_
            simp only [Act.put, List.setIfInBounds_toArray, List.set_cons_succ, List.set_cons_zero, Nat.reduceAdd]
            refine wpStill_go (v := .agg #[.int .i64 z.1, .int .i64 (-z.2)]) rfl rfl (stays_run fun w' h => ex_load rfl rfl (ld_two (by kernel_rfl) (by kernel_rfl) ((rT.kept ‹_›).cell 0) ((rT.kept ‹_›).cell 1))) ?_
            simp only [Act.put, List.setIfInBounds_toArray, List.set_cons_succ, List.set_cons_zero, Nat.reduceAdd]
            refine wpStill_go (v := .bool false) rfl rfl (stays_run fun w' h => by simp [go_sem]) ?_
            simp only [Act.put, List.setIfInBounds_toArray, List.set_cons_succ, List.set_cons_zero, Nat.reduceAdd]
            refine wpStill_go (v := .bool false) rfl rfl (stays_run fun w' h => by simp [go_sem]) ?_
            simp only [Act.put, List.setIfInBounds_toArray, List.set_cons_succ, List.set_cons_zero, Nat.reduceAdd]
            refine wpStill_go (v := .bool false) rfl rfl (stays_run fun w' h => ex_move rfl rfl) ?_
            simp only [Act.put, List.setIfInBounds_toArray, List.set_cons_succ, List.set_cons_zero, Nat.reduceAdd]
            refine wpStill_go (v := .slice (some ⟨G, 0, none⟩) 16 16) rfl rfl (stays_run fun w' h => ex_move rfl rfl) ?_
            simp only [Act.put, List.setIfInBounds_toArray, List.set_cons_succ, List.set_cons_zero, Nat.reduceAdd]
            refine wpStill_go (v := .int .i64 16) rfl rfl (stays_run fun w' h => ex_len rfl (by kernel_rfl) rfl) ?_
            simp only [Act.put, List.setIfInBounds_toArray, List.set_cons_succ, List.set_cons_zero, Nat.reduceAdd]
            refine wpStill_go (v := .slice (some ⟨bO, oO, none⟩) 16 c3) rfl rfl (stays_run fun w' h => ex_move rfl rfl) ?_
            simp only [Act.put, List.setIfInBounds_toArray, List.set_cons_succ, List.set_cons_zero, Nat.reduceAdd]
            refine wpStill_go (v := .int .i64 16) rfl rfl (stays_run fun w' h => ex_len rfl (by kernel_rfl) rfl) ?_
            simp only [Act.put, List.setIfInBounds_toArray, List.set_cons_succ, List.set_cons_zero, Nat.reduceAdd]
            refine wpStill_go (v := .bool false) rfl rfl (stays_run fun w' h => by simp [go_sem]) ?_
            simp only [Act.put, List.setIfInBounds_toArray, List.set_cons_succ, List.set_cons_zero, Nat.reduceAdd]
            refine wpStill_go (v := .bool false) rfl rfl (stays_run fun w' h => by simp [go_sem]) ?_
            simp only [Act.put, List.setIfInBounds_toArray, List.set_cons_succ, List.set_cons_zero, Nat.reduceAdd]
            refine wpStill_go (v := .bool false) rfl rfl (stays_run fun w' h => ex_move rfl rfl) ?_
            simp only [Act.put, List.setIfInBounds_toArray, List.set_cons_succ, List.set_cons_zero, Nat.reduceAdd]
            refine wpStill_go (v := .slice (some ⟨G, 0, none⟩) 16 16) rfl rfl (stays_run fun w' h => ex_move rfl rfl) ?_
            simp only [Act.put, List.setIfInBounds_toArray, List.set_cons_succ, List.set_cons_zero, Nat.reduceAdd]
            refine wpStill_go (v := .int .i64 k) rfl rfl (stays_run fun w' h => ex_move rfl rfl) ?_
            simp only [Act.put, List.setIfInBounds_toArray, List.set_cons_succ, List.set_cons_zero, Nat.reduceAdd]
            refine wpStill_go (v := .pointer (some ⟨G, 0 + k * 1, none⟩)) rfl rfl (stays_run fun w' h => ex_index rfl (by kernel_rfl) (by kernel_rfl) rfl rfl (hlt)) ?_
            simp only [Act.put, List.setIfInBounds_toArray, List.set_cons_succ, List.set_cons_zero, Nat.reduceAdd]
            refine wpStill_go (v := .bool false) rfl rfl (stays_run fun w' h => ex_load rfl rfl (ld_one (by kernel_rfl) (LK w' h))) ?_
            simp only [Act.put, List.setIfInBounds_toArray, List.set_cons_succ, List.set_cons_zero, Nat.reduceAdd]
            refine wpStill_go (v := .bool true) rfl rfl (stays_run fun w' h => by simp [go_sem]) ?_
            simp only [Act.put, List.setIfInBounds_toArray, List.set_cons_succ, List.set_cons_zero, Nat.reduceAdd]
            refine wpStill_go (v := .bool true) rfl rfl (stays_run fun w' h => ex_move rfl rfl) ?_
            simp only [Act.put, List.setIfInBounds_toArray, List.set_cons_succ, List.set_cons_zero, Nat.reduceAdd]
            refine wpStill_go (v := .slice (some ⟨bO, oO, none⟩) 16 c3) rfl rfl (stays_run fun w' h => ex_move rfl rfl) ?_
            simp only [Act.put, List.setIfInBounds_toArray, List.set_cons_succ, List.set_cons_zero, Nat.reduceAdd]
            refine wpStill_go (v := .int .i64 k) rfl rfl (stays_run fun w' h => ex_move rfl rfl) ?_
            simp only [Act.put, List.setIfInBounds_toArray, List.set_cons_succ, List.set_cons_zero, Nat.reduceAdd]
            refine wpStill_go (v := .pointer (some ⟨bO, oO + k * 2, none⟩)) rfl rfl (stays_run fun w' h => ex_index rfl (by kernel_rfl) (by kernel_rfl) rfl rfl (hlt)) ?_
            simp only [Act.put, List.setIfInBounds_toArray, List.set_cons_succ, List.set_cons_zero, Nat.reduceAdd]
            refine wpStill_go (v := .agg #[.int .i64 0, .int .i64 0]) rfl rfl (stays_run fun w' h => ex_load rfl rfl (Lz w' h)) ?_
            simp only [Act.put, List.setIfInBounds_toArray, List.set_cons_succ, List.set_cons_zero, Nat.reduceAdd]
            refine wpStill_go (v := .agg #[.int .i64 0, .int .i64 0]) rfl rfl (stays_call (f := 19) (args := #[.int .i64 0, .int .i64 0]) (fun w' h => by simp [go_sem]) (fun w' _ => lGauss_any 0 0 w')) ?_
            simp only [Act.put, List.setIfInBounds_toArray, List.set_cons_succ, List.set_cons_zero, Nat.reduceAdd]
            refine wpStill_go (v := .bool false) rfl rfl (stays_run fun w' h => by simp [go_sem]) ?_
            simp only [Act.put, List.setIfInBounds_toArray, List.set_cons_succ, List.set_cons_zero, Nat.reduceAdd]
            refine wpStill_go (v := .bool false) rfl rfl (stays_run fun w' h => by simp [go_sem]) ?_
            simp only [Act.put, List.setIfInBounds_toArray, List.set_cons_succ, List.set_cons_zero, Nat.reduceAdd]
            refine wpStill_go (v := .bool false) rfl rfl (stays_run fun w' h => by simp [go_sem]) ?_
            simp only [Act.put, List.setIfInBounds_toArray, List.set_cons_succ, List.set_cons_zero, Nat.reduceAdd]
            refine wpStill_nil ?_
            repeat (refine wpMark_skip rfl ?_)
            refine wpMark_nil fun V hV => ?_
            have hV := (Below.refl _ _).drew.trans hV
            simp only [onlyN, Exit.then]
            have bV := BT.trans (hV.mono BT.size)
            clear rT Lo Lz LK hV
            go_wp2_with fail
            go_roundw
            case rel => exact ⟨k + 1, by omega, by go_num, bV⟩
            case measure => simp [intOf]; omega
          · have Hm := Lib.hid hm; clear hm
            refine wp_region_N [] [] (by kernel_rfl) (by kernel_rfl) ?_
            refine wpStill_go (v := .bool true) rfl rfl (stays_run fun w' h => ex_move rfl rfl) ?_
            simp only [Act.put, List.setIfInBounds_toArray, List.set_cons_succ, List.set_cons_zero, Nat.reduceAdd]
            refine wpStill_go (v := .bool false) rfl rfl (stays_run fun w' h => by simp [go_sem]) ?_
            simp only [Act.put, List.setIfInBounds_toArray, List.set_cons_succ, List.set_cons_zero, Nat.reduceAdd]
            refine wpStill_go (v := .bool false) rfl rfl (stays_run fun w' h => ex_move rfl rfl) ?_
            simp only [Act.put, List.setIfInBounds_toArray, List.set_cons_succ, List.set_cons_zero, Nat.reduceAdd]
            refine wpStill_go (v := .slice (some ⟨bO, oO, none⟩) 16 c3) rfl rfl (stays_run fun w' h => ex_move rfl rfl) ?_
            simp only [Act.put, List.setIfInBounds_toArray, List.set_cons_succ, List.set_cons_zero, Nat.reduceAdd]
            refine wpStill_go (v := .int .i64 k) rfl rfl (stays_run fun w' h => ex_move rfl rfl) ?_
            simp only [Act.put, List.setIfInBounds_toArray, List.set_cons_succ, List.set_cons_zero, Nat.reduceAdd]
            refine wpStill_go (v := .int .i64 ((k : Int) % 4)) rfl rfl (stays_run fun w' h => by simp [go_sem, J3.out]) ?_
            simp only [Act.put, List.setIfInBounds_toArray, List.set_cons_succ, List.set_cons_zero, Nat.reduceAdd]
            refine wpStill_go (v := .int .i64 (-((k : Int) % 4))) rfl rfl (stays_run fun w' h => by simp [go_sem, J1.out]) ?_
            simp only [Act.put, List.setIfInBounds_toArray, List.set_cons_succ, List.set_cons_zero, Nat.reduceAdd]
            refine wpStill_go (v := .int .i64 k) rfl rfl (stays_run fun w' h => ex_move rfl rfl) ?_
            simp only [Act.put, List.setIfInBounds_toArray, List.set_cons_succ, List.set_cons_zero, Nat.reduceAdd]
            refine wpStill_go (v := .int .i64 ((k : Int) / 4)) rfl rfl (stays_run fun w' h => by simp [go_sem, J4.out]) ?_
            simp only [Act.put, List.setIfInBounds_toArray, List.set_cons_succ, List.set_cons_zero, Nat.reduceAdd]
            refine wpStill_go (v := .int .i64 (-((k : Int) / 4))) rfl rfl (stays_run fun w' h => by simp [go_sem, J2.out]) ?_
            simp only [Act.put, List.setIfInBounds_toArray, List.set_cons_succ, List.set_cons_zero, Nat.reduceAdd]
            refine wpStill_go (v := .int .i64 (oppN k : Nat)) rfl rfl (stays_call (f := 50) (args := #[.int .i64 (-((k : Int) % 4)), .int .i64 (-((k : Int) / 4))]) (fun w' h => by simp [go_sem]) (fun w' _ => by rw [← conj_cell k hlt]; exact (lCellAt_any _ _ w').mono fun e w'' ⟨h, h2⟩ => ⟨h, h2 ▸ Below.refl _ _⟩)) ?_
            simp only [Act.put, List.setIfInBounds_toArray, List.set_cons_succ, List.set_cons_zero, Nat.reduceAdd]
            refine wpStill_go (v := .pointer (some ⟨bO, oO + oppN k * 2, none⟩)) rfl rfl (stays_run fun w' h => ex_index rfl (by kernel_rfl) (by kernel_rfl) rfl rfl (ho16)) ?_
            simp only [Act.put, List.setIfInBounds_toArray, List.set_cons_succ, List.set_cons_zero, Nat.reduceAdd]
            refine wpStill_go (v := .agg #[.int .i64 z.1, .int .i64 (-z.2)]) rfl rfl (stays_run fun w' h => ex_load rfl rfl (Lo w' h)) ?_
            simp only [Act.put, List.setIfInBounds_toArray, List.set_cons_succ, List.set_cons_zero, Nat.reduceAdd]
            refine wpStill_go (v := .agg #[.int .i64 z.1, .int .i64 (-z.2)]) rfl rfl (stays_run fun w' h => ex_load rfl rfl (ld_two (by kernel_rfl) (by kernel_rfl) ((rT.kept ‹_›).cell 0) ((rT.kept ‹_›).cell 1))) ?_
            simp only [Act.put, List.setIfInBounds_toArray, List.set_cons_succ, List.set_cons_zero, Nat.reduceAdd]
            refine wpStill_go (v := .bool false) rfl rfl (stays_run fun w' h => by simp [go_sem]) ?_
            simp only [Act.put, List.setIfInBounds_toArray, List.set_cons_succ, List.set_cons_zero, Nat.reduceAdd]
            refine wpStill_go (v := .bool false) rfl rfl (stays_run fun w' h => by simp [go_sem]) ?_
            simp only [Act.put, List.setIfInBounds_toArray, List.set_cons_succ, List.set_cons_zero, Nat.reduceAdd]
            refine wpStill_go (v := .bool false) rfl rfl (stays_run fun w' h => ex_move rfl rfl) ?_
            simp only [Act.put, List.setIfInBounds_toArray, List.set_cons_succ, List.set_cons_zero, Nat.reduceAdd]
            refine wpStill_go (v := .slice (some ⟨G, 0, none⟩) 16 16) rfl rfl (stays_run fun w' h => ex_move rfl rfl) ?_
            simp only [Act.put, List.setIfInBounds_toArray, List.set_cons_succ, List.set_cons_zero, Nat.reduceAdd]
            refine wpStill_go (v := .int .i64 16) rfl rfl (stays_run fun w' h => ex_len rfl (by kernel_rfl) rfl) ?_
            simp only [Act.put, List.setIfInBounds_toArray, List.set_cons_succ, List.set_cons_zero, Nat.reduceAdd]
            refine wpStill_go (v := .slice (some ⟨bO, oO, none⟩) 16 c3) rfl rfl (stays_run fun w' h => ex_move rfl rfl) ?_
            simp only [Act.put, List.setIfInBounds_toArray, List.set_cons_succ, List.set_cons_zero, Nat.reduceAdd]
            refine wpStill_go (v := .int .i64 16) rfl rfl (stays_run fun w' h => ex_len rfl (by kernel_rfl) rfl) ?_
            simp only [Act.put, List.setIfInBounds_toArray, List.set_cons_succ, List.set_cons_zero, Nat.reduceAdd]
            refine wpStill_go (v := .bool false) rfl rfl (stays_run fun w' h => by simp [go_sem]) ?_
            simp only [Act.put, List.setIfInBounds_toArray, List.set_cons_succ, List.set_cons_zero, Nat.reduceAdd]
            refine wpStill_go (v := .bool false) rfl rfl (stays_run fun w' h => by simp [go_sem]) ?_
            simp only [Act.put, List.setIfInBounds_toArray, List.set_cons_succ, List.set_cons_zero, Nat.reduceAdd]
            refine wpStill_go (v := .bool false) rfl rfl (stays_run fun w' h => ex_move rfl rfl) ?_
            simp only [Act.put, List.setIfInBounds_toArray, List.set_cons_succ, List.set_cons_zero, Nat.reduceAdd]
            refine wpStill_go (v := .slice (some ⟨G, 0, none⟩) 16 16) rfl rfl (stays_run fun w' h => ex_move rfl rfl) ?_
            simp only [Act.put, List.setIfInBounds_toArray, List.set_cons_succ, List.set_cons_zero, Nat.reduceAdd]
            refine wpStill_go (v := .int .i64 k) rfl rfl (stays_run fun w' h => ex_move rfl rfl) ?_
            simp only [Act.put, List.setIfInBounds_toArray, List.set_cons_succ, List.set_cons_zero, Nat.reduceAdd]
            refine wpStill_go (v := .pointer (some ⟨G, 0 + k * 1, none⟩)) rfl rfl (stays_run fun w' h => ex_index rfl (by kernel_rfl) (by kernel_rfl) rfl rfl (hlt)) ?_
            simp only [Act.put, List.setIfInBounds_toArray, List.set_cons_succ, List.set_cons_zero, Nat.reduceAdd]
            refine wpStill_go (v := .bool true) rfl rfl (stays_run fun w' h => ex_load rfl rfl (ld_one (by kernel_rfl) (LK w' h))) ?_
            simp only [Act.put, List.setIfInBounds_toArray, List.set_cons_succ, List.set_cons_zero, Nat.reduceAdd]
            refine wpStill_go (v := .bool false) rfl rfl (stays_run fun w' h => by simp [go_sem]) ?_
            simp only [Act.put, List.setIfInBounds_toArray, List.set_cons_succ, List.set_cons_zero, Nat.reduceAdd]
            refine wpStill_go (v := .bool false) rfl rfl (stays_run fun w' h => ex_move rfl rfl) ?_
            simp only [Act.put, List.setIfInBounds_toArray, List.set_cons_succ, List.set_cons_zero, Nat.reduceAdd]
            refine wpStill_off rfl (by kernel_rfl) ?_
            simp only [Act.put, List.setIfInBounds_toArray, List.set_cons_succ, List.set_cons_zero, Nat.reduceAdd]
            refine wpStill_off rfl (by kernel_rfl) ?_
            simp only [Act.put, List.setIfInBounds_toArray, List.set_cons_succ, List.set_cons_zero, Nat.reduceAdd]
            refine wpStill_off rfl (by kernel_rfl) ?_
            simp only [Act.put, List.setIfInBounds_toArray, List.set_cons_succ, List.set_cons_zero, Nat.reduceAdd]
            refine wpStill_off rfl (by kernel_rfl) ?_
            simp only [Act.put, List.setIfInBounds_toArray, List.set_cons_succ, List.set_cons_zero, Nat.reduceAdd]
            refine wpStill_off rfl (by kernel_rfl) ?_
            simp only [Act.put, List.setIfInBounds_toArray, List.set_cons_succ, List.set_cons_zero, Nat.reduceAdd]
            refine wpStill_off rfl (by kernel_rfl) ?_
            simp only [Act.put, List.setIfInBounds_toArray, List.set_cons_succ, List.set_cons_zero, Nat.reduceAdd]
            refine wpStill_go (v := .bool false) rfl rfl (stays_run fun w' h => by simp [go_sem]) ?_
            simp only [Act.put, List.setIfInBounds_toArray, List.set_cons_succ, List.set_cons_zero, Nat.reduceAdd]
            refine wpStill_go (v := .bool false) rfl rfl (stays_run fun w' h => by simp [go_sem]) ?_
            simp only [Act.put, List.setIfInBounds_toArray, List.set_cons_succ, List.set_cons_zero, Nat.reduceAdd]
            refine wpStill_nil ?_
            repeat (refine wpMark_skip rfl ?_)
            refine wpMark_nil fun V hV => ?_
            have hV := (Below.refl _ _).drew.trans hV
            simp only [onlyN, Exit.then]
            have bV := BT.trans (hV.mono BT.size)
            clear rT Lo Lz LK hV
            go_wp2_with fail
            go_roundw
            case rel => exact ⟨k + 1, by omega, by go_num, bV⟩
            case measure => simp [intOf]; omega
        · obtain rfl : k = 16 := by omega
          go_wp2_with fail
          go_ret
          exact ⟨rfl, B5.trans (hbel.mono B5.size)⟩
  · have hnb : (1048576 : Int) < (n : Int) := by omega
    go_enter Try.func7, Try.ntmps7
    go_wp2_with fail
    go_ret
    exact ⟨rfl, Below.refl _ _⟩
end Go.Proofs.Ytfandpgjlahnpaa
