/- FnBeam returns true at every input, and leaves what was there. -/
import Derived.Test.YtklhjofhmcaflaaBeamS
import Derived.Test.YtklhjofhmcaflaaLawSolveTurnOnly
namespace Go.Proofs.Ytklhjofhmcaflaa
open Go.RowKit

theorem drawBeamOf_any (A : Option Addr) (n cap : Nat) (bs : List Int) (w : World) (hn : bs.length = n) (hm : n ≤ 9223372036854775807) (hc : n ≤ cap) (hb : BytesOk bs) (hr : Rd w w.heap.size A (bs.map (Value.int .u8))) :
    Calls Try.prog 40 #[.slice A n cap] w fun e w' =>
      ∃ (A : Option Addr) (k c : Nat) (cs : List Bool), e = .returned (.slice A k c) ∧ cs.length = k ∧ k ≤ 16 ∧ Rd w' w'.heap.size A (cs.map Value.bool) ∧ Below w.heap.size w w' := by
  go_enter Try.func40, Try.ntmps40
  go_wp2_with fail
  refine (l6Open_any A n cap bs w hn hm hc hr).mono ?_
  rintro e w1 ⟨rfl, hR, hb1⟩
  have hrd := isRd_open hn hb hr hR hb1
  clear hR
  go_wp2_with fail
  refine (l92Cover_any _ 0 _ (by omega) hrd).mono ?_
  rintro e w2 ⟨A2, k, c, cs, p', rfl, hcs, hk, hr2, hp, hrd2, g2⟩
  have B2 : Below w.heap.size w w2 := hb1.grown g2 hb1.size fun j e => by cases e; exact Nat.le_refl _
  go_wp2_with fail
  go_ret
  exact ⟨A2, k, c, cs, rfl, hcs, hk, hr2, B2⟩

theorem lCellAt_any (x y : Int) (w : World) :
    Calls Try.prog 45 #[.int .i64 x, .int .i64 y] w fun e w' => e = .returned (.int .i64 (cellI x y)) ∧ w = w' := by
  go_enter Try.func45, Try.ntmps45
  go_wp2_with (go_at_call 47; refine (lrest4_any _ _).mono ?_; rintro e w' ⟨rfl, rfl⟩)
  go_ret
  exact ⟨rfl, rfl⟩

set_option maxRecDepth 100000 in
set_option maxHeartbeats 4000000 in
theorem FnBeam_walk (w : World) (A : Option Addr) (n cap : Nat) (bs : List Int) (hn : bs.length = n) (hm : n ≤ 9223372036854775807) (hr : Rd w w.heap.size A (bs.map (Value.int .u8))) (hw : ∀ x ∈ bs, (Lit.int .u8 x).wf = true) (hk : n ≤ cap) :
    Calls Try.prog 12 #[.slice A n cap] w fun e w' => e = .returned (.bool true) ∧ Below w.heap.size w w' := by
  have Hbs := Lib.hid (bytesOk_of hw); clear hw
  by_cases hb : n ≤ 1048576
  · have hnb : ¬ (1048576 : Int) < (n : Int) := by omega
    go_enter Try.func12, Try.ntmps12
    go_wp2_with fail
    refine (drawBeamOf_any A n cap bs w hn hm hk Hbs.out hr).mono ?_
    rintro e w1 ⟨A1, k1, c1, cs, rfl, hcs, hk1, hr1, B1⟩
    have Hcs := Lib.hid hcs; clear hcs
    clear hr hn
    go_wp2_with fail
    refine (beamOf_any A1 k1 c1 cs _ Hcs.out hr1).mono ?_
    rintro e w2 ⟨v, rfl, o2, b2⟩
    have B2 := B1.trans (b2.mono B1.size)
    have extX := (hr1.below b2).more b2.size; clear hr1; have hr1 := extX; clear extX
    obtain ⟨A2, c2, rfl⟩ := own_form o2
    have O2 := Lib.hid o2
    clear o2 b2
    go_wp2_with fail
    refine (sBeamOf_any A1 k1 c1 cs _ Hcs.out hr1).mono ?_
    rintro e w3 ⟨v, rfl, o3, b3⟩
    have B3 := B2.trans (b3.mono B2.size)
    have extX := (hr1.below b3).more b3.size; clear hr1; have hr1 := extX; clear extX
    have extX := Lib.hid (own_ext O2.out b3); clear O2; have O2 := extX; clear extX
    obtain ⟨A3, c3, rfl⟩ := own_form o3
    have O3 := Lib.hid o3
    clear o3 b3
    have hLb : (beamR cs).length ≤ 16 := by unfold beamR; split <;> simp [beamL_len]
    obtain ⟨L, hL⟩ : ∃ L, (beamR cs).length = L := ⟨_, rfl⟩
    obtain ⟨S, hS⟩ : ∃ S, beamR cs = S := ⟨_, rfl⟩
    have hSL : S.length = L := by rw [← hS]; exact hL
    have O2 := O2.out
    have O3 := O3.out
    rw [hL, hS] at O2 O3
    rw [hL] at hLb ⊢
    have hidX := Lib.hid O2; clear O2; have O2 := hidX; clear hidX
    have hidX := Lib.hid O3; clear O3; have O3 := hidX; clear hidX
    have HSL := Lib.hid hSL; clear hSL
    have HL := Lib.hid hL; clear hL
    have HS := Lib.hid hS; clear hS
    obtain ⟨ok, hok⟩ : ∃ ok, covV cs = ok := ⟨_, rfl⟩
    rw [hok]
    have hne : (ok != ok) = false := by simp
    have Hok := Lib.hid hok
    clear hok
    go_wp2_with fail
    refine (sameInts_any A2 A3 L L c2 c3 S S _ HSL.out HSL.out (by omega) (Rd.of_own O2.out) (Rd.of_own O3.out)).mono ?_
    rintro e w4 ⟨rfl, b4⟩
    have B4 := B3.trans (b4.mono B3.size)
    have extX := (hr1.below b4).more b4.size; clear hr1; have hr1 := extX; clear extX
    have extX := Lib.hid (own_ext O2.out b4); clear O2; have O2 := extX; clear extX
    have extX := Lib.hid (own_ext O3.out b4); clear O3; have O3 := extX; clear extX
    clear b4
    rw [decide_eq_true (rfl : S = S)]
    cases ok
    · go_wp2_with fail
      refine (sameInts_any A2 A3 L L c2 c3 S S _ HSL.out HSL.out (by omega) (Rd.of_own O2.out) (Rd.of_own O3.out)).mono ?_
      rintro e w5 ⟨rfl, b5⟩
      rw [decide_eq_true (rfl : S = S)]
      go_wp2_with fail
      go_ret
      exact ⟨rfl, B4.trans (b5.mono B4.size)⟩
    · have hcl := covV_len Hok.out
      obtain rfl : k1 = 16 := by rw [← Hcs.out]; exact hcl
      have hSb : S = beamL cs := by rw [← HS.out]; exact beamR_yes Hok.out
      obtain rfl : L = 16 := by rw [← HSL.out, hSb]; exact beamL_len cs
      have Hcl := Lib.hid hcl; clear hcl
      have HSb := Lib.hid hSb; clear hSb
      go_wp2_with fail
      refine (coverMany_any A1 16 c1 cs _ Hok.out Hcs.out hr1).mono ?_
      rintro e w5 ⟨rfl, rfl⟩
      have hr2 := Rd.of_own O2.out
      have h0 : S.getD 0 0 = countB cs := by rw [HSb.out]; exact beam_0 cs
      have hle : ∀ k, k < 16 → -(countB cs) ≤ S.getD k 0 ∧ S.getD k 0 ≤ countB cs := fun k hk => by rw [HSb.out]; exact beam_le cs k hk
      have hop : ∀ k, k < 16 → S.getD (oppN k) 0 = S.getD k 0 := fun k hk => by rw [HSb.out]; exact beam_opp cs k hk
      have hcb : 0 ≤ countB cs ∧ countB cs ≤ 16 := countN_bd cs 16
      generalize countB cs = M at *
      have H0 := Lib.hid h0; clear h0
      have Hle := Lib.hid hle; clear hle
      have Hop := Lib.hid hop; clear hop
      go_wp2_with fail
      go_loopw [9] (fun i wr => ∃ k : Nat, k ≤ 16 ∧ i = .int .i64 k ∧ Below w4.heap.size w4 wr) (fun i _ => 16 - (intOf i).toNat)
      case atStart => exact ⟨0, by omega, rfl, Below.refl _ _⟩
      case round =>
        obtain ⟨k, hk, rfl, hbel⟩ := hrel
        have hr3 := hr2.ext hbel
        have B5 := B4.trans (hbel.mono B4.size)
        by_cases hlt : k < 16
        · have Hbel := Lib.hid hbel
          clear hbel
          obtain ⟨b, off, rfl, L1⟩ := ld_int hr3 (k := k) (by rw [HSL.out]; exact hlt)
          obtain ⟨_, _, e2, L2⟩ := ld_int hr3 (k := oppN k) (by rw [HSL.out]; exact oppN_lt k)
          cases e2
          rw [Hop.out k hlt] at L2
          have hx := Hle.out k hlt
          have ho := oppN_lt k
          have hoi := oppI_nat k hlt
          unfold oppI at hoi
          have hi1 : ((k : Int)).tmod 4 = (k : Int) % 4 := Int.tmod_eq_emod_of_nonneg (by omega)
          have hi2 : IntKind.i64.wrap ((k : Int).tdiv 4) = (k : Int) / 4 := by rw [Int.tdiv_eq_ediv_of_nonneg (by omega)]; exact IntWalk.i64_in _ (by omega)
          have hi6 : IntKind.i64.wrap ((k : Int) / 4) = (k : Int) / 4 := IntWalk.i64_in _ (by omega)
          have hi3 : IntKind.i64.wrap (-((k : Int) % 4)) = -((k : Int) % 4) := IntWalk.i64_in _ (by omega)
          have hi4 : IntKind.i64.wrap (-((k : Int) / 4)) = -((k : Int) / 4) := IntWalk.i64_in _ (by omega)
          generalize S.getD k 0 = x at *
          have hi5 : IntKind.i64.wrap (-x) = -x := IntWalk.i64_in _ (by omega)
          generalize oppN k = o at *
          have Hi6 := Lib.hid hi6; clear hi6
          have Hoi := Lib.hid hoi; clear hoi
          have Hi1 := Lib.hid hi1; clear hi1
          have Hi2 := Lib.hid hi2; clear hi2
          have Hi3 := Lib.hid hi3; clear hi3
          have Hi4 := Lib.hid hi4; clear hi4
          have Hi5 := Lib.hid hi5; clear hi5
          go_wp2_with fail
          refine wp_region_N [] [] (by kernel_rfl) (by kernel_rfl) ?_
          refine wpStill_go (v := .slice (some ⟨b, off, none⟩) 16 c2) rfl rfl (stays_run fun w' h => ex_move rfl rfl) ?_
          simp only [Act.put, List.setIfInBounds_toArray, List.set_cons_succ, List.set_cons_zero]
          refine wpStill_go (v := .int .i64 k) rfl rfl (stays_run fun w' h => ex_move rfl rfl) ?_
          simp only [Act.put, List.setIfInBounds_toArray, List.set_cons_succ, List.set_cons_zero]
          refine wpStill_go (v := .pointer (some ⟨b, off + k * 1, none⟩)) rfl rfl (stays_run fun w' h => ex_index rfl (by kernel_rfl) (by kernel_rfl) rfl rfl (hlt)) ?_
          simp only [Act.put, List.setIfInBounds_toArray, List.set_cons_succ, List.set_cons_zero]
          refine wpStill_go (v := .int .i64 x) rfl rfl (stays_run fun w' h => ex_load rfl rfl (L1 w' h)) ?_
          simp only [Act.put, List.setIfInBounds_toArray, List.set_cons_succ, List.set_cons_zero]
          refine wpStill_go (v := .slice (some ⟨b, off, none⟩) 16 c2) rfl rfl (stays_run fun w' h => ex_move rfl rfl) ?_
          simp only [Act.put, List.setIfInBounds_toArray, List.set_cons_succ, List.set_cons_zero]
          refine wpStill_go (v := .int .i64 k) rfl rfl (stays_run fun w' h => ex_move rfl rfl) ?_
          simp only [Act.put, List.setIfInBounds_toArray, List.set_cons_succ, List.set_cons_zero]
          refine wpStill_go (v := .pointer (some ⟨b, off + k * 1, none⟩)) rfl rfl (stays_run fun w' h => ex_index rfl (by kernel_rfl) (by kernel_rfl) rfl rfl (hlt)) ?_
          simp only [Act.put, List.setIfInBounds_toArray, List.set_cons_succ, List.set_cons_zero]
          refine wpStill_go (v := .int .i64 x) rfl rfl (stays_run fun w' h => ex_load rfl rfl (L1 w' h)) ?_
          simp only [Act.put, List.setIfInBounds_toArray, List.set_cons_succ, List.set_cons_zero]
          refine wpStill_go (v := .int .i64 (-x)) rfl rfl (stays_run fun w' h => by simp [go_sem, Hi5.out]) ?_
          simp only [Act.put, List.setIfInBounds_toArray, List.set_cons_succ, List.set_cons_zero]
          refine wpStill_go (v := .int .i64 (max x (-x))) rfl rfl (stays_run fun w' h => by simp [go_sem]) ?_
          simp only [Act.put, List.setIfInBounds_toArray, List.set_cons_succ, List.set_cons_zero]
          refine wpStill_go (v := .int .i64 M) rfl rfl (stays_run fun w' h => ex_move rfl rfl) ?_
          simp only [Act.put, List.setIfInBounds_toArray, List.set_cons_succ, List.set_cons_zero]
          refine wpStill_go (v := .bool false) rfl rfl (stays_run fun w' h => by simp [go_sem]; omega) ?_
          simp only [Act.put, List.setIfInBounds_toArray, List.set_cons_succ, List.set_cons_zero]
          refine wpStill_go (v := .bool false) rfl rfl (stays_run fun w' h => ex_move rfl rfl) ?_
          simp only [Act.put, List.setIfInBounds_toArray, List.set_cons_succ, List.set_cons_zero]
          refine wpStill_go (v := .slice (some ⟨b, off, none⟩) 16 c2) rfl rfl (stays_run fun w' h => ex_move rfl rfl) ?_
          simp only [Act.put, List.setIfInBounds_toArray, List.set_cons_succ, List.set_cons_zero]
          refine wpStill_go (v := .int .i64 k) rfl rfl (stays_run fun w' h => ex_move rfl rfl) ?_
          simp only [Act.put, List.setIfInBounds_toArray, List.set_cons_succ, List.set_cons_zero]
          refine wpStill_go (v := .pointer (some ⟨b, off + k * 1, none⟩)) rfl rfl (stays_run fun w' h => ex_index rfl (by kernel_rfl) (by kernel_rfl) rfl rfl (hlt)) ?_
          simp only [Act.put, List.setIfInBounds_toArray, List.set_cons_succ, List.set_cons_zero]
          refine wpStill_go (v := .int .i64 x) rfl rfl (stays_run fun w' h => ex_load rfl rfl (L1 w' h)) ?_
          simp only [Act.put, List.setIfInBounds_toArray, List.set_cons_succ, List.set_cons_zero]
          refine wpStill_go (v := .slice (some ⟨b, off, none⟩) 16 c2) rfl rfl (stays_run fun w' h => ex_move rfl rfl) ?_
          simp only [Act.put, List.setIfInBounds_toArray, List.set_cons_succ, List.set_cons_zero]
          refine wpStill_go (v := .int .i64 k) rfl rfl (stays_run fun w' h => ex_move rfl rfl) ?_
          simp only [Act.put, List.setIfInBounds_toArray, List.set_cons_succ, List.set_cons_zero]
          refine wpStill_go (v := .int .i64 ((k : Int) % 4)) rfl rfl (stays_run fun w' h => by simp [go_sem, Hi1.out]) ?_
          simp only [Act.put, List.setIfInBounds_toArray, List.set_cons_succ, List.set_cons_zero]
          refine wpStill_go (v := .int .i64 (-((k : Int) % 4))) rfl rfl (stays_run fun w' h => by simp [go_sem, Hi3.out]) ?_
          simp only [Act.put, List.setIfInBounds_toArray, List.set_cons_succ, List.set_cons_zero]
          refine wpStill_go (v := .int .i64 k) rfl rfl (stays_run fun w' h => ex_move rfl rfl) ?_
          simp only [Act.put, List.setIfInBounds_toArray, List.set_cons_succ, List.set_cons_zero]
          refine wpStill_go (v := .int .i64 ((k : Int) / 4)) rfl rfl (stays_run fun w' h => by simp [go_sem, Hi6.out]) ?_
          simp only [Act.put, List.setIfInBounds_toArray, List.set_cons_succ, List.set_cons_zero]
          refine wpStill_go (v := .int .i64 (-((k : Int) / 4))) rfl rfl (stays_run fun w' h => by simp [go_sem, Hi4.out]) ?_
          simp only [Act.put, List.setIfInBounds_toArray, List.set_cons_succ, List.set_cons_zero]
          refine wpStill_go (v := .int .i64 o) rfl rfl (stays_call (f := 45) (args := #[.int .i64 (-((k : Int) % 4)), .int .i64 (-((k : Int) / 4))]) (fun w' h => by simp [go_sem]) (fun w' _ => by rw [← Hoi.out]; exact calls_below (lCellAt_any _ _ w'))) ?_
          simp only [Act.put, List.setIfInBounds_toArray, List.set_cons_succ, List.set_cons_zero]
          refine wpStill_go (v := .pointer (some ⟨b, off + o * 1, none⟩)) rfl rfl (stays_run fun w' h => ex_index rfl (by kernel_rfl) (by kernel_rfl) rfl rfl (ho)) ?_
          simp only [Act.put, List.setIfInBounds_toArray, List.set_cons_succ, List.set_cons_zero]
          refine wpStill_go (v := .int .i64 x) rfl rfl (stays_run fun w' h => ex_load rfl rfl (L2 w' h)) ?_
          simp only [Act.put, List.setIfInBounds_toArray, List.set_cons_succ, List.set_cons_zero]
          refine wpStill_go (v := .bool false) rfl rfl (stays_run fun w' h => by simp [go_sem]) ?_
          simp only [Act.put, List.setIfInBounds_toArray, List.set_cons_succ, List.set_cons_zero]
          refine wpStill_go (v := .bool false) rfl rfl (stays_run fun w' h => by simp [go_sem]) ?_
          simp only [Act.put, List.setIfInBounds_toArray, List.set_cons_succ, List.set_cons_zero]
          refine wpStill_nil ?_
          repeat (refine wpMark_skip rfl ?_)
          refine wpMark_nil fun w11 h11 => ?_
          simp only [onlyN, Exit.then]
          have B6 := Hbel.out.trans (((Below.refl _ _).drew.trans h11).mono Hbel.out.size)
          clear L1 L2
          go_wp2_with fail
          go_roundw
          case measure => simp [intOf]; omega
          case rel => exact ⟨k + 1, by omega, by go_num, B6⟩
        · obtain rfl : k = 16 := by omega
          obtain ⟨b, off, rfl, hb2, hc⟩ := hr3 0 _ (ints_get (by rw [HSL.out]; omega))
          rw [H0.out] at hc
          simp only [Nat.add_zero] at hc
          go_wp2_with fail
          go_ret
          exact ⟨rfl, B5⟩
  · have hnb : (1048576 : Int) < (n : Int) := by omega
    go_enter Try.func12, Try.ntmps12
    go_wp2_with fail
    go_ret
    exact ⟨rfl, Below.refl _ _⟩
end Go.Proofs.Ytklhjofhmcaflaa
