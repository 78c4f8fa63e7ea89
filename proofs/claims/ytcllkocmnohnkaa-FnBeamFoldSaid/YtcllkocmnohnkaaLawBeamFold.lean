/- FnBeamFold returns true at every input, and leaves what was there. -/
import Derived.Test.YtcllkocmnohnkaaSkyC
import Derived.Test.YtcllkocmnohnkaaLawBeam
namespace Go.Proofs.Ytcllkocmnohnkaa
open Go.RowKit

theorem beamfold_plain {c : List Bool} (hv : covV c = true) : foldR (beamL c) (beamL c) = some ((beamL c).map fun x => 16 * x) := by
  have hs : skyV ((beamL c).map fun x => 16 * x) = true := by
    refine skyV_iff.2 ⟨by rw [List.length_map, beamL_len], fun x hx => ?_⟩
    obtain ⟨y, hy, rfl⟩ := List.mem_map.1 hx
    obtain ⟨k, hk, rfl⟩ := getD_idx (d := 0) hy
    have := beam_le c k (by rw [beamL_len] at hk; exact hk)
    have := countB_bd c
    omega
  unfold foldR
  rw [beam_fold hv, if_pos ⟨by rw [skyV_beam hv]; rfl, hs⟩]

set_option maxRecDepth 100000 in
set_option maxHeartbeats 4000000 in
theorem FnBeamFold_walk (w : World) (A : Option Addr) (n cap : Nat) (bs : List Int) (hn : bs.length = n) (hm : n ≤ 9223372036854775807) (hr : Rd w w.heap.size A (bs.map (Value.int .u8))) (hw : ∀ x ∈ bs, (Lit.int .u8 x).wf = true) (hk : n ≤ cap) :
    Calls Try.prog 3 #[.slice A n cap] w fun e w' => e = .returned (.bool true) ∧ Below w.heap.size w w' := by
  have Hbs := Lib.hid (bytesOk_of hw); clear hw
  by_cases hb : n ≤ 1048576
  · have hnb : ¬ (1048576 : Int) < (n : Int) := by omega
    go_enter Try.func3, Try.ntmps3
    go_wp2_with fail
    refine (drawBeamOf_any A n cap bs w hn hm hk Hbs.out hr).mono ?_
    rintro e w1 ⟨A1, k1, c1, cs, rfl, hcs, hk1, hr1, B1⟩
    have Hcs := Lib.hid hcs; clear hcs
    clear hr hn
    go_wp2_with fail
    refine (beamOf_any A1 k1 c1 cs _ Hcs.out hr1).mono ?_
    rintro e w2 ⟨v, rfl, o2, b2⟩
    have B2 := B1.trans (b2.mono B1.size)
    have extX := (hr1.below b2).more b2.size; clear hr1; have hr1 := extX; clear extX
    obtain ⟨A2, c2, rfl⟩ := own_form o2
    have O2 := Lib.hid o2
    clear o2 b2
    go_wp2_with fail
    refine (sBeamOf_any A1 k1 c1 cs _ Hcs.out hr1).mono ?_
    rintro e w3 ⟨v, rfl, o3, b3⟩
    have B3 := B2.trans (b3.mono B2.size)
    have extX := (hr1.below b3).more b3.size; clear hr1; have hr1 := extX; clear extX
    have extX := Lib.hid (own_ext O2.out b3); clear O2; have O2 := extX; clear extX
    obtain ⟨A3, c3, rfl⟩ := own_form o3
    have O3 := Lib.hid o3
    clear o3 b3
    have hLb : (beamR cs).length ≤ 16 := by unfold beamR; split <;> simp [beamL_len]
    obtain ⟨L, hL⟩ : ∃ L, (beamR cs).length = L := ⟨_, rfl⟩
    obtain ⟨S, hS⟩ : ∃ S, beamR cs = S := ⟨_, rfl⟩
    have hSL : S.length = L := by rw [← hS]; exact hL
    have O2 := O2.out
    have O3 := O3.out
    rw [hL, hS] at O2 O3
    rw [hL] at hLb ⊢
    have hidX := Lib.hid O2; clear O2; have O2 := hidX; clear hidX
    have hidX := Lib.hid O3; clear O3; have O3 := hidX; clear hidX
    have HSL := Lib.hid hSL; clear hSL
    have HL := Lib.hid hL; clear hL
    have HS := Lib.hid hS; clear hS
    obtain ⟨ok, hok⟩ : ∃ ok, covV cs = ok := ⟨_, rfl⟩
    rw [hok]
    have hne : (ok != ok) = false := by simp
    have Hok := Lib.hid hok
    clear hok
    go_wp2_with fail
    refine (sameInts_any A2 A3 L L c2 c3 S S _ HSL.out HSL.out (by omega) (Rd.of_own O2.out) (Rd.of_own O3.out)).mono ?_
    rintro e w4 ⟨rfl, b4⟩
    have B4 := B3.trans (b4.mono B3.size)
    have extX := (hr1.below b4).more b4.size; clear hr1; have hr1 := extX; clear extX
    have extX := Lib.hid (own_ext O2.out b4); clear O2; have O2 := extX; clear extX
    have extX := Lib.hid (own_ext O3.out b4); clear O3; have O3 := extX; clear extX
    clear b4
    rw [decide_eq_true (rfl : S = S)]
    cases ok
    · go_wp2_with fail
      refine (sameInts_any A2 A3 L L c2 c3 S S _ HSL.out HSL.out (by omega) (Rd.of_own O2.out) (Rd.of_own O3.out)).mono ?_
      rintro e w5 ⟨rfl, b5⟩
      rw [decide_eq_true (rfl : S = S)]
      go_wp2_with fail
      go_ret
      exact ⟨rfl, B4.trans (b5.mono B4.size)⟩
    · have hcl := covV_len Hok.out
      obtain rfl : k1 = 16 := by rw [← Hcs.out]; exact hcl
      have hSb : S = beamL cs := by rw [← HS.out]; exact beamR_yes Hok.out
      obtain rfl : L = 16 := by rw [← HSL.out, hSb]; exact beamL_len cs
      have Hcl := Lib.hid hcl; clear hcl
      have HSb := Lib.hid hSb; clear hSb
      have hpl := beamfold_plain Hok.out
      rw [← HSb.out] at hpl
      have hml : (S.map fun x => 16 * x).length = 16 := by rw [List.length_map]; exact HSL.out
      have hmg : ∀ k, (S.map fun x => 16 * x).getD k 0 = 16 * S.getD k 0 := fun k => by
        rw [List.getD_eq_getElem?_getD, List.getElem?_map, List.getD_eq_getElem?_getD]
        cases S[k]? <;> rfl
      have hbd : ∀ k, k < 16 → -16 ≤ S.getD k 0 ∧ S.getD k 0 ≤ 16 := fun k hk => by
        rw [HSb.out]; have := beam_le cs k hk; have := countB_bd cs; omega
      obtain ⟨T, hT⟩ : ∃ T, S.map (fun x => 16 * x) = T := ⟨_, rfl⟩
      rw [hT] at hpl hml
      rw [hT] at hmg
      have Hpl := Lib.hid hpl; clear hpl
      have Hml := Lib.hid hml; clear hml
      have Hmg := Lib.hid hmg; clear hmg
      have Hbd := Lib.hid hbd; clear hbd
      have HT := Lib.hid hT; clear hT
      go_wp2_with fail
      refine (skyFold_any A2 A2 16 16 c2 c2 S S _ HSL.out HSL.out (by omega) (by omega) (Rd.of_own O2.out) (Rd.of_own O2.out)).mono ?_
      rintro e w5 ⟨v, rfl, o5, b5⟩
      rw [Hpl.out]
      rw [Hpl.out] at o5
      simp only [Option.getD_some, Option.isSome_some] at o5 ⊢
      rw [Hml.out] at o5
      obtain ⟨A5, c5, rfl⟩ := own_form o5
      have B5 := B4.trans (b5.mono B4.size)
      have extX := Lib.hid (own_ext O2.out b5); clear O2; have O2 := extX; clear extX
      have hrT := Rd.of_own o5
      have hrS := Rd.of_own O2.out
      clear o5 b5
      go_wp2_with fail
      go_loopw [10] (fun i wr => ∃ k : Nat, k ≤ 16 ∧ i = .int .i64 k ∧ Below w5.heap.size w5 wr) (fun i _ => 16 - (intOf i).toNat)
      case atStart => exact ⟨0, by omega, rfl, Below.refl _ _⟩
      case round =>
        obtain ⟨k, hk, rfl, hbel⟩ := hrel
        have hr3 := hrS.ext hbel
        have hr4 := hrT.ext hbel
        have B6 := B5.trans (hbel.mono B5.size)
        by_cases hlt : k < 16
        · have hk16 : (k : Int) < 16 := by omega
          obtain ⟨b, off, rfl, L1⟩ := ld_int hr4 (k := k) (by rw [Hml.out]; exact hlt)
          obtain ⟨b', off', rfl, L2⟩ := ld_int hr3 (k := k) (by rw [HSL.out]; exact hlt)
          rw [Hmg.out k] at L1
          have hx := Hbd.out k hlt
          generalize S.getD k 0 = x at *
          have i1 : IntKind.i64.wrap (x * 4) = x * 4 := IntWalk.i64_in _ (by omega)
          have i2 : IntKind.i64.wrap (x * 4 * 4) = 16 * x := by rw [IntWalk.i64_in _ (by omega)]; omega
          have Hbel := Lib.hid hbel
          have I1 := Lib.hid i1; clear i1
          have I2 := Lib.hid i2; clear i2
          clear hbel
          go_wp2_with fail
          refine wp_region_N [] [] (by kernel_rfl) (by kernel_rfl) ?_
          refine wpStill_go (v := .slice (some ⟨b, off, none⟩) 16 c5) rfl rfl (stays_run fun w' h => ex_move rfl rfl) ?_
          simp only [Act.put, List.setIfInBounds_toArray, List.set_cons_succ, List.set_cons_zero]
          refine wpStill_go (v := .int .i64 (16 : Nat)) rfl rfl (stays_run fun w' h => ex_len rfl (by kernel_rfl) rfl) ?_
          simp only [Act.put, List.setIfInBounds_toArray, List.set_cons_succ, List.set_cons_zero]
          refine wpStill_go (v := .slice (some ⟨b', off', none⟩) 16 c2) rfl rfl (stays_run fun w' h => ex_move rfl rfl) ?_
          simp only [Act.put, List.setIfInBounds_toArray, List.set_cons_succ, List.set_cons_zero]
          refine wpStill_go (v := .int .i64 (16 : Nat)) rfl rfl (stays_run fun w' h => ex_len rfl (by kernel_rfl) rfl) ?_
          simp only [Act.put, List.setIfInBounds_toArray, List.set_cons_succ, List.set_cons_zero]
          refine wpStill_go (v := .bool false) rfl rfl (stays_run fun w' h => by simp [go_sem]) ?_
          simp only [Act.put, List.setIfInBounds_toArray, List.set_cons_succ, List.set_cons_zero]
          refine wpStill_go (v := .bool false) rfl rfl (stays_run fun w' h => ex_move rfl rfl) ?_
          simp only [Act.put, List.setIfInBounds_toArray, List.set_cons_succ, List.set_cons_zero]
          refine wpStill_go (v := .slice (some ⟨b, off, none⟩) 16 c5) rfl rfl (stays_run fun w' h => ex_move rfl rfl) ?_
          simp only [Act.put, List.setIfInBounds_toArray, List.set_cons_succ, List.set_cons_zero]
          refine wpStill_go (v := .int .i64 k) rfl rfl (stays_run fun w' h => ex_move rfl rfl) ?_
          simp only [Act.put, List.setIfInBounds_toArray, List.set_cons_succ, List.set_cons_zero]
          refine wpStill_go (v := .pointer (some ⟨b, off + k * 1, none⟩)) rfl rfl (stays_run fun w' h => ex_index rfl (by kernel_rfl) (by kernel_rfl) rfl rfl (hlt)) ?_
          simp only [Act.put, List.setIfInBounds_toArray, List.set_cons_succ, List.set_cons_zero]
          refine wpStill_go (v := .int .i64 (16 * x)) rfl rfl (stays_run fun w' h => ex_load rfl rfl (L1 w' h)) ?_
          simp only [Act.put, List.setIfInBounds_toArray, List.set_cons_succ, List.set_cons_zero]
          refine wpStill_go (v := .slice (some ⟨b', off', none⟩) 16 c2) rfl rfl (stays_run fun w' h => ex_move rfl rfl) ?_
          simp only [Act.put, List.setIfInBounds_toArray, List.set_cons_succ, List.set_cons_zero]
          refine wpStill_go (v := .int .i64 k) rfl rfl (stays_run fun w' h => ex_move rfl rfl) ?_
          simp only [Act.put, List.setIfInBounds_toArray, List.set_cons_succ, List.set_cons_zero]
          refine wpStill_go (v := .pointer (some ⟨b', off' + k * 1, none⟩)) rfl rfl (stays_run fun w' h => ex_index rfl (by kernel_rfl) (by kernel_rfl) rfl rfl (hlt)) ?_
          simp only [Act.put, List.setIfInBounds_toArray, List.set_cons_succ, List.set_cons_zero]
          refine wpStill_go (v := .int .i64 x) rfl rfl (stays_run fun w' h => ex_load rfl rfl (L2 w' h)) ?_
          simp only [Act.put, List.setIfInBounds_toArray, List.set_cons_succ, List.set_cons_zero]
          refine wpStill_go (v := .int .i64 (x * 4)) rfl rfl (stays_run fun w' h => by simp [go_sem, I1.out]) ?_
          simp only [Act.put, List.setIfInBounds_toArray, List.set_cons_succ, List.set_cons_zero]
          refine wpStill_go (v := .int .i64 (16 * x)) rfl rfl (stays_run fun w' h => by simp [go_sem, I2.out]) ?_
          simp only [Act.put, List.setIfInBounds_toArray, List.set_cons_succ, List.set_cons_zero]
          refine wpStill_go (v := .bool false) rfl rfl (stays_run fun w' h => by simp [go_sem]) ?_
          simp only [Act.put, List.setIfInBounds_toArray, List.set_cons_succ, List.set_cons_zero]
          refine wpStill_go (v := .bool false) rfl rfl (stays_run fun w' h => by simp [go_sem]) ?_
          simp only [Act.put, List.setIfInBounds_toArray, List.set_cons_succ, List.set_cons_zero]
          refine wpStill_nil ?_
          repeat (refine wpMark_skip rfl ?_)
          refine wpMark_nil fun w11 h11 => ?_
          simp only [onlyN, Exit.then]
          have B7 := Hbel.out.trans (((Below.refl _ _).drew.trans h11).mono Hbel.out.size)
          clear L1 L2
          go_wp2_with fail
          go_roundw
          case measure => simp [intOf]; omega
          case rel => exact ⟨k + 1, by omega, by go_num, B7⟩
        · obtain rfl : k = 16 := by omega
          go_wp2_with fail
          go_ret
          exact ⟨rfl, B6⟩
  · have hnb : (1048576 : Int) < (n : Int) := by omega
    go_enter Try.func3, Try.ntmps3
    go_wp2_with fail
    go_ret
    exact ⟨rfl, Below.refl _ _⟩
end Go.Proofs.Ytcllkocmnohnkaa
