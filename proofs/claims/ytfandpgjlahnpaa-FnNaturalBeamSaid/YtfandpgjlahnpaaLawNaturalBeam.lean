/- FnNaturalBeam returns true at every input, and leaves what was there. -/
import Derived.Test.YtfandpgjlahnpaaNatS
import Derived.Test.YtfandpgjlahnpaaDrawA
namespace Go.Proofs.Ytfandpgjlahnpaa
open Go.RowKit

theorem drawWeightNatural_any (A : Option Addr) (n cap : Nat) (bs : List Int) (w : World) (hn : bs.length = n) (hm : n ≤ 9223372036854775807) (hc : n ≤ cap) (hb : BytesOk bs) (hr : Rd w w.heap.size A (bs.map (Value.int .u8))) :
    Calls Try.prog 14 #[.slice A n cap] w fun e w' =>
      ∃ (A1 : Option Addr) (k1 c1 : Nat) (ants : List (Int × Int)), e = .returned (.slice A1 k1 c1) ∧ ants.length = k1 ∧ k1 ≤ 7 ∧ k1 ≤ c1 ∧ Rd w' w'.heap.size A1 (ants.flatMap pairCells) ∧ Below w.heap.size w w' := by
  go_enter Try.func14, Try.ntmps14
  go_wp2_with fail
  refine (l6Open_any A n cap bs w hn hm hc hr).mono ?_
  rintro e w1 ⟨rfl, hR, hb1⟩
  have hrd := isRd_open hn hb hr hR hb1
  clear hR
  go_wp2_with fail
  refine (l91Array_any _ 0 _ (by omega) hrd).mono ?_
  rintro e w2 ⟨A1, k1, c1, ants, p', rfl, hs, hk1, hkc, hr1, hp1, hrd2, g2⟩
  have B2 : Below w.heap.size w w2 := hb1.grown g2 hb1.size fun j e => by cases e; exact Nat.le_refl _
  go_wp2_with fail
  go_ret
  exact ⟨A1, k1, c1, ants, rfl, hs, hk1, hkc, hr1, B2⟩

theorem sq_le (x m : Int) (h1 : -m ≤ x) (h2 : x ≤ m) : 0 ≤ x * x ∧ x * x ≤ m * m := by
  rcases Int.le_total 0 x with h | h
  · exact ⟨Int.mul_nonneg h h, Int.mul_le_mul h2 h2 h (by omega)⟩
  · have := Int.mul_le_mul (show -x ≤ m by omega) (show -x ≤ m by omega) (by omega) (by omega)
    have h3 := Int.mul_nonneg (show 0 ≤ -x by omega) (show 0 ≤ -x by omega)
    rw [Int.neg_mul_neg] at this h3
    exact ⟨h3, this⟩
theorem antE_bd {ants : List (Int × Int)} (h : gLe 1000 ants) (k i : Nat) (hk : k < 16) : ((k : Int) % 4) * (ants.getD i (0, 0)).1 + ((k : Int) / 4) * (ants.getD i (0, 0)).2 = antE ants k i ∧
    (-3000 ≤ ((k : Int) % 4) * (ants.getD i (0, 0)).1 ∧ ((k : Int) % 4) * (ants.getD i (0, 0)).1 ≤ 3000) ∧ (-3000 ≤ ((k : Int) / 4) * (ants.getD i (0, 0)).2 ∧ ((k : Int) / 4) * (ants.getD i (0, 0)).2 ≤ 3000) := by
  have hb := gLe_get h (by omega) i
  generalize ha : ants.getD i (0, 0) = a at *
  refine ⟨by unfold antE; rw [ha]; rfl, ?_, ?_⟩
  · have h4 : (k : Int) % 4 = 0 ∨ (k : Int) % 4 = 1 ∨ (k : Int) % 4 = 2 ∨ (k : Int) % 4 = 3 := by omega
    rcases h4 with e | e | e | e <;> rw [e] <;> omega
  · have h4 : (k : Int) / 4 = 0 ∨ (k : Int) / 4 = 1 ∨ (k : Int) / 4 = 2 ∨ (k : Int) / 4 = 3 := by omega
    rcases h4 with e | e | e | e <;> rw [e] <;> omega
set_option maxRecDepth 100000 in
set_option maxHeartbeats 2000000 in
theorem FnNaturalBeam_walk (w : World) (A : Option Addr) (n cap : Nat) (bs : List Int) (hn : bs.length = n) (hm : n ≤ 9223372036854775807) (hr : Rd w w.heap.size A (bs.map (Value.int .u8))) (hw : ∀ x ∈ bs, (Lit.int .u8 x).wf = true) (hk : n ≤ cap) :
    Calls Try.prog 3 #[.slice A n cap] w fun e w' => e = .returned (.bool true) ∧ Below w.heap.size w w' := by
  have Hbs := Lib.hid (bytesOk_of hw); clear hw
  by_cases hb : n ≤ 1048576
  · have hnb : ¬ (1048576 : Int) < (n : Int) := by omega
    go_enter Try.func3, Try.ntmps3
    go_wp2_with fail
    refine (drawWeightNatural_any A n cap bs w hn hm hk Hbs.out hr).mono ?_
    rintro e w1 ⟨A1, k1, c1, ants, rfl, ha, hk1, hkc, hr1, B1⟩
    have Ha := Lib.hid ha; clear ha
    clear hr hn
    go_wp2_with fail
    refine (weightNatural_any A1 k1 c1 ants _ Ha.out hkc (by omega) hr1).mono ?_
    rintro e w2 ⟨v, rfl, o2, b2⟩
    have B2 := B1.trans (b2.mono B1.size)
    have extX := (hr1.below b2).more b2.size; clear hr1; have hr1 := extX; clear extX
    obtain ⟨A2, c2, rfl⟩ := own_form o2
    have O2 := Lib.hid o2
    clear o2 b2
    go_wp2_with fail
    refine (sWeightNatural_any A1 k1 c1 ants _ Ha.out (by omega) hr1).mono ?_
    rintro e w3 ⟨v, rfl, o3, b3⟩
    have B3 := B2.trans (b3.mono B2.size)
    have extX := (hr1.below b3).more b3.size; clear hr1; have hr1 := extX; clear extX
    have extX := Lib.hid (own_ext O2.out b3); clear O2; have O2 := extX; clear extX
    obtain ⟨A3, c3, rfl⟩ := own_form o3
    have O3 := Lib.hid o3
    clear o3 b3
    have hLb : (natR ants).length ≤ 16 := by unfold natR; split <;> simp [natL_len]
    obtain ⟨L, hL⟩ : ∃ L, (natR ants).length = L := ⟨_, rfl⟩
    obtain ⟨S, hS⟩ : ∃ S, natR ants = S := ⟨_, rfl⟩
    have hSL : S.length = L := by rw [← hS]; exact hL
    have O2 := O2.out
    have O3 := O3.out
    rw [hL, hS] at O2 O3
    rw [hL] at hLb ⊢
    have hidX := Lib.hid O2; clear O2; have O2 := hidX; clear hidX
    have hidX := Lib.hid O3; clear O3; have O3 := hidX; clear hidX
    have HSL := Lib.hid hSL; clear hSL
    have HL := Lib.hid hL; clear hL
    have HS := Lib.hid hS; clear hS
    obtain ⟨ok, hok⟩ : ∃ ok, arrV ants = ok := ⟨_, rfl⟩
    rw [hok]
    have hne : (ok != ok) = false := by simp
    have Hok := Lib.hid hok
    clear hok
    go_wp2_with fail
    refine (sameInts_any A2 A3 L L c2 c3 S S _ HSL.out HSL.out (by omega) (Rd.of_own O2.out) (Rd.of_own O3.out)).mono ?_
    rintro e w4 ⟨rfl, b4⟩
    have B4 := B3.trans (b4.mono B3.size)
    have extX := (hr1.below b4).more b4.size; clear hr1; have hr1 := extX; clear extX
    have extX := Lib.hid (own_ext O2.out b4); clear O2; have O2 := extX; clear extX
    have extX := Lib.hid (own_ext O3.out b4); clear O3; have O3 := extX; clear extX
    clear b4
    rw [decide_eq_true (rfl : S = S)]
    cases ok
    · go_wp2_with fail
      refine (sameInts_any A2 A3 L L c2 c3 S S _ HSL.out HSL.out (by omega) (Rd.of_own O2.out) (Rd.of_own O3.out)).mono ?_
      rintro e w5 ⟨rfl, b5⟩
      rw [decide_eq_true (rfl : S = S)]
      go_wp2_with fail
      go_ret
      exact ⟨rfl, B4.trans (b5.mono B4.size)⟩
    · have han := arrV_len Hok.out
      have hgl := arrV_gLe Hok.out
      have hSn : S = natL ants := by rw [← HS.out]; exact natR_yes Hok.out
      obtain rfl : 16 = L := by rw [← HSL.out, hSn]; exact (natL_len ants).symm
      have hnorm := nat_norm ants han.1 han.2
      rw [Ha.out] at han hnorm
      have hwv : wtV S = true := by rw [hSn]; exact wtV_nat ants (by rw [Ha.out]; exact pairs21 k1 han.1 han.2)
      rw [← hSn] at hnorm
      obtain ⟨bS, oS, rfl⟩ : ∃ b o, A1 = some ⟨b, o, none⟩ := by
        obtain ⟨b, o, rfl, _⟩ := rd_pair hr1 (getD_of (gs := ants) (k := 0) (by rw [Ha.out]; omega))
        exact ⟨b, o, rfl⟩
      have Hgl := Lib.hid hgl; clear hgl
      have HSn := Lib.hid hSn; clear hSn
      have Hnorm := Lib.hid hnorm; clear hnorm
      have Hwv := Lib.hid hwv; clear hwv
      go_wp2_with fail
      refine (weightBeam_yes A2 c2 S _ Hwv.out (Rd.of_own O2.out)).mono ?_
      rintro e w5 ⟨v, rfl, o5, b5⟩
      have B5 := B4.trans (b5.mono B4.size)
      have extX := (hr1.below b5).more b5.size; clear hr1; have hr1 := extX; clear extX
      obtain ⟨A5, c5, rfl⟩ := own_form o5
      obtain ⟨T, hT⟩ : ∃ T, wbeam S = T := ⟨_, rfl⟩
      have hTl : T.length = 16 := by rw [← hT]; exact wbeam_len S
      rw [hT] at o5
      have Hnorm := Hnorm.out
      rw [hT] at Hnorm
      obtain ⟨bT, oT, rfl, _⟩ := ld_int (Rd.of_own o5) (k := 0) (by rw [hTl]; omega)
      have O5 := Lib.hid o5
      have HNorm := Lib.hid Hnorm
      clear Hnorm o5 b5
      have HT := Lib.hid hT; clear hT
      have HTl := Lib.hid hTl; clear hTl
      go_wp2_with fail
      go_loopw [10] (fun p wr => ∃ k : Nat, k ≤ 16 ∧ p = .int .i64 k ∧ Below w5.heap.size w5 wr) (fun p _ => 16 - (intOf p).toNat)
      case atStart => exact ⟨0, by omega, rfl, Below.refl _ _⟩
      case round =>
        obtain ⟨k, hk16, rfl, hbel⟩ := hrel
        by_cases hlt : k < 16
        · go_wp2_with fail
          refine (lGauss_any 0 0 _).mono ?_
          rintro e w6 ⟨rfl, b6⟩
          have B6 := hbel.trans (b6.mono hbel.size)
          go_wp2_with fail
          have rH := Row.new w6 31 [.int .i64 0, .int .i64 0]
          have B7 := B6.alloc B6.size (.cells #[.int .i64 0, .int .i64 0] 31)
          have hH5 : w5.heap.size ≤ w6.heap.size := B6.size
          obtain ⟨W7, hW7⟩ : ∃ W7, w6.alloc (.cells #[.int .i64 0, .int .i64 0] 31) = W7 := ⟨_, rfl⟩
          obtain ⟨H, hH⟩ : ∃ H, w6.heap.size = H := ⟨_, rfl⟩
          rw [hW7] at rH B7 ⊢
          rw [hH] at rH hH5 ⊢
          clear hW7 hH b6 hbel B6
          have i1 : ((k : Int)).tmod 4 = (k : Int) % 4 := Int.tmod_eq_emod_of_nonneg (by omega)
          have i2 : IntKind.i64.wrap ((k : Int) / 4) = (k : Int) / 4 := IntWalk.i64_in _ (by omega)
          have I1 := Lib.hid i1; clear i1
          have I2 := Lib.hid i2; clear i2
          go_loopw [12] (fun p wr => ∃ i : Nat, i ≤ k1 ∧ p = .int .i64 i ∧ Row wr H 31 [.int .i64 (natS ants k i).1, .int .i64 (natS ants k i).2] ∧ Below w5.heap.size w5 wr) (fun p _ => k1 - (intOf p).toNat)
          case atStart => exact ⟨0, by omega, rfl, rH, B7⟩
          case round =>
            clear rH B7
            obtain ⟨i, hi, rfl, rH, hbel⟩ := hrel
            by_cases hlti : i < k1
            · have hrw := hr1.ext hbel
              obtain ⟨_, _, e, hbw, d0, d1⟩ := rd_pair hrw (getD_of (gs := ants) (k := i) (by rw [Ha.out]; exact hlti))
              cases e
              obtain ⟨hE, hE1, hE2⟩ := antE_bd Hgl.out k i hlt
              have hu := unit_bd (antE ants k i)
              unfold GB at hu
              have hs := natS_bd ants k i
              have hsucc := natS_succ ants k i
              generalize ants.getD i (0, 0) = a at *
              obtain ⟨p1, hp1⟩ : ∃ p1, (k : Int) % 4 * a.1 = p1 := ⟨_, rfl⟩
              obtain ⟨p2, hp2⟩ : ∃ p2, (k : Int) / 4 * a.2 = p2 := ⟨_, rfl⟩
              obtain ⟨E, hEE⟩ : ∃ E, antE ants k i = E := ⟨_, rfl⟩
              rw [hp1, hp2, hEE] at hE
              rw [hp1] at hE1
              rw [hp2] at hE2
              rw [hEE] at hu hsucc
              have HU := Lib.hid (fun w' => gaussUnit_any E w')
              generalize unit E = u at *
              generalize natS ants k i = s at *
              have j1 : IntKind.i64.wrap p1 = p1 := IntWalk.i64_in _ (by omega)
              have j2 : IntKind.i64.wrap p2 = p2 := IntWalk.i64_in _ (by omega)
              have j3 : IntKind.i64.wrap (p1 + p2) = E := by rw [hE]; exact IntWalk.i64_in _ (by omega)
              have D0 : ∀ w', Below wr.heap.size wr w' → w'.cell? ⟨bS, oS + i * 2, none⟩ = some (.int .i64 a.1) := fun w' h => (bcl h hbw _).trans d0
              have D1 : ∀ w', Below wr.heap.size wr w' → w'.cell? ⟨bS, oS + i * 2 + 1, none⟩ = some (.int .i64 a.2) := fun w' h => (bcl h hbw _).trans d1
              have HH := rH.lt
              have ns := hbel.size
              have Hp1 := Lib.hid hp1; clear hp1
              have Hp2 := Lib.hid hp2; clear hp2
              have HEE := Lib.hid hEE; clear hEE
              have HE := Lib.hid hE; clear hE
              have Hsucc := Lib.hid hsucc; clear hsucc
              have J1 := Lib.hid j1; clear j1
              have J2 := Lib.hid j2; clear j2
              have J3 := Lib.hid j3; clear j3
              clear hrw d0 d1
              go_wp2_with fail
              refine wp_region_N [18, 19] [] (by kernel_rfl) (by kernel_rfl) ?_
              refine wpStill_go (v := .int .i64 k) rfl rfl (stays_run fun w' h => ex_move rfl rfl) ?_
              simp only [Act.put, List.setIfInBounds_toArray, List.set_cons_succ, List.set_cons_zero, Nat.reduceAdd]
              refine wpStill_go (v := .int .i64 ((k : Int) % 4)) rfl rfl (stays_run fun w' h => by simp [go_sem, I1.out]) ?_
              simp only [Act.put, List.setIfInBounds_toArray, List.set_cons_succ, List.set_cons_zero, Nat.reduceAdd]
              refine wpStill_go (v := .slice (some ⟨bS, oS, none⟩) k1 c1) rfl rfl (stays_run fun w' h => ex_move rfl rfl) ?_
              simp only [Act.put, List.setIfInBounds_toArray, List.set_cons_succ, List.set_cons_zero, Nat.reduceAdd]
              refine wpStill_go (v := .int .i64 i) rfl rfl (stays_run fun w' h => ex_move rfl rfl) ?_
              simp only [Act.put, List.setIfInBounds_toArray, List.set_cons_succ, List.set_cons_zero, Nat.reduceAdd]
              refine wpStill_go (v := .pointer (some ⟨bS, oS + i * 2, none⟩)) rfl rfl (stays_run fun w' h => ex_index rfl (by kernel_rfl) (by kernel_rfl) rfl rfl (hlti)) ?_
              simp only [Act.put, List.setIfInBounds_toArray, List.set_cons_succ, List.set_cons_zero, Nat.reduceAdd]
              refine wpStill_go (v := .pointer (some ⟨bS, oS + i * 2, none⟩)) rfl rfl (stays_run fun w' h => by simp [go_sem]) ?_
              simp only [Act.put, List.setIfInBounds_toArray, List.set_cons_succ, List.set_cons_zero, Nat.reduceAdd]
              refine wpStill_go (v := .int .i64 a.1) rfl rfl (stays_run fun w' h => ex_load rfl rfl (ld_one (by kernel_rfl) (D0 w' h))) ?_
              simp only [Act.put, List.setIfInBounds_toArray, List.set_cons_succ, List.set_cons_zero, Nat.reduceAdd]
              refine wpStill_go (v := .int .i64 p1) rfl rfl (stays_run fun w' h => by simp [go_sem, Hp1.out, J1.out]) ?_
              simp only [Act.put, List.setIfInBounds_toArray, List.set_cons_succ, List.set_cons_zero, Nat.reduceAdd]
              refine wpStill_go (v := .int .i64 k) rfl rfl (stays_run fun w' h => ex_move rfl rfl) ?_
              simp only [Act.put, List.setIfInBounds_toArray, List.set_cons_succ, List.set_cons_zero, Nat.reduceAdd]
              refine wpStill_go (v := .int .i64 ((k : Int) / 4)) rfl rfl (stays_run fun w' h => by simp [go_sem, I2.out]) ?_
              simp only [Act.put, List.setIfInBounds_toArray, List.set_cons_succ, List.set_cons_zero, Nat.reduceAdd]
              refine wpStill_go (v := .slice (some ⟨bS, oS, none⟩) k1 c1) rfl rfl (stays_run fun w' h => ex_move rfl rfl) ?_
              simp only [Act.put, List.setIfInBounds_toArray, List.set_cons_succ, List.set_cons_zero, Nat.reduceAdd]
              refine wpStill_go (v := .int .i64 i) rfl rfl (stays_run fun w' h => ex_move rfl rfl) ?_
              simp only [Act.put, List.setIfInBounds_toArray, List.set_cons_succ, List.set_cons_zero, Nat.reduceAdd]
              refine wpStill_go (v := .pointer (some ⟨bS, oS + i * 2, none⟩)) rfl rfl (stays_run fun w' h => ex_index rfl (by kernel_rfl) (by kernel_rfl) rfl rfl (hlti)) ?_
              simp only [Act.put, List.setIfInBounds_toArray, List.set_cons_succ, List.set_cons_zero, Nat.reduceAdd]
              refine wpStill_go (v := .pointer (some ⟨bS, oS + i * 2 + 1, none⟩)) rfl rfl (stays_run fun w' h => by simp [go_sem]) ?_
              simp only [Act.put, List.setIfInBounds_toArray, List.set_cons_succ, List.set_cons_zero, Nat.reduceAdd]
              refine wpStill_go (v := .int .i64 a.2) rfl rfl (stays_run fun w' h => ex_load rfl rfl (ld_one (by kernel_rfl) (D1 w' h))) ?_
              simp only [Act.put, List.setIfInBounds_toArray, List.set_cons_succ, List.set_cons_zero, Nat.reduceAdd]
              refine wpStill_go (v := .int .i64 p2) rfl rfl (stays_run fun w' h => by simp [go_sem, Hp2.out, J2.out]) ?_
              simp only [Act.put, List.setIfInBounds_toArray, List.set_cons_succ, List.set_cons_zero, Nat.reduceAdd]
              refine wpStill_go (v := .int .i64 E) rfl rfl (stays_run fun w' h => by simp [go_sem, J3.out]) ?_
              simp only [Act.put, List.setIfInBounds_toArray, List.set_cons_succ, List.set_cons_zero, Nat.reduceAdd]
              refine wpStill_go (v := .agg #[.int .i64 u.1, .int .i64 u.2]) rfl rfl (stays_call (f := 20) (args := #[.int .i64 E]) (fun w' h => by simp [go_sem]) (fun w' _ => HU.out w')) ?_
              simp only [Act.put, List.setIfInBounds_toArray, List.set_cons_succ, List.set_cons_zero, Nat.reduceAdd]
              refine wpStill_skip rfl (wpStill_skip rfl (wpStill_nil ?_))
              repeat (refine wpMark_skip rfl ?_)
              refine wpMark_go rfl (fun m1 hm1 K hK => ?_)
              have F1 := (Below.refl wr.heap.size wr).drew.trans hm1
              go_wp2_with fail
              have F1a := F1.alloc F1.size (.cells #[.int .i64 0, .int .i64 0] 31)
              refine hK _ _ (fun _ => F1a) ?_
              have rU := Row.new m1 31 [.int .i64 0, .int .i64 0]
              have hHm : H < m1.heap.size := (rH.kept F1).lt
              have hUw := F1.size
              obtain ⟨U, hU⟩ : ∃ U, m1.heap.size = U := ⟨_, rfl⟩
              obtain ⟨V1, hV1⟩ : ∃ V1, m1.alloc (.cells #[.int .i64 0, .int .i64 0] 31) = V1 := ⟨_, rfl⟩
              rw [hV1] at rU F1a ⊢
              rw [hU] at rU hHm hUw ⊢
              clear hK hU hV1 F1 hm1
              refine wpMark_go rfl (fun m2 hm2 K hK => ?_)
              have rU2 := rU.kept hm2
              have F2 := F1a.trans (hm2.mono F1a.size)
              obtain ⟨q0, q1, q2, q3⟩ := rU2.two
              go_wp2_with fail
              have F3 := (F2.setCell (p := ⟨U, 0, none⟩) hUw (.int .i64 u.1)).setCell (p := ⟨U, 1, none⟩) hUw (.int .i64 u.2)
              have rU3 := (rU2.set_ 0 (.int .i64 u.1)).set_ 1 (.int .i64 u.2)
              simp only [List.set_cons_zero, List.set_cons_succ] at rU3
              refine hK _ _ (fun _ => F3) (wpMark_nil fun V hV => ?_)
              simp only [onlyN, Exit.then]
              have rU4 := rU3.kept hV
              have F4 := F3.trans (hV.mono F3.size)
              have rH4 := rH.kept F4
              have hbel4 := hbel.trans (F4.mono ns)
              have k1' : IntKind.i64.wrap (s.1 + u.1) = s.1 + u.1 := IntWalk.i64_in _ (by omega)
              have k2' : IntKind.i64.wrap (s.2 + u.2) = s.2 + u.2 := IntWalk.i64_in _ (by omega)
              obtain ⟨h0, h1, _, _⟩ := rH4.two
              obtain ⟨u0, u1, _, _⟩ := rU4.two
              clear hK q0 q1 q2 q3 rU2 rU3 rU4 rU F1a F2 F3 F4 hV hm2 D0 D1 rH
              have K1' := Lib.hid k1'; clear k1'
              have K2' := Lib.hid k2'; clear k2'
              go_wp2_with fail
              refine (lGauss_any _ _ _).mono ?_
              rintro e w9 ⟨rfl, b9⟩
              have rH9 := rH4.kept b9
              have B9 := hbel4.trans (b9.mono hbel4.size)
              obtain ⟨g0, g1, g2, g3⟩ := rH9.two
              have rH10 := (rH9.set_ 0 (.int .i64 (s.1 + u.1))).set_ 1 (.int .i64 (s.2 + u.2))
              have B10 := (B9.setCell (p := ⟨H, 0, none⟩) hH5 (.int .i64 (s.1 + u.1))).setCell (p := ⟨H, 1, none⟩) hH5 (.int .i64 (s.2 + u.2))
              simp only [List.set_cons_zero, List.set_cons_succ] at rH10
              have RH := Lib.hid rH10
              clear h0 h1 u0 u1 rH10 rH9 rH4 hbel4 b9
              go_wp2_with fail
              go_roundw
              case rel => exact ⟨i + 1, by omega, by go_num, by rw [Hsucc.out]; exact RH.out, B10⟩
              case measure => simp [intOf]; omega
            · obtain rfl : i = k1 := by omega
              have hs := natS_bd ants k i
              have hnm := HNorm.out k hlt
              generalize natS ants k i = s at *
              have hgn : gNorm s.1 s.2 = s.1 * s.1 + s.2 * s.2 := by
                unfold gNorm
                rw [if_pos (gv_iff.2 (by omega))]
              rw [← hgn] at hnm
              have rT := own_ext O5.out hbel
              obtain ⟨_, _, e, LT⟩ := ld_int (Rd.of_own rT) (k := k) (by rw [HTl.out]; exact hlt)
              cases e
              obtain ⟨y, hy⟩ : ∃ y, T.getD k 0 = y := ⟨_, rfl⟩
              rw [hy] at LT hnm
              have j5 : IntKind.i64.wrap (y + i) = gNorm s.1 s.2 := by
                rw [hnm, hgn]
                refine IntWalk.i64_in _ ?_
                have h1 := sq_le s.1 7 (by omega) (by omega)
                have h2 := sq_le s.2 7 (by omega) (by omega)
                omega
              have gn := fun w' => gaussNorm_any s.1 s.2 w'
              generalize gNorm s.1 s.2 = N at *
              have Hy := Lib.hid hy; clear hy
              have Hnm := Lib.hid hnm; clear hnm
              have Hgn := Lib.hid hgn; clear hgn
              have J5 := Lib.hid j5; clear j5
              go_wp2_with fail
              refine wp_region_N [] [] (by kernel_rfl) (by kernel_rfl) ?_
              refine wpStill_go (v := .slice (some ⟨bT, oT, none⟩) 16 c5) rfl rfl (stays_run fun w' h => ex_move rfl rfl) ?_
              simp only [Act.put, List.setIfInBounds_toArray, List.set_cons_succ, List.set_cons_zero, Nat.reduceAdd]
              refine wpStill_go (v := .int .i64 k) rfl rfl (stays_run fun w' h => ex_move rfl rfl) ?_
              simp only [Act.put, List.setIfInBounds_toArray, List.set_cons_succ, List.set_cons_zero, Nat.reduceAdd]
              refine wpStill_go (v := .pointer (some ⟨bT, oT + k * 1, none⟩)) rfl rfl (stays_run fun w' h => ex_index rfl (by kernel_rfl) (by kernel_rfl) rfl rfl (hlt)) ?_
              simp only [Act.put, List.setIfInBounds_toArray, List.set_cons_succ, List.set_cons_zero, Nat.reduceAdd]
              refine wpStill_go (v := .int .i64 y) rfl rfl (stays_run fun w' h => ex_load rfl rfl (LT w' h)) ?_
              simp only [Act.put, List.setIfInBounds_toArray, List.set_cons_succ, List.set_cons_zero, Nat.reduceAdd]
              refine wpStill_go (v := .slice (some ⟨bS, oS, none⟩) i c1) rfl rfl (stays_run fun w' h => ex_move rfl rfl) ?_
              simp only [Act.put, List.setIfInBounds_toArray, List.set_cons_succ, List.set_cons_zero, Nat.reduceAdd]
              refine wpStill_go (v := .int .i64 i) rfl rfl (stays_run fun w' h => ex_len rfl (by kernel_rfl) rfl) ?_
              simp only [Act.put, List.setIfInBounds_toArray, List.set_cons_succ, List.set_cons_zero, Nat.reduceAdd]
              refine wpStill_go (v := .int .i64 N) rfl rfl (stays_run fun w' h => by simp [go_sem, J5.out]) ?_
              simp only [Act.put, List.setIfInBounds_toArray, List.set_cons_succ, List.set_cons_zero, Nat.reduceAdd]
              refine wpStill_go (v := .agg #[.int .i64 s.1, .int .i64 s.2]) rfl rfl (stays_run fun w' h => ex_load rfl rfl (ld_two (by kernel_rfl) (by kernel_rfl) ((rH.kept ‹_›).cell 0) ((rH.kept ‹_›).cell 1))) ?_
              simp only [Act.put, List.setIfInBounds_toArray, List.set_cons_succ, List.set_cons_zero, Nat.reduceAdd]
              refine wpStill_go (v := .int .i64 N) rfl rfl (stays_call (f := 21) (args := #[.agg #[.int .i64 s.1, .int .i64 s.2]]) (fun w' h => by simp [go_sem]) (fun w' _ => gn w')) ?_
              simp only [Act.put, List.setIfInBounds_toArray, List.set_cons_succ, List.set_cons_zero, Nat.reduceAdd]
              refine wpStill_go (v := .bool false) rfl rfl (stays_run fun w' h => by simp [go_sem]) ?_
              simp only [Act.put, List.setIfInBounds_toArray, List.set_cons_succ, List.set_cons_zero, Nat.reduceAdd]
              refine wpStill_nil ?_
              repeat (refine wpMark_skip rfl ?_)
              refine wpMark_nil fun V hV => ?_
              have hV := (Below.refl _ _).drew.trans hV
              simp only [onlyN, Exit.then]
              have bV := hbel.trans (hV.mono hbel.size)
              clear LT hV gn rH
              go_wp2_with fail
              go_roundw
              case rel => exact ⟨k + 1, by omega, by go_num, bV⟩
              case measure => simp [intOf]; omega
        · obtain rfl : k = 16 := by omega
          go_wp2_with fail
          go_ret
          exact ⟨rfl, B5.trans (hbel.mono B5.size)⟩
  · have hnb : (1048576 : Int) < (n : Int) := by omega
    go_enter Try.func3, Try.ntmps3
    go_wp2_with fail
    go_ret
    exact ⟨rfl, Below.refl _ _⟩
end Go.Proofs.Ytfandpgjlahnpaa
