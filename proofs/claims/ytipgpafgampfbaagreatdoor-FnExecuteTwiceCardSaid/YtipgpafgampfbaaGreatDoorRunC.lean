/- 'impl.CleanRun' at every number of steps. -/
import Derived.Test.YtipgpafgampfbaaGreatDoorCleanR
namespace Go.Proofs.YtipgpafgampfbaaGreatDoor
open Go.RowKit
set_option maxRecDepth 100000 in
set_option maxHeartbeats 2000000 in
theorem cleanRun_all (A B D : Option Addr) (ca cb cd m : Nat) (M L b : List Int) (w : World) (hm : m ≤ 200) (hM : skyV M = true) (hL : skyV L = true) (hb : skyV b = true) (hr : Rd w w.heap.size A (M.map (Value.int .i64))) (hr2 : Rd w w.heap.size B (L.map (Value.int .i64))) (hr3 : Rd w w.heap.size D (b.map (Value.int .i64))) :
    Calls Tryz.prog 36 #[.agg #[.slice A 16 ca, .slice B 16 cb], .slice D 16 cd, .int .i64 m] w fun e w' => Below w.heap.size w w' ∧
      ∃ u v, e = .returned (.tuple #[.agg #[u, v], .int .i64 ((cleanIter b m (M, L)).2 : Nat), .bool true]) ∧ w'.ownsRow w.heap.size 3 1 u 16 ((cleanIter b m (M, L)).1.1.map (Value.int .i64)) ∧ w'.ownsRow w.heap.size 3 1 v 16 ((cleanIter b m (M, L)).1.2.map (Value.int .i64)) := by
  have lM := skyV_len hM
  have lL := skyV_len hL
  have lb := skyV_len hb
  have rB := (Row.new w 43 [.slice A 16 ca, .slice B 16 cb]).alloc (.cells #[.slice none 0 0, .slice none 0 0] 43)
  have rR := Row.new (w.alloc (.cells #[.slice A 16 ca, .slice B 16 cb] 43)) 43 [.slice none 0 0, .slice none 0 0]
  rw [World.size_alloc] at rR
  have b0 := bA2 (w := w) (o := .cells #[.slice A 16 ca, .slice B 16 cb] 43) (o' := .cells #[.slice none 0 0, .slice none 0 0] 43)
  have hr := hr.ext b0
  have hr2 := hr2.ext b0
  have hD0 := hr3
  have hr3 := hr3.ext b0
  obtain ⟨c0, c1, _, _⟩ := rB.two
  have HM := Lib.hid hM; clear hM
  have HL := Lib.hid hL; clear hL
  have Hb := Lib.hid hb; clear hb
  have LM := Lib.hid lM; clear lM
  have LL := Lib.hid lL; clear lL
  have Lb := Lib.hid lb; clear lb
  have q1 : ¬ (m : Int) < 0 := by omega
  have q2 : ¬ (200 : Int) < m := by omega
  go_enter Tryz.func36, Tryz.ntmps36
  go_wp2_with fail
  refine (cleanValid_any A B ca cb M L _ LM.out LL.out hr hr2).mono ?_
  rintro e w1 ⟨rfl, b1⟩
  rw [HM.out, HL.out]
  have B1 := b0.trans (b1.mono b0.size)
  have extX := (hr.below b1).more b1.size; clear hr; have hr := extX; clear extX
  have extX := (hr2.below b1).more b1.size; clear hr2; have hr2 := extX; clear extX
  have extX := (hr3.below b1).more b1.size; clear hr3; have hr3 := extX; clear extX
  have rB := rB.kept b1
  have rR := rR.kept b1
  clear b1 c0 c1
  go_wp2_with fail
  refine (skyValid_any _ 16 cd b _ Lb.out (by omega) hr3).mono ?_
  rintro e w2 ⟨rfl, rfl⟩
  rw [Hb.out]
  go_wp2_with fail
  refine wp_region_T [2, 5, 6, 7, 8] [] [true, true, false, true, true, false, false, false, false] 5 (Below w1.heap.size w1)
    (fun a' w' => ∃ H Au cu Av cv, a' = ⟨#[.agg #[.slice A 16 ca, .slice B 16 cb], .slice D 16 cd, .int .i64 m, .pointer (some ⟨w.heap.size, 0, none⟩), undef, undef, .pointer (some ⟨w.heap.size + 1, 0, none⟩), .int .i64 0, .bool false, .pointer (some ⟨H, 0, none⟩), undef, undef, undef, .agg #[.slice A 16 ca, .slice B 16 cb], .bool true, .bool false, .bool false, .slice D 16 cd, .bool true, .bool false, .bool false, .bool false, .int .i64 m, .bool (decide ((m : Int) < 0)), .bool (decide ((m : Int) < 0)), .bool (decide ((m : Int) < 0)), .int .i64 m, .bool (decide (200 < (m : Int))), .bool (decide ((m : Int) < 0) || decide (200 < (m : Int))), undef, .pointer (some ⟨w.heap.size, 0, none⟩), .slice A 16 ca, .slice Au 16 cu, .pointer (some ⟨w.heap.size, 1, none⟩), .slice B 16 cb, .slice Av 16 cv, .agg #[.slice Au 16 cu, .slice Av 16 cv], undef, undef, undef, undef, undef, undef, undef, undef, undef, undef, undef, undef, undef, undef, undef, undef, undef, undef], []⟩ ∧ w'.ownsRow w1.heap.size 3 1 (.slice Au 16 cu) 16 (M.map (Value.int .i64)) ∧ w'.ownsRow w1.heap.size 3 1 (.slice Av 16 cv) 16 (L.map (Value.int .i64)) ∧
      Row w' H 43 [.slice Au 16 cu, .slice Av 16 cv] ∧ Below w1.heap.size w1 w' ∧ w1.heap.size ≤ H)
    (by kernel_rfl) (by kernel_rfl) (fun _ _ h h' => h.trans (h'.mono h.size)) (Below.refl _ _).drew ?next ?walk
  case walk =>
    refine wpStill_go (v := .pointer (some ⟨w.heap.size, 0, none⟩)) rfl rfl (stays_run fun w' h => by simp [go_sem]) ?_
    simp only [Act.put, List.setIfInBounds_toArray, List.set_cons_succ, List.set_cons_zero]
    refine wpStill_go (v := .slice A 16 ca) rfl rfl (stays_run fun w' h => ex_load rfl rfl (ld_one (by kernel_rfl) ((rB.kept ‹_›).cell 0))) ?_
    simp only [Act.put, List.setIfInBounds_toArray, List.set_cons_succ, List.set_cons_zero]
    refine wpStill_skip rfl ?_
    refine wpStill_go (v := .pointer (some ⟨w.heap.size, 1, none⟩)) rfl rfl (stays_run fun w' h => by simp [go_sem]) ?_
    simp only [Act.put, List.setIfInBounds_toArray, List.set_cons_succ, List.set_cons_zero]
    refine wpStill_go (v := .slice B 16 cb) rfl rfl (stays_run fun w' h => ex_load rfl rfl (ld_one (by kernel_rfl) ((rB.kept ‹_›).cell 1))) ?_
    simp only [Act.put, List.setIfInBounds_toArray, List.set_cons_succ, List.set_cons_zero]
    refine wpStill_skip rfl (wpStill_skip rfl (wpStill_skip rfl (wpStill_skip rfl (wpStill_nil ?_))))
    have F : Below w1.heap.size w1 w1.drew := (Below.refl _ _).drew
    refine wpTree_two (i := 2) (j := 7) (by kernel_rfl) rfl rfl rfl rfl (fun m1 hm1 K hK => ?_) (fun m1 hm1 K hK => ?_)
    · have F := F.trans (hm1.mono F.size)
      have sz := F.size
      go_wp2_with fail
      refine (clone_any A 16 ca M _ LM.out (by omega) (by omega) (hr.ext F)).mono ?_
      rintro e n1 ⟨v, rfl, ou, bv⟩
      have ou := ou.mono sz
      have F := F.trans (bv.mono F.size)
      obtain ⟨Au, cu, rfl⟩ := own_form ou
      go_wp2_with fail
      refine hK _ _ (fun _ => F) ?_
      clear hK bv sz
      refine wpTree_two (i := 5) (j := 7) (by kernel_rfl) rfl rfl rfl rfl (fun m2 hm2 K hK => ?_) (fun m2 hm2 K hK => ?_)
      · have F := F.trans (hm2.mono F.size)
        have ou := own_ext ou hm2
        have sz := F.size
        go_wp2_with fail
        refine (clone_any B 16 cb L _ LL.out (by omega) (by omega) (hr2.ext F)).mono ?_
        rintro e n2 ⟨v, rfl, ov, bv⟩
        have ov := ov.mono sz
        have F := F.trans (bv.mono F.size)
        have ou := own_ext ou bv
        obtain ⟨Av, cv, rfl⟩ := own_form ov
        go_wp2_with fail
        refine hK _ _ (fun _ => F) ?_
        clear hK bv sz
        refine wpTree_two (i := 6) (j := 7) (by kernel_rfl) rfl rfl rfl rfl (fun m3 hm3 K hK => ?_) (fun m3 hm3 K hK => ?_)
        · have F := F.trans (hm3.mono F.size)
          have ou := own_ext ou hm3
          have ov := own_ext ov hm3
          go_wp2_with fail
          refine hK _ _ (fun _ => F) ?_
          clear hK
          refine wpTree_one (i := 7) (by kernel_rfl) rfl rfl (fun m4 hm4 K hK => ?_)
          have F := F.trans (hm4.mono F.size)
          have ou := own_ext ou hm4
          have ov := own_ext ov hm4
          have lH := F.size
          go_wp2_with fail
          have rH := Row.new m4 43 [.slice none 0 0, .slice none 0 0]
          have bv := bA1 (w := m4) (o := .cells #[.slice none 0 0, .slice none 0 0] 43)
          have F := F.trans (bv.mono F.size)
          have ou := own_ext ou bv
          have ov := own_ext ov bv
          refine hK _ _ (fun _ => F) ?_
          clear hK bv
          obtain ⟨H, hH⟩ : ∃ H, m4.heap.size = H := ⟨_, rfl⟩
          obtain ⟨V4, hV⟩ : ∃ V4, m4.alloc (.cells #[.slice none 0 0, .slice none 0 0] 43) = V4 := ⟨_, rfl⟩
          rw [hV] at rH ou ov F ⊢
          rw [hH] at rH lH ⊢
          clear hV hH
          refine wpTree_one (i := 8) (by kernel_rfl) rfl rfl (fun m5 hm5 K hK => ?_)
          have F := F.trans (hm5.mono F.size)
          have rH := rH.kept hm5
          have ou := own_ext ou hm5
          have ov := own_ext ov hm5
          obtain ⟨q0, q1, q2, q3⟩ := rH.two
          have hHou : ∀ j, (Value.slice Au 16 cu).ownBlock = some j → j ≠ H := fun j hj e => by obtain ⟨_, _, cs, fr, hc⟩ := own_lt ou hj; rw [e, show _ = _ from rH] at hc; injection hc with hc; injection hc with _ h2; revert h2; decide
          have hHov : ∀ j, (Value.slice Av 16 cv).ownBlock = some j → j ≠ H := fun j hj e => by obtain ⟨_, _, cs, fr, hc⟩ := own_lt ov hj; rw [e, show _ = _ from rH] at hc; injection hc with hc; injection hc with _ h2; revert h2; decide
          have ou := own_over (own_over ou (grown_set m5 H 0 (.slice Au 16 cu)) (fun j hj e => by injection e with e; exact hHou j hj e.symm)) (grown_set _ H 1 (.slice Av 16 cv)) (fun j hj e => by injection e with e; exact hHou j hj e.symm)
          have ov := own_over (own_over ov (grown_set m5 H 0 (.slice Au 16 cu)) (fun j hj e => by injection e with e; exact hHov j hj e.symm)) (grown_set _ H 1 (.slice Av 16 cv)) (fun j hj e => by injection e with e; exact hHov j hj e.symm)
          have rH := (rH.set_ 0 (.slice Au 16 cu)).set_ 1 (.slice Av 16 cv)
          simp only [List.set_cons_zero, List.set_cons_succ] at rH
          have F := (F.setCell (p := ⟨H, 0, none⟩) lH (.slice Au 16 cu)).setCell (p := ⟨H, 1, none⟩) lH (.slice Av 16 cv)
          have OU := Lib.hid ou
          have OV := Lib.hid ov
          have RH := Lib.hid rH
          have FF := Lib.hid F
          clear ou ov rH F
          go_wp2_with fail
          refine hK _ _ (fun _ => FF.out) (wpTree_nil (by kernel_rfl) fun me hme => ?_)
          have bb := FF.out
          exact ⟨H, Au, cu, Av, cv, rfl, own_ext OU.out hme, own_ext OV.out hme, RH.out.kept hme, bb.trans (hme.mono bb.size), lH⟩
        · have F := F.trans (hm3.mono F.size)
          have ou := own_ext ou hm3
          have ov := own_ext ov hm3
          have lH := F.size
          go_wp2_with fail
          have rH := Row.new m3 43 [.slice none 0 0, .slice none 0 0]
          have bv := bA1 (w := m3) (o := .cells #[.slice none 0 0, .slice none 0 0] 43)
          have F := F.trans (bv.mono F.size)
          have ou := own_ext ou bv
          have ov := own_ext ov bv
          refine hK _ _ (fun _ => F) ?_
          clear hK bv
          obtain ⟨H, hH⟩ : ∃ H, m3.heap.size = H := ⟨_, rfl⟩
          obtain ⟨V3, hV⟩ : ∃ V3, m3.alloc (.cells #[.slice none 0 0, .slice none 0 0] 43) = V3 := ⟨_, rfl⟩
          rw [hV] at rH ou ov F ⊢
          rw [hH] at rH lH ⊢
          clear hV hH
          refine wpTree_one (i := 6) (by kernel_rfl) rfl rfl (fun m4 hm4 K hK => ?_)
          have F := F.trans (hm4.mono F.size)
          have rH := rH.kept hm4
          have ou := own_ext ou hm4
          have ov := own_ext ov hm4
          go_wp2_with fail
          refine hK _ _ (fun _ => F) ?_
          clear hK
          refine wpTree_one (i := 8) (by kernel_rfl) rfl rfl (fun m5 hm5 K hK => ?_)
          have F := F.trans (hm5.mono F.size)
          have rH := rH.kept hm5
          have ou := own_ext ou hm5
          have ov := own_ext ov hm5
          obtain ⟨q0, q1, q2, q3⟩ := rH.two
          have hHou : ∀ j, (Value.slice Au 16 cu).ownBlock = some j → j ≠ H := fun j hj e => by obtain ⟨_, _, cs, fr, hc⟩ := own_lt ou hj; rw [e, show _ = _ from rH] at hc; injection hc with hc; injection hc with _ h2; revert h2; decide
          have hHov : ∀ j, (Value.slice Av 16 cv).ownBlock = some j → j ≠ H := fun j hj e => by obtain ⟨_, _, cs, fr, hc⟩ := own_lt ov hj; rw [e, show _ = _ from rH] at hc; injection hc with hc; injection hc with _ h2; revert h2; decide
          have ou := own_over (own_over ou (grown_set m5 H 0 (.slice Au 16 cu)) (fun j hj e => by injection e with e; exact hHou j hj e.symm)) (grown_set _ H 1 (.slice Av 16 cv)) (fun j hj e => by injection e with e; exact hHou j hj e.symm)
          have ov := own_over (own_over ov (grown_set m5 H 0 (.slice Au 16 cu)) (fun j hj e => by injection e with e; exact hHov j hj e.symm)) (grown_set _ H 1 (.slice Av 16 cv)) (fun j hj e => by injection e with e; exact hHov j hj e.symm)
          have rH := (rH.set_ 0 (.slice Au 16 cu)).set_ 1 (.slice Av 16 cv)
          simp only [List.set_cons_zero, List.set_cons_succ] at rH
          have F := (F.setCell (p := ⟨H, 0, none⟩) lH (.slice Au 16 cu)).setCell (p := ⟨H, 1, none⟩) lH (.slice Av 16 cv)
          have OU := Lib.hid ou
          have OV := Lib.hid ov
          have RH := Lib.hid rH
          have FF := Lib.hid F
          clear ou ov rH F
          go_wp2_with fail
          refine hK _ _ (fun _ => FF.out) (wpTree_nil (by kernel_rfl) fun me hme => ?_)
          have bb := FF.out
          exact ⟨H, Au, cu, Av, cv, rfl, own_ext OU.out hme, own_ext OV.out hme, RH.out.kept hme, bb.trans (hme.mono bb.size), lH⟩
      · have F := F.trans (hm2.mono F.size)
        have ou := own_ext ou hm2
        have lH := F.size
        go_wp2_with fail
        have rH := Row.new m2 43 [.slice none 0 0, .slice none 0 0]
        have bv := bA1 (w := m2) (o := .cells #[.slice none 0 0, .slice none 0 0] 43)
        have F := F.trans (bv.mono F.size)
        have ou := own_ext ou bv
        refine hK _ _ (fun _ => F) ?_
        clear hK bv
        obtain ⟨H, hH⟩ : ∃ H, m2.heap.size = H := ⟨_, rfl⟩
        obtain ⟨V2, hV⟩ : ∃ V2, m2.alloc (.cells #[.slice none 0 0, .slice none 0 0] 43) = V2 := ⟨_, rfl⟩
        rw [hV] at rH ou F ⊢
        rw [hH] at rH lH ⊢
        clear hV hH
        refine wpTree_one (i := 5) (by kernel_rfl) rfl rfl (fun m3 hm3 K hK => ?_)
        have F := F.trans (hm3.mono F.size)
        have rH := rH.kept hm3
        have ou := own_ext ou hm3
        have sz := F.size
        go_wp2_with fail
        refine (clone_any B 16 cb L _ LL.out (by omega) (by omega) (hr2.ext F)).mono ?_
        rintro e n3 ⟨v, rfl, ov, bv⟩
        have ov := ov.mono sz
        have F := F.trans (bv.mono F.size)
        have rH := rH.kept bv
        have ou := own_ext ou bv
        obtain ⟨Av, cv, rfl⟩ := own_form ov
        go_wp2_with fail
        refine hK _ _ (fun _ => F) ?_
        clear hK bv sz
        refine wpTree_one (i := 6) (by kernel_rfl) rfl rfl (fun m4 hm4 K hK => ?_)
        have F := F.trans (hm4.mono F.size)
        have rH := rH.kept hm4
        have ou := own_ext ou hm4
        have ov := own_ext ov hm4
        go_wp2_with fail
        refine hK _ _ (fun _ => F) ?_
        clear hK
        refine wpTree_one (i := 8) (by kernel_rfl) rfl rfl (fun m5 hm5 K hK => ?_)
        have F := F.trans (hm5.mono F.size)
        have rH := rH.kept hm5
        have ou := own_ext ou hm5
        have ov := own_ext ov hm5
        obtain ⟨q0, q1, q2, q3⟩ := rH.two
        have hHou : ∀ j, (Value.slice Au 16 cu).ownBlock = some j → j ≠ H := fun j hj e => by obtain ⟨_, _, cs, fr, hc⟩ := own_lt ou hj; rw [e, show _ = _ from rH] at hc; injection hc with hc; injection hc with _ h2; revert h2; decide
        have hHov : ∀ j, (Value.slice Av 16 cv).ownBlock = some j → j ≠ H := fun j hj e => by obtain ⟨_, _, cs, fr, hc⟩ := own_lt ov hj; rw [e, show _ = _ from rH] at hc; injection hc with hc; injection hc with _ h2; revert h2; decide
        have ou := own_over (own_over ou (grown_set m5 H 0 (.slice Au 16 cu)) (fun j hj e => by injection e with e; exact hHou j hj e.symm)) (grown_set _ H 1 (.slice Av 16 cv)) (fun j hj e => by injection e with e; exact hHou j hj e.symm)
        have ov := own_over (own_over ov (grown_set m5 H 0 (.slice Au 16 cu)) (fun j hj e => by injection e with e; exact hHov j hj e.symm)) (grown_set _ H 1 (.slice Av 16 cv)) (fun j hj e => by injection e with e; exact hHov j hj e.symm)
        have rH := (rH.set_ 0 (.slice Au 16 cu)).set_ 1 (.slice Av 16 cv)
        simp only [List.set_cons_zero, List.set_cons_succ] at rH
        have F := (F.setCell (p := ⟨H, 0, none⟩) lH (.slice Au 16 cu)).setCell (p := ⟨H, 1, none⟩) lH (.slice Av 16 cv)
        have OU := Lib.hid ou
        have OV := Lib.hid ov
        have RH := Lib.hid rH
        have FF := Lib.hid F
        clear ou ov rH F
        go_wp2_with fail
        refine hK _ _ (fun _ => FF.out) (wpTree_nil (by kernel_rfl) fun me hme => ?_)
        have bb := FF.out
        exact ⟨H, Au, cu, Av, cv, rfl, own_ext OU.out hme, own_ext OV.out hme, RH.out.kept hme, bb.trans (hme.mono bb.size), lH⟩
    · have F := F.trans (hm1.mono F.size)
      have lH := F.size
      go_wp2_with fail
      have rH := Row.new m1 43 [.slice none 0 0, .slice none 0 0]
      have bv := bA1 (w := m1) (o := .cells #[.slice none 0 0, .slice none 0 0] 43)
      have F := F.trans (bv.mono F.size)
      refine hK _ _ (fun _ => F) ?_
      clear hK bv
      obtain ⟨H, hH⟩ : ∃ H, m1.heap.size = H := ⟨_, rfl⟩
      obtain ⟨V1, hV⟩ : ∃ V1, m1.alloc (.cells #[.slice none 0 0, .slice none 0 0] 43) = V1 := ⟨_, rfl⟩
      rw [hV] at rH F ⊢
      rw [hH] at rH lH ⊢
      clear hV hH
      refine wpTree_one (i := 2) (by kernel_rfl) rfl rfl (fun m2 hm2 K hK => ?_)
      have F := F.trans (hm2.mono F.size)
      have rH := rH.kept hm2
      have sz := F.size
      go_wp2_with fail
      refine (clone_any A 16 ca M _ LM.out (by omega) (by omega) (hr.ext F)).mono ?_
      rintro e n2 ⟨v, rfl, ou, bv⟩
      have ou := ou.mono sz
      have F := F.trans (bv.mono F.size)
      have rH := rH.kept bv
      obtain ⟨Au, cu, rfl⟩ := own_form ou
      go_wp2_with fail
      refine hK _ _ (fun _ => F) ?_
      clear hK bv sz
      refine wpTree_one (i := 5) (by kernel_rfl) rfl rfl (fun m3 hm3 K hK => ?_)
      have F := F.trans (hm3.mono F.size)
      have rH := rH.kept hm3
      have ou := own_ext ou hm3
      have sz := F.size
      go_wp2_with fail
      refine (clone_any B 16 cb L _ LL.out (by omega) (by omega) (hr2.ext F)).mono ?_
      rintro e n3 ⟨v, rfl, ov, bv⟩
      have ov := ov.mono sz
      have F := F.trans (bv.mono F.size)
      have rH := rH.kept bv
      have ou := own_ext ou bv
      obtain ⟨Av, cv, rfl⟩ := own_form ov
      go_wp2_with fail
      refine hK _ _ (fun _ => F) ?_
      clear hK bv sz
      refine wpTree_one (i := 6) (by kernel_rfl) rfl rfl (fun m4 hm4 K hK => ?_)
      have F := F.trans (hm4.mono F.size)
      have rH := rH.kept hm4
      have ou := own_ext ou hm4
      have ov := own_ext ov hm4
      go_wp2_with fail
      refine hK _ _ (fun _ => F) ?_
      clear hK
      refine wpTree_one (i := 8) (by kernel_rfl) rfl rfl (fun m5 hm5 K hK => ?_)
      have F := F.trans (hm5.mono F.size)
      have rH := rH.kept hm5
      have ou := own_ext ou hm5
      have ov := own_ext ov hm5
      obtain ⟨q0, q1, q2, q3⟩ := rH.two
      have hHou : ∀ j, (Value.slice Au 16 cu).ownBlock = some j → j ≠ H := fun j hj e => by obtain ⟨_, _, cs, fr, hc⟩ := own_lt ou hj; rw [e, show _ = _ from rH] at hc; injection hc with hc; injection hc with _ h2; revert h2; decide
      have hHov : ∀ j, (Value.slice Av 16 cv).ownBlock = some j → j ≠ H := fun j hj e => by obtain ⟨_, _, cs, fr, hc⟩ := own_lt ov hj; rw [e, show _ = _ from rH] at hc; injection hc with hc; injection hc with _ h2; revert h2; decide
      have ou := own_over (own_over ou (grown_set m5 H 0 (.slice Au 16 cu)) (fun j hj e => by injection e with e; exact hHou j hj e.symm)) (grown_set _ H 1 (.slice Av 16 cv)) (fun j hj e => by injection e with e; exact hHou j hj e.symm)
      have ov := own_over (own_over ov (grown_set m5 H 0 (.slice Au 16 cu)) (fun j hj e => by injection e with e; exact hHov j hj e.symm)) (grown_set _ H 1 (.slice Av 16 cv)) (fun j hj e => by injection e with e; exact hHov j hj e.symm)
      have rH := (rH.set_ 0 (.slice Au 16 cu)).set_ 1 (.slice Av 16 cv)
      simp only [List.set_cons_zero, List.set_cons_succ] at rH
      have F := (F.setCell (p := ⟨H, 0, none⟩) lH (.slice Au 16 cu)).setCell (p := ⟨H, 1, none⟩) lH (.slice Av 16 cv)
      have OU := Lib.hid ou
      have OV := Lib.hid ov
      have RH := Lib.hid rH
      have FF := Lib.hid F
      clear ou ov rH F
      go_wp2_with fail
      refine hK _ _ (fun _ => FF.out) (wpTree_nil (by kernel_rfl) fun me hme => ?_)
      have bb := FF.out
      exact ⟨H, Au, cu, Av, cv, rfl, own_ext OU.out hme, own_ext OV.out hme, RH.out.kept hme, bb.trans (hme.mono bb.size), lH⟩
  case next =>
    rintro a' V ⟨H, Au, cu, Av, cv, rfl, ou, ov, rH, hB, lH⟩
    have rR0 := rR.lt
    have rR := rR.kept hB
    have hr3 := hr3.ext hB
    have B2 := B1.trans (hB.mono B1.size)
    have B1s := B1.size
    have ou := ou.mono B1s
    have ov := ov.mono B1s
    have hRH : w.heap.size + 1 < H := by omega
    clear hr hr2 rB
    simp only [Exit.then]
    have hI0 : cleanIter b m (M, L) = ((cleanIter b m (M, L)).1, (cleanIter b m (M, L)).2 + 0) := rfl
    have OU := Lib.hid ou
    have OV := Lib.hid ov
    clear ou ov
    go_wp2_with fail
    go_loopw [38] (fun i wr => ∃ (j : Nat) (st : List Int × List Int) (Au : Option Addr) (cu : Nat) (Av : Option Addr) (cv : Nat), j ≤ m ∧ i = .int .i64 j ∧ cleanIter b m (M, L) = ((cleanIter b (m - j) st).1, (cleanIter b (m - j) st).2 + j) ∧ skyV st.1 = true ∧ skyV st.2 = true ∧
      wr.ownsRow w.heap.size 3 1 (.slice Au 16 cu) 16 (st.1.map (Value.int .i64)) ∧ wr.ownsRow w.heap.size 3 1 (.slice Av 16 cv) 16 (st.2.map (Value.int .i64)) ∧ Row wr H 43 [.slice Au 16 cu, .slice Av 16 cv] ∧ Row wr (w.heap.size + 1) 43 [.slice none 0 0, .slice none 0 0] ∧ Below w.heap.size w wr) (fun i _ => m - (intOf i).toNat)
    case atStart => exact ⟨0, (M, L), Au, cu, Av, cv, by omega, rfl, hI0, HM.out, HL.out, OU.out, OV.out, rH, rR, B2⟩
    case round =>
      clear rH rR B2 hI0 OU OV hr3 hB
      obtain ⟨j, ⟨m1, l1⟩, Au', cu', Av', cv', hj, rfl, hit, hm1, hl1, ou, ov, rH, rR, hbel⟩ := hrel
      dsimp only at hm1 hl1 ou ov
      obtain ⟨q0, q1, q2, q3⟩ := rH.two
      obtain ⟨p0, p1, p2, p3⟩ := rR.two
      have hrD := (hD0.below hbel).more hbel.size
      have OU := Lib.hid ou
      have OV := Lib.hid ov
      have Hit := Lib.hid hit; clear hit
      have Hm1 := Lib.hid hm1; clear hm1
      have Hl1 := Lib.hid hl1; clear hl1
      clear ou ov
      by_cases hlt : j < m
      · go_wp2_with fail
        refine (cleanStep_any Au' Av' D cu' cv' cd m1 l1 b _ Hm1.out Hl1.out Hb.out (Rd.of_own OU.out) (Rd.of_own OV.out) hrD).mono ?_
        rintro e w5 ⟨b5, hres⟩
        have sz5 := b5.size
        have hsw := hbel.size
        obtain ⟨⟨m2, l2⟩, hst, u, v, rfl, o1, o2⟩ | ⟨hno, rfl⟩ := hres
        · dsimp only at o1 o2
          obtain ⟨Au2, cu2, rfl⟩ := own_form o1
          obtain ⟨Av2, cv2, rfl⟩ := own_form o2
          have hval := cleanStep_valid hst
          have hit2 : cleanIter b m (M, L) = ((cleanIter b (m - (j + 1)) (m2, l2)).1, (cleanIter b (m - (j + 1)) (m2, l2)).2 + (j + 1)) := by
            rw [Hit.out, show m - j = (m - (j + 1)) + 1 by omega, cleanIter_some hst]
            dsimp only
            congr 1
            omega
          have o1 := o1.mono hsw
          have o2 := o2.mono hsw
          have eX := bA1 (w := w5) (o := .cells #[.slice Au2 16 cu2, .slice Av2 16 cv2] 43)
          have o1 := own_ext o1 eX
          have o2 := own_ext o2 eX
          have rH5 := (rH.kept b5).kept eX
          have rR5 := (rR.kept b5).kept eX
          have rX := Row.new w5 43 [.slice Au2 16 cu2, .slice Av2 16 cv2]
          have BX := (hbel.trans (b5.mono hbel.size)).trans (eX.mono (hbel.trans (b5.mono hbel.size)).size)
          obtain ⟨WX, hWX⟩ : ∃ WX, w5.alloc (.cells #[.slice Au2 16 cu2, .slice Av2 16 cv2] 43) = WX := ⟨_, rfl⟩
          obtain ⟨X, hX⟩ : ∃ X, w5.heap.size = X := ⟨_, rfl⟩
          rw [hWX] at o1 o2 rH5 rR5 rX BX
          rw [hX] at rX
          have hHX : H < X := by rw [← hX]; exact (rH.kept b5).lt
          have hH1 : ∀ jj, (Value.slice Au2 16 cu2).ownBlock = some jj → jj ≠ H := fun jj hj e => by
            obtain ⟨_, _, cs, fr, hc⟩ := own_lt o1 hj
            rw [e, show _ = _ from rH5] at hc
            injection hc with hc
            injection hc with _ h2
            revert h2
            decide
          have hH2 : ∀ jj, (Value.slice Av2 16 cv2).ownBlock = some jj → jj ≠ H := fun jj hj e => by
            obtain ⟨_, _, cs, fr, hc⟩ := own_lt o2 hj
            rw [e, show _ = _ from rH5] at hc
            injection hc with hc
            injection hc with _ h2
            revert h2
            decide
          have oF1 := own_over (own_over o1 (grown_set WX H 0 (.slice Au2 16 cu2)) (fun jj hj e => by injection e with e; exact hH1 jj hj e.symm)) (grown_set _ H 1 (.slice Av2 16 cv2)) (fun jj hj e => by injection e with e; exact hH1 jj hj e.symm)
          have oF2 := own_over (own_over o2 (grown_set WX H 0 (.slice Au2 16 cu2)) (fun jj hj e => by injection e with e; exact hH2 jj hj e.symm)) (grown_set _ H 1 (.slice Av2 16 cv2)) (fun jj hj e => by injection e with e; exact hH2 jj hj e.symm)
          obtain ⟨h0, h1, h2, h3⟩ := rH5.two
          obtain ⟨x0, x1, _, _⟩ := rX.two
          have rHF := (rH5.set_ 0 (.slice Au2 16 cu2)).set_ 1 (.slice Av2 16 cv2)
          simp only [List.set_cons_zero, List.set_cons_succ] at rHF
          have rRF := (rR5.far (p := ⟨H, 0, none⟩) (by show w.heap.size + 1 ≠ H; omega) (.slice Au2 16 cu2)).far (p := ⟨H, 1, none⟩) (by show w.heap.size + 1 ≠ H; omega) (.slice Av2 16 cv2)
          have BF := (BX.setCell (p := ⟨H, 0, none⟩) (by show w.heap.size ≤ H; omega) (.slice Au2 16 cu2)).setCell (p := ⟨H, 1, none⟩) (by show w.heap.size ≤ H; omega) (.slice Av2 16 cv2)
          have OF1 := Lib.hid oF1
          have OF2 := Lib.hid oF2
          have RHF := Lib.hid rHF
          have RRF := Lib.hid rRF
          have BFF := Lib.hid BF
          have Hst := Lib.hid hst; clear hst
          have Hit2 := Lib.hid hit2; clear hit2
          have Hval := Lib.hid hval; clear hval
          clear o1 o2 oF1 oF2 rHF rRF BF hH1 hH2 rH rR q0 q1 q2 q3 p0 p1 p2 p3 b5 hbel eX rH5 rR5 rX BX hrD
          go_wp2_with fail
          go_roundw
          case rel => exact ⟨j + 1, (m2, l2), Au2, cu2, Av2, cv2, by omega, by go_num, Hit2.out, Hval.out.1, Hval.out.2, OF1.out, OF2.out, RHF.out, RRF.out, BFF.out⟩
          case measure => simp [intOf]; omega
        · have HEND := Lib.hid (show cleanIter b m (M, L) = ((m1, l1), j) by rw [Hit.out, cleanIter_none hno]; simp)
          have eX := bA1 (w := w5) (o := .cells #[.slice none 0 0, .slice none 0 0] 43)
          have rH5 := (rH.kept b5).kept eX
          have rR5 := (rR.kept b5).kept eX
          have OU := Lib.hid (own_ext (own_ext OU.out b5) eX)
          have OV := Lib.hid (own_ext (own_ext OV.out b5) eX)
          have BX := (hbel.trans (b5.mono hbel.size)).trans (eX.mono (hbel.trans (b5.mono hbel.size)).size)
          clear rH rR q0 q1 q2 q3 p0 p1 p2 p3 b5 hbel eX hno hrD
          obtain ⟨q0, q1, q2, q3⟩ := rH5.two
          obtain ⟨p0, p1, p2, p3⟩ := rR5.two
          go_wp2_with fail
          have hRu : ∀ jj, (Value.slice Au' 16 cu').ownBlock = some jj → jj ≠ w.heap.size + 1 := fun jj hj e => by
            obtain ⟨_, _, cs, fr, hc⟩ := own_lt OU.out hj
            rw [e, show _ = _ from rR5] at hc
            injection hc with hc
            injection hc with _ h2
            revert h2
            decide
          have hRv : ∀ jj, (Value.slice Av' 16 cv').ownBlock = some jj → jj ≠ w.heap.size + 1 := fun jj hj e => by
            obtain ⟨_, _, cs, fr, hc⟩ := own_lt OV.out hj
            rw [e, show _ = _ from rR5] at hc
            injection hc with hc
            injection hc with _ h2
            revert h2
            decide
          have ouF := own_over (own_over OU.out (grown_set _ (w.heap.size + 1) 0 (.slice Au' 16 cu')) (fun jj hj e => by injection e with e; exact hRu jj hj e.symm)) (grown_set _ (w.heap.size + 1) 1 (.slice Av' 16 cv')) (fun jj hj e => by injection e with e; exact hRu jj hj e.symm)
          have ovF := own_over (own_over OV.out (grown_set _ (w.heap.size + 1) 0 (.slice Au' 16 cu')) (fun jj hj e => by injection e with e; exact hRv jj hj e.symm)) (grown_set _ (w.heap.size + 1) 1 (.slice Av' 16 cv')) (fun jj hj e => by injection e with e; exact hRv jj hj e.symm)
          refine bodyPost_ret (v := .tuple #[.agg #[.slice Au' 16 cu', .slice Av' 16 cv'], .int .i64 (j : Nat), .bool true]) (by simp [results, Tryz.results36, go_sem, p0, p1]) rfl ⟨(BX.setCell (p := ⟨w.heap.size + 1, 0, none⟩) (by show w.heap.size ≤ w.heap.size + 1; omega) _).setCell (p := ⟨w.heap.size + 1, 1, none⟩) (by show w.heap.size ≤ w.heap.size + 1; omega) _, _, _, by rw [HEND.out], by rw [HEND.out]; exact ouF, by rw [HEND.out]; exact ovF⟩
      · obtain rfl : j = m := by omega
        have HEND := Lib.hid (show cleanIter b j (M, L) = ((m1, l1), j) by rw [Hit.out, Nat.sub_self]; simp [cleanIter])
        go_wp2_with fail
        have hRu : ∀ jj, (Value.slice Au' 16 cu').ownBlock = some jj → jj ≠ w.heap.size + 1 := fun jj hj e => by
          obtain ⟨_, _, cs, fr, hc⟩ := own_lt OU.out hj
          rw [e, show _ = _ from rR] at hc
          injection hc with hc
          injection hc with _ h2
          revert h2
          decide
        have hRv : ∀ jj, (Value.slice Av' 16 cv').ownBlock = some jj → jj ≠ w.heap.size + 1 := fun jj hj e => by
          obtain ⟨_, _, cs, fr, hc⟩ := own_lt OV.out hj
          rw [e, show _ = _ from rR] at hc
          injection hc with hc
          injection hc with _ h2
          revert h2
          decide
        have ouF := own_over (own_over OU.out (grown_set wr (w.heap.size + 1) 0 (.slice Au' 16 cu')) (fun jj hj e => by injection e with e; exact hRu jj hj e.symm)) (grown_set _ (w.heap.size + 1) 1 (.slice Av' 16 cv')) (fun jj hj e => by injection e with e; exact hRu jj hj e.symm)
        have ovF := own_over (own_over OV.out (grown_set wr (w.heap.size + 1) 0 (.slice Au' 16 cu')) (fun jj hj e => by injection e with e; exact hRv jj hj e.symm)) (grown_set _ (w.heap.size + 1) 1 (.slice Av' 16 cv')) (fun jj hj e => by injection e with e; exact hRv jj hj e.symm)
        refine bodyPost_ret (v := .tuple #[.agg #[.slice Au' 16 cu', .slice Av' 16 cv'], .int .i64 (j : Nat), .bool true]) (by simp [results, Tryz.results36, go_sem, p0, p1]) rfl ⟨(hbel.setCell (p := ⟨w.heap.size + 1, 0, none⟩) (by show w.heap.size ≤ w.heap.size + 1; omega) _).setCell (p := ⟨w.heap.size + 1, 1, none⟩) (by show w.heap.size ≤ w.heap.size + 1; omega) _, _, _, by rw [HEND.out], by rw [HEND.out]; exact ouF, by rw [HEND.out]; exact ovF⟩

theorem rd_nil' (w : World) (B : Nat) : Rd w B none (([] : List Int).map (Value.int .i64)) := fun _ _ h => by simp at h
theorem cleanValid_nil (w : World) : Calls Tryz.prog 77 #[.agg #[.slice none 0 0, .slice none 0 0]] w fun e w' => e = .returned (.bool false) ∧ Below w.heap.size w w' := by
  have rB := Row.new w 43 [.slice none 0 0, .slice none 0 0]
  obtain ⟨c0, c1, _, _⟩ := rB.two
  have h1 : skyV [] = false := by decide
  have H1 := Lib.hid h1; clear h1
  go_enter Tryz.func77, Tryz.ntmps77
  go_wp2_with fail
  refine (skyValid_any none 0 0 [] _ rfl (by omega) (rd_nil' _ _)).mono ?_
  rintro e w1 ⟨rfl, rfl⟩
  rw [H1.out]
  go_wp2_with fail
  go_ret
  exact ⟨rfl, bA1⟩
/-- No cleaning. -/
theorem cleanRun_nil (D : Option Addr) (nd cd : Nat) (m : Int) (w : World) :
    Calls Tryz.prog 36 #[.agg #[.slice none 0 0, .slice none 0 0], .slice D nd cd, .int .i64 m] w fun e w' => e = .returned (.tuple #[.agg #[.slice none 0 0, .slice none 0 0], .int .i64 0, .bool false]) ∧ Below w.heap.size w w' := by
  have rB := (Row.new w 43 [.slice none 0 0, .slice none 0 0]).alloc (.cells #[.slice none 0 0, .slice none 0 0] 43)
  have rR := Row.new (w.alloc (.cells #[.slice none 0 0, .slice none 0 0] 43)) 43 [.slice none 0 0, .slice none 0 0]
  rw [World.size_alloc] at rR
  have b0 := bA2 (w := w) (o := .cells #[.slice none 0 0, .slice none 0 0] 43) (o' := .cells #[.slice none 0 0, .slice none 0 0] 43)
  obtain ⟨c0, c1, _, _⟩ := rB.two
  go_enter Tryz.func36, Tryz.ntmps36
  go_wp2_with fail
  refine (cleanValid_nil _).mono ?_
  rintro e w1 ⟨rfl, b1⟩
  have B1 := b0.trans (b1.mono b0.size)
  have rR := rR.kept b1
  obtain ⟨q0, q1, q2, q3⟩ := rR.two
  clear b1 c0 c1
  go_wp2_with fail
  exact bodyPost_ret (v := .tuple #[.agg #[.slice none 0 0, .slice none 0 0], .int .i64 0, .bool false]) (by simp [results, Tryz.results36, go_sem, q0, q1]) rfl ⟨rfl, (B1.setCell (p := ⟨w.heap.size + 1, 0, none⟩) (by show w.heap.size ≤ w.heap.size + 1; omega) _).setCell (p := ⟨w.heap.size + 1, 1, none⟩) (by show w.heap.size ≤ w.heap.size + 1; omega) _⟩
/-- A number of steps out of range. -/
theorem cleanRun_out (A B D : Option Addr) (ca cb cd : Nat) (m : Int) (M L b : List Int) (w : World) (hm : inR m 0 200 = false) (hM : skyV M = true) (hL : skyV L = true) (hb : skyV b = true) (hr : Rd w w.heap.size A (M.map (Value.int .i64))) (hr2 : Rd w w.heap.size B (L.map (Value.int .i64))) (hr3 : Rd w w.heap.size D (b.map (Value.int .i64))) :
    Calls Tryz.prog 36 #[.agg #[.slice A 16 ca, .slice B 16 cb], .slice D 16 cd, .int .i64 m] w fun e w' => e = .returned (.tuple #[.agg #[.slice none 0 0, .slice none 0 0], .int .i64 0, .bool false]) ∧ Below w.heap.size w w' := by
  have lM := skyV_len hM
  have lL := skyV_len hL
  have lb := skyV_len hb
  have rB := (Row.new w 43 [.slice A 16 ca, .slice B 16 cb]).alloc (.cells #[.slice none 0 0, .slice none 0 0] 43)
  have rR := Row.new (w.alloc (.cells #[.slice A 16 ca, .slice B 16 cb] 43)) 43 [.slice none 0 0, .slice none 0 0]
  rw [World.size_alloc] at rR
  have b0 := bA2 (w := w) (o := .cells #[.slice A 16 ca, .slice B 16 cb] 43) (o' := .cells #[.slice none 0 0, .slice none 0 0] 43)
  have hr := hr.ext b0
  have hr2 := hr2.ext b0
  have hr3 := hr3.ext b0
  obtain ⟨c0, c1, _, _⟩ := rB.two
  have hc : m < 0 ∨ (¬ m < 0 ∧ 200 < m) := by
    by_cases h : 0 ≤ m ∧ m ≤ 200
    · rw [inR_iff.2 h] at hm; cases hm
    · omega
  have HM := Lib.hid hM; clear hM
  have HL := Lib.hid hL; clear hL
  have Hb := Lib.hid hb; clear hb
  have LM := Lib.hid lM; clear lM
  have LL := Lib.hid lL; clear lL
  have Lb := Lib.hid lb; clear lb
  clear hm
  have Hc := Lib.hid hc; clear hc
  go_enter Tryz.func36, Tryz.ntmps36
  go_wp2_with fail
  refine (cleanValid_any A B ca cb M L _ LM.out LL.out hr hr2).mono ?_
  rintro e w1 ⟨rfl, b1⟩
  rw [HM.out, HL.out]
  have B1 := b0.trans (b1.mono b0.size)
  have extX := (hr3.below b1).more b1.size; clear hr3; have hr3 := extX; clear extX
  have rR := rR.kept b1
  obtain ⟨q0, q1, q2, q3⟩ := rR.two
  clear b1 c0 c1
  go_wp2_with fail
  refine (skyValid_any _ 16 cd b _ Lb.out (by omega) hr3).mono ?_
  rintro e w2 ⟨rfl, rfl⟩
  rw [Hb.out]
  rcases Hc.out with p1 | ⟨p1, p2⟩
  all_goals
    go_wp2_with fail
    exact bodyPost_ret (v := .tuple #[.agg #[.slice none 0 0, .slice none 0 0], .int .i64 0, .bool false]) (by simp [results, Tryz.results36, go_sem, q0, q1]) rfl ⟨rfl, (B1.setCell (p := ⟨w.heap.size + 1, 0, none⟩) (by show w.heap.size ≤ w.heap.size + 1; omega) _).setCell (p := ⟨w.heap.size + 1, 1, none⟩) (by show w.heap.size ≤ w.heap.size + 1; omega) _⟩

section
variable {P : Program} {ops : Array Oper} {C : World → Prop} {Q : Exit → Act → World → Prop} {sp nk : Nat → Bool} {f : Nat} {listed : Array Bool} {a : Act} {w : World}
theorem wpTree_three {i j k : Nat} {o o' o2 : Oper} (hr : Region.ready .any ops listed = [i, j, k]) (ho : ops[i]? = some o) (ho' : ops[j]? = some o') (ho2 : ops[k]? = some o2) (hs : sp i = true) (hs' : sp j = true) (hs2 : sp k = true)
    (h : ∀ w', Ext w w' → ∀ K : Act → World → Prop, (∀ a'' w'', (nk i = false → C w'') → wpTree P ops C Q sp nk f (listed.setIfInBounds i true) a'' w'' → K a'' w'') → wpList P ops (Exit.then K Q) [o] a w')
    (h' : ∀ w', Ext w w' → ∀ K : Act → World → Prop, (∀ a'' w'', (nk j = false → C w'') → wpTree P ops C Q sp nk f (listed.setIfInBounds j true) a'' w'' → K a'' w'') → wpList P ops (Exit.then K Q) [o'] a w')
    (h2 : ∀ w', Ext w w' → ∀ K : Act → World → Prop, (∀ a'' w'', (nk k = false → C w'') → wpTree P ops C Q sp nk f (listed.setIfInBounds k true) a'' w'' → K a'' w'') → wpList P ops (Exit.then K Q) [o2] a w') :
    wpTree P ops C Q sp nk (f + 1) listed a w := by
  refine ⟨fun h0 => (by rw [hr] at h0; cases h0), fun l hl => ?_⟩
  rw [hr] at hl
  rcases List.mem_cons.1 hl with rfl | hl
  · rw [if_pos hs]
    exact fun w' hw' => wpOp_of_list ho (h w' hw' _ fun _ _ h1 h2 => ⟨h1, h2.out⟩)
  · rcases List.mem_cons.1 hl with rfl | hl
    · rw [if_pos hs']
      exact fun w' hw' => wpOp_of_list ho' (h' w' hw' _ fun _ _ h1 h2 => ⟨h1, h2.out⟩)
    · obtain rfl : l = k := by simpa using hl
      rw [if_pos hs2]
      exact fun w' hw' => wpOp_of_list ho2 (h2 w' hw' _ fun _ _ h1 h2 => ⟨h1, h2.out⟩)
end
/-- What a cleaning of a dirty image returns: the model, the number of steps, whether it could be done. -/
def cleanX (b : List Int) (D : Option (List Int)) (m : Int) : (List Int × Nat) × Bool := match D with
  | none => (([], 0), false)
  | some d => if inR m 0 200 then (((cleanIter b m.toNat (zeros16, d)).1.1, (cleanIter b m.toNat (zeros16, d)).2), true) else (([], 0), false)
theorem cleanIter_valid {b : List Int} : ∀ (m : Nat) (st : List Int × List Int), skyV st.1 = true → skyV (cleanIter b m st).1.1 = true
  | 0, _, h => h
  | m + 1, st, h => by
    cases hs : cleanStep b st with
    | none => rw [cleanIter_none hs]; exact h
    | some st' => rw [cleanIter_some hs]; exact cleanIter_valid m st' (cleanStep_valid hs).1
theorem cleanIter_le {b : List Int} : ∀ (m : Nat) (st : List Int × List Int), (cleanIter b m st).2 ≤ m
  | 0, _ => Nat.le_refl _
  | m + 1, st => by
    cases hs : cleanStep b st with
    | none => rw [cleanIter_none hs]; exact Nat.zero_le _
    | some st' => rw [cleanIter_some hs]; have := cleanIter_le (b := b) m st'; dsimp only; omega
theorem zeros16_sky : skyV zeros16 = true := by decide
theorem cleanX_bd (b : List Int) (D : Option (List Int)) (m : Int) : (cleanX b D m).1.1.length ≤ 16 ∧ (cleanX b D m).1.2 ≤ 200 := by
  unfold cleanX
  split
  · simp
  · rename_i d
    split
    · rename_i h
      have hm := inR_iff.1 h
      have h1 := cleanIter_valid (b := b) m.toNat (zeros16, d) zeros16_sky
      have h2 := cleanIter_le (b := b) m.toNat (zeros16, d)
      exact ⟨by have := skyV_len h1; dsimp only; omega, by dsimp only; omega⟩
    · simp
/-- 'CleanNew', and 'CleanRun' of what it returns. -/
theorem cleanPair (A B : Option Addr) (ca cb : Nat) (b : List Int) (D : Option (List Int)) (m : Int) (w : World) (hb : skyV b = true) (hD : ∀ d, D = some d → skyV d = true) (hr : Rd w w.heap.size A ((D.getD []).map (Value.int .i64))) (hr2 : Rd w w.heap.size B (b.map (Value.int .i64))) :
    Calls Tryz.prog 35 #[.slice A (D.getD []).length ca] w fun e w' => ∃ U1 l1 c1 U2 l2 c2 ok, e = .returned (.tuple #[.agg #[.slice U1 l1 c1, .slice U2 l2 c2], .bool ok]) ∧ Below w.heap.size w w' ∧
      ∀ W, Below w'.heap.size w' W → Calls Tryz.prog 36 #[.agg #[.slice U1 l1 c1, .slice U2 l2 c2], .slice B 16 cb, .int .i64 m] W fun e W' => ∃ Ar cr Ar2 lr2 cr2, e = .returned (.tuple #[.agg #[.slice Ar (cleanX b D m).1.1.length cr, .slice Ar2 lr2 cr2], .int .i64 ((cleanX b D m).1.2 : Nat), .bool (cleanX b D m).2]) ∧
        W'.ownsRow W.heap.size 3 1 (.slice Ar (cleanX b D m).1.1.length cr) (cleanX b D m).1.1.length ((cleanX b D m).1.1.map (Value.int .i64)) ∧ Below W.heap.size W W' := by
  cases D with
  | none =>
    refine (cleanNew_no A 0 ca [] w rfl (by omega) (by decide) (Rd.nil _ _ _)).mono ?_
    rintro e w' ⟨rfl, b1⟩
    refine ⟨_, _, _, _, _, _, _, rfl, b1, fun W hW => ?_⟩
    refine (cleanRun_nil B 16 cb m W).mono ?_
    rintro e W' ⟨rfl, b2⟩
    exact ⟨none, 0, none, 0, 0, rfl, World.ownsRow_nil _ _ _ _, b2⟩
  | some d =>
    have hd := hD d rfl
    have hl := skyV_len hd
    simp only [Option.getD_some] at hr ⊢
    rw [hl]
    refine (cleanNew_yes A ca d w hd hr).mono ?_
    rintro e w' ⟨G, v, rfl, hG, rG, ov, b1⟩
    obtain ⟨Av, cv, rfl⟩ := own_form ov
    refine ⟨_, _, _, _, _, _, _, rfl, b1, fun W hW => ?_⟩
    cases hm : inR m 0 200
    · refine (cleanRun_out (some ⟨G, 0, none⟩) Av B 16 cv cb m zeros16 d b W hm zeros16_sky hd hb (rG.kept hW).rd (Rd.of_own (own_ext ov hW)) ((hr2.ext b1).ext hW)).mono ?_
      rintro e W' ⟨rfl, b2⟩
      refine ⟨none, 0, none, 0, 0, ?_, ?_, b2⟩
      · unfold cleanX; simp only [hm]; rfl
      · unfold cleanX; simp only [hm]; exact World.ownsRow_nil _ _ _ _
    · have hmm := inR_iff.1 hm
      obtain ⟨k, rfl⟩ : ∃ k : Nat, m = k := ⟨m.toNat, by omega⟩
      refine (cleanRun_all (some ⟨G, 0, none⟩) Av B 16 cv cb k zeros16 d b W (by omega) zeros16_sky hd hb (rG.kept hW).rd (Rd.of_own (own_ext ov hW)) ((hr2.ext b1).ext hW)).mono ?_
      rintro e W' ⟨b2, u, v2, rfl, o1, o2⟩
      obtain ⟨Ar, cr, rfl⟩ := own_form o1
      obtain ⟨Ar2, cr2, rfl⟩ := own_form o2
      have e1 : cleanX b (some d) (k : Int) = (((cleanIter b k (zeros16, d)).1.1, (cleanIter b k (zeros16, d)).2), true) := by unfold cleanX; simp only [hm, if_true, Int.toNat_natCast]
      rw [e1]
      have hv := skyV_len (cleanIter_valid (b := b) k (zeros16, d) zeros16_sky)
      exact ⟨Ar, cr, Ar2, 16, cr2, by dsimp only; rw [hv], by dsimp only; rw [hv]; exact o1, b2⟩
end Go.Proofs.YtipgpafgampfbaaGreatDoor
