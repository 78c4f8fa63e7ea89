/- 'impl.CleanPeak' and 'impl.CleanStep'. -/
import Derived.Test.YtipgpafgampfbaaGreatDoorB5
import Derived.Test.YtipgpafgampfbaaGreatDoorB2
namespace Go.Proofs.YtipgpafgampfbaaGreatDoor
open Go.RowKit

set_option maxHeartbeats 1000000 in
theorem cleanPeak_yes (A B : Option Addr) (ca cb : Nat) (M L : List Int) (w : World) (hM : skyV M = true) (hL : skyV L = true) (hr : Rd w w.heap.size A (M.map (Value.int .i64))) (hr2 : Rd w w.heap.size B (L.map (Value.int .i64))) :
    Calls Tryz.prog 114 #[.agg #[.slice A 16 ca, .slice B 16 cb]] w fun e w' => e = .returned (.tuple #[.int .i64 (peakI L : Nat), .int .i64 (maxL L), .bool true]) ∧ Below w.heap.size w w' := by
  have rB := Row.new w 43 [.slice A 16 ca, .slice B 16 cb]
  have hr1 := hr.ext (bA1 (o := .cells #[.slice A 16 ca, .slice B 16 cb] 43))
  have hr3 := hr2.ext (bA1 (o := .cells #[.slice A 16 ca, .slice B 16 cb] 43))
  obtain ⟨c0, c1, _, _⟩ := rB.two
  have lM := skyV_len hM
  have lL := skyV_len hL
  have hmem := maxL_mem (l := L) (by omega)
  have hmL := maxL_mem (l := L) (by omega)
  have HM := Lib.hid hM; clear hM
  have HL := Lib.hid hL; clear hL
  have LM := Lib.hid lM; clear lM
  have LL := Lib.hid lL; clear lL
  have Hmem := Lib.hid hmem; clear hmem
  go_enter Tryz.func114, Tryz.ntmps114
  go_wp2_with fail
  refine (cleanValid_any A B ca cb M L _ LM.out LL.out hr1 hr3).mono ?_
  rintro e w1 ⟨rfl, b1⟩
  rw [HM.out, HL.out]
  have B1 := bA1.trans (b1.mono bA1.size)
  have extX := (hr3.below b1).more b1.size; clear hr3; have hr3 := extX; clear extX
  have rB := rB.kept b1
  obtain ⟨c0, c1, _, _⟩ := rB.two
  clear b1
  go_wp2_with fail
  refine (slicesMax_any B 16 cb L _ LL.out (by omega) (by omega) hr3).mono ?_
  rintro e w2 ⟨rfl, rfl⟩
  go_wp2_with fail
  refine (slicesIndex_any B 16 cb L (maxL L) _ LL.out (by omega) (by omega) Hmem.out hr3).mono ?_
  rintro e w2 ⟨rfl, rfl⟩
  go_wp2_with fail
  go_ret3
  exact ⟨rfl, B1⟩

set_option maxRecDepth 100000 in
set_option maxHeartbeats 2000000 in
theorem cleanStep_any (A B D : Option Addr) (ca cb cd : Nat) (M L b : List Int) (w : World) (hM : skyV M = true) (hL : skyV L = true) (hb : skyV b = true) (hr : Rd w w.heap.size A (M.map (Value.int .i64))) (hr2 : Rd w w.heap.size B (L.map (Value.int .i64))) (hr3 : Rd w w.heap.size D (b.map (Value.int .i64))) :
    Calls Tryz.prog 78 #[.agg #[.slice A 16 ca, .slice B 16 cb], .slice D 16 cd] w fun e w' => Below w.heap.size w w' ∧
      ((∃ st, cleanStep b (M, L) = some st ∧ ∃ u v, e = .returned (.tuple #[.agg #[u, v], .bool true]) ∧ w'.ownsRow w.heap.size 3 1 u 16 (st.1.map (Value.int .i64)) ∧ w'.ownsRow w.heap.size 3 1 v 16 (st.2.map (Value.int .i64))) ∨
       (cleanStep b (M, L) = none ∧ e = .returned (.tuple #[.agg #[.slice none 0 0, .slice none 0 0], .bool false]))) := by
  have lM := skyV_len hM
  have lL := skyV_len hL
  have lb := skyV_len hb
  have rB := (Row.new w 43 [.slice A 16 ca, .slice B 16 cb]).alloc (.cells #[.slice none 0 0, .slice none 0 0] 43)
  have rR := Row.new (w.alloc (.cells #[.slice A 16 ca, .slice B 16 cb] 43)) 43 [.slice none 0 0, .slice none 0 0]
  rw [World.size_alloc] at rR
  have b0 := bA2 (w := w) (o := .cells #[.slice A 16 ca, .slice B 16 cb] 43) (o' := .cells #[.slice none 0 0, .slice none 0 0] 43)
  have hr := hr.ext b0
  have hr2 := hr2.ext b0
  have hr3 := hr3.ext b0
  obtain ⟨bD, oD, rfl, hbD⟩ := rd_some hr3 (by rw [List.length_map]; omega)
  obtain ⟨y, hy⟩ : ∃ y, b.getD 0 0 = y := ⟨_, rfl⟩
  have cD := rd_cells hr3 0 _ (ints_at' (by omega))
  rw [Nat.add_zero, hy] at cD
  have hyb := (skyV_iff.1 hb).2 y (by rw [← hy]; exact getD_mem (by omega))
  obtain ⟨c0, c1, _, _⟩ := rB.two
  have HM := Lib.hid hM; clear hM
  have HL := Lib.hid hL; clear hL
  have Hb := Lib.hid hb; clear hb
  have LM := Lib.hid lM; clear lM
  have LL := Lib.hid lL; clear lL
  have Lb := Lib.hid lb; clear lb
  have Hy := Lib.hid hy; clear hy
  go_enter Tryz.func78, Tryz.ntmps78
  go_wp2_with fail
  refine (cleanValid_any A B ca cb M L _ LM.out LL.out hr hr2).mono ?_
  rintro e w1 ⟨rfl, b1⟩
  rw [HM.out, HL.out]
  have B1 := b0.trans (b1.mono b0.size)
  have extX := (hr.below b1).more b1.size; clear hr; have hr := extX; clear extX
  have extX := (hr2.below b1).more b1.size; clear hr2; have hr2 := extX; clear extX
  have extX := (hr3.below b1).more b1.size; clear hr3; have hr3 := extX; clear extX
  have rB := rB.kept b1
  have rR := rR.kept b1
  have cD := (bcl b1 hbD _).trans cD
  have hbD1 := Nat.lt_of_lt_of_le hbD b1.size
  clear b1 c0 c1
  go_wp2_with fail
  refine (skyValid_any _ 16 cd b _ Lb.out (by omega) hr3).mono ?_
  rintro e w2 ⟨rfl, rfl⟩
  rw [Hb.out]
  by_cases hy1 : y < 1
  · have HNO := Lib.hid (show cleanStep b (M, L) = none by
      unfold cleanStep
      rw [if_neg]
      rintro ⟨_, _, h⟩
      rw [Hy.out] at h
      omega)
    obtain ⟨q0, q1, q2, q3⟩ := rR.two
    clear hr hr2 hr3 rR rB hbD hbD1
    go_wp2_with fail
    exact bodyPost_ret (v := .tuple #[.agg #[.slice none 0 0, .slice none 0 0], .bool false]) (by simp [results, Tryz.results78, go_sem, q0, q1]) rfl ⟨(B1.setCell (p := ⟨w.heap.size + 1, 0, none⟩) (by show w.heap.size ≤ w.heap.size + 1; omega) _).setCell (p := ⟨w.heap.size + 1, 1, none⟩) (by show w.heap.size ≤ w.heap.size + 1; omega) _, .inr ⟨HNO.out, rfl⟩⟩
  · obtain ⟨c0, c1, _, _⟩ := rB.two
    have hne0 : y ≠ 0 := by omega
    go_wp2_with fail
    refine (cleanPeak_yes A B ca cb M L _ HM.out HL.out hr hr2).mono ?_
    rintro e w2 ⟨rfl, b2⟩
    have B2 := B1.trans (b2.mono B1.size)
    have cD := (bcl b2 hbD1 _).trans cD
    have extX := (hr.below b2).more b2.size; clear hr; have hr := extX; clear extX
    have extX := (hr2.below b2).more b2.size; clear hr2; have hr2 := extX; clear extX
    have extX := (hr3.below b2).more b2.size; clear hr3; have hr3 := extX; clear extX
    have rB := rB.kept b2
    have rR := rR.kept b2
    have hpk := peakI_lt (l := L) (by rw [LL.out]; omega)
    have hmx := (skyV_iff.1 HL.out).2 _ (maxL_mem (l := L) (by rw [LL.out]; omega))
    rw [LL.out] at hpk
    obtain ⟨k, hk⟩ : ∃ k, peakI L = k := ⟨_, rfl⟩
    obtain ⟨m, hm⟩ : ∃ m, maxL L = m := ⟨_, rfl⟩
    rw [hk] at hpk
    rw [hm] at hmx
    rw [hk, hm]
    have Hk := Lib.hid hk; clear hk
    have Hm := Lib.hid hm; clear hm
    clear b2 c0 c1
    by_cases hm0 : m < 0
    · have HNO := Lib.hid (show cleanStep b (M, L) = none by
        unfold cleanStep
        rw [Hm.out]
        split
        · rw [if_neg (by omega)]
        · rfl)
      obtain ⟨q0, q1, q2, q3⟩ := rR.two
      clear hr hr2 hr3 rR rB hbD hbD1
      go_wp2_with fail
      exact bodyPost_ret (v := .tuple #[.agg #[.slice none 0 0, .slice none 0 0], .bool false]) (by simp [results, Tryz.results78, go_sem, q0, q1]) rfl ⟨(B2.setCell (p := ⟨w.heap.size + 1, 0, none⟩) (by show w.heap.size ≤ w.heap.size + 1; omega) _).setCell (p := ⟨w.heap.size + 1, 1, none⟩) (by show w.heap.size ≤ w.heap.size + 1; omega) _, .inr ⟨HNO.out, rfl⟩⟩
    · obtain ⟨n, hn⟩ : ∃ n, m / y = n := ⟨_, rfl⟩
      have hnb : 0 ≤ n ∧ n ≤ 100000 := by
        rw [← hn]
        exact ⟨Int.ediv_nonneg (by omega) (by omega), Int.le_trans (Int.ediv_le_self _ (by omega)) hmx.2⟩
      have j1 : IntKind.i64.wrap (m.tdiv y) = n := by rw [Int.tdiv_eq_ediv_of_nonneg (by omega), hn]; exact IntWalk.i64_in _ (by omega)
      have j2 : IntKind.i64.wrap (m / y) = n := by rw [hn]; exact IntWalk.i64_in _ (by omega)
      have Hn := Lib.hid hn
      clear hn
      by_cases hn1 : n < 1
      · have HNO := Lib.hid (show cleanStep b (M, L) = none by
          unfold cleanStep
          rw [Hm.out, Hy.out, Hn.out]
          split
          · rw [if_neg (by omega)]
          · rfl)
        obtain ⟨q0, q1, q2, q3⟩ := rR.two
        clear hr hr2 hr3 rR rB hbD hbD1
        go_wp2_with fail
        exact bodyPost_ret (v := .tuple #[.agg #[.slice none 0 0, .slice none 0 0], .bool false]) (by simp [results, Tryz.results78, go_sem, q0, q1]) rfl ⟨(B2.setCell (p := ⟨w.heap.size + 1, 0, none⟩) (by show w.heap.size ≤ w.heap.size + 1; omega) _).setCell (p := ⟨w.heap.size + 1, 1, none⟩) (by show w.heap.size ≤ w.heap.size + 1; omega) _, .inr ⟨HNO.out, rfl⟩⟩
      · have hbL : iLe 1000000000000 L := fun j => by
          rcases Nat.lt_or_ge j L.length with h | h
          · have := (skyV_iff.1 HL.out).2 _ (getD_mem (d := 0) h); omega
          · rw [List.getD_eq_getElem?_getD, List.getElem?_eq_none h]; simp
        have hbS : iLe 1000000 (shL b k) := fun j => by
          rcases Nat.lt_or_ge j 16 with h | h
          · rw [shL_get _ _ _ h]
            have := (skyV_iff.1 Hb.out).2 _ (getD_mem (l := b) (d := 0) (by rw [Lb.out]; exact subC_lt j k)); omega
          · rw [List.getD_eq_getElem?_getD, List.getElem?_eq_none (by rw [shL_len]; exact h)]; simp
        have j3 : (k : Int).tmod 4 = (k : Int) % 4 := Int.tmod_eq_emod_of_nonneg (by omega)
        have j4 : IntKind.i64.wrap ((k : Int) / 4) = (k : Int) / 4 := IntWalk.i64_in _ (by omega)
        have j5 : IntKind.i64.wrap (-n) = -n := IntWalk.i64_in _ (by omega)
        have HbL := Lib.hid hbL
        have HbS := Lib.hid hbS
        have J3 := Lib.hid j3; clear j3
        have J4 := Lib.hid j4; clear j4
        have J5 := Lib.hid j5; clear j5
        clear hbL hbS
        go_wp2_with fail
        have rR0 := rR
        have hbL := HbL.out
        have hbS := HbS.out
        refine wp_region_T [2, 10, 13, 14, 15, 16] [] [true, true, false, true, true, true, true, true, true, true, false, true, true, false, false, false, false] 6 (Below w2.heap.size w2)
          (fun a' w' => ∃ H Au cu T1 T2, a' = ⟨#[.agg #[.slice A 16 ca, .slice B 16 cb], .slice (some ⟨bD, oD, none⟩) 16 cd, .pointer (some ⟨w.heap.size, 0, none⟩), undef, .pointer (some ⟨w.heap.size + 1, 0, none⟩), .bool false, .int .i64 (k : Nat), .int .i64 m, .bool true, .int .i64 n, .pointer (some ⟨H, 0, none⟩), .agg #[.slice A 16 ca, .slice B 16 cb], .bool true, .bool false, .bool false, .slice (some ⟨bD, oD, none⟩) 16 cd, .bool true, .bool false, .bool false, .bool false, .slice (some ⟨bD, oD, none⟩) 16 cd, .pointer (some ⟨bD, oD, none⟩), .int .i64 y, .bool (decide (y < 1)), .bool (decide (y < 1)), undef, .tuple #[.int .i64 (k : Nat), .int .i64 m, .bool true], .agg #[.slice A 16 ca, .slice B 16 cb], .tuple #[.int .i64 (k : Nat), .int .i64 m, .bool true], .int .i64 (k : Nat), .int .i64 m, .bool true, .int .i64 m, .slice (some ⟨bD, oD, none⟩) 16 cd, .pointer (some ⟨bD, oD, none⟩), .int .i64 y, .int .i64 n, .int .i64 m, .bool (decide (m < 0)), .bool (decide (m < 0)), .int .i64 n, .bool (decide (n < 1)), .bool (decide (m < 0) || decide (n < 1)), undef, .pointer (some ⟨w.heap.size, 0, none⟩), .slice A 16 ca, .slice Au 16 cu, .pointer (some ⟨w.heap.size, 1, none⟩), .slice B 16 cb, .slice (some ⟨bD, oD, none⟩) 16 cd, .int .i64 (k : Nat), .int .i64 ((k : Int) % 4), .int .i64 (k : Nat), .int .i64 ((k : Int) / 4), .slice (some ⟨T1, 0, none⟩) 16 16, .int .i64 n, .int .i64 (-n), .slice (some ⟨T2, 0, none⟩) 16 16, .agg #[.slice Au 16 cu, .slice (some ⟨T2, 0, none⟩) 16 16], undef, undef, undef, undef, undef, undef, undef, undef, undef, undef, undef, undef, undef], []⟩ ∧ w'.ownsRow w2.heap.size 3 1 (.slice Au 16 cu) 16 (M.map (Value.int .i64)) ∧ Row w' T2 3 ((addS L (shL b k) (-n)).map (Value.int .i64)) ∧
            Row w' H 43 [.slice Au 16 cu, .slice (some ⟨T2, 0, none⟩) 16 16] ∧ Below w2.heap.size w2 w' ∧ w2.heap.size ≤ T2 ∧ w2.heap.size ≤ H ∧ ∀ j, (Value.slice Au 16 cu).ownBlock = some j → j ≠ T2)
          (by kernel_rfl) (by kernel_rfl) (fun _ _ h h' => h.trans (h'.mono h.size)) (Below.refl _ _).drew ?next ?walk
        case walk =>
          refine wpStill_go (v := .pointer (some ⟨w.heap.size, 0, none⟩)) rfl rfl (stays_run fun w' h => by simp [go_sem]) ?_
          simp only [Act.put, List.setIfInBounds_toArray, List.set_cons_succ, List.set_cons_zero]
          refine wpStill_go (v := .slice A 16 ca) rfl rfl (stays_run fun w' h => ex_load rfl rfl (ld_one (by kernel_rfl) ((rB.kept ‹_›).cell 0))) ?_
          simp only [Act.put, List.setIfInBounds_toArray, List.set_cons_succ, List.set_cons_zero]
          refine wpStill_skip rfl ?_
          refine wpStill_go (v := .pointer (some ⟨w.heap.size, 1, none⟩)) rfl rfl (stays_run fun w' h => by simp [go_sem]) ?_
          simp only [Act.put, List.setIfInBounds_toArray, List.set_cons_succ, List.set_cons_zero]
          refine wpStill_go (v := .slice B 16 cb) rfl rfl (stays_run fun w' h => ex_load rfl rfl (ld_one (by kernel_rfl) ((rB.kept ‹_›).cell 1))) ?_
          simp only [Act.put, List.setIfInBounds_toArray, List.set_cons_succ, List.set_cons_zero]
          refine wpStill_go (v := .slice (some ⟨bD, oD, none⟩) 16 cd) rfl rfl (stays_run fun w' h => ex_move rfl rfl) ?_
          simp only [Act.put, List.setIfInBounds_toArray, List.set_cons_succ, List.set_cons_zero]
          refine wpStill_go (v := .int .i64 (k : Nat)) rfl rfl (stays_run fun w' h => ex_move rfl rfl) ?_
          simp only [Act.put, List.setIfInBounds_toArray, List.set_cons_succ, List.set_cons_zero]
          refine wpStill_go (v := .int .i64 ((k : Int) % 4)) rfl rfl (stays_run fun w' h => by simp [go_sem, J3.out]) ?_
          simp only [Act.put, List.setIfInBounds_toArray, List.set_cons_succ, List.set_cons_zero]
          refine wpStill_go (v := .int .i64 (k : Nat)) rfl rfl (stays_run fun w' h => ex_move rfl rfl) ?_
          simp only [Act.put, List.setIfInBounds_toArray, List.set_cons_succ, List.set_cons_zero]
          refine wpStill_go (v := .int .i64 ((k : Int) / 4)) rfl rfl (stays_run fun w' h => by simp [go_sem, J4.out]) ?_
          simp only [Act.put, List.setIfInBounds_toArray, List.set_cons_succ, List.set_cons_zero]
          refine wpStill_skip rfl ?_
          refine wpStill_go (v := .int .i64 n) rfl rfl (stays_run fun w' h => ex_move rfl rfl) ?_
          simp only [Act.put, List.setIfInBounds_toArray, List.set_cons_succ, List.set_cons_zero]
          refine wpStill_go (v := .int .i64 (-n)) rfl rfl (stays_run fun w' h => by simp [go_sem, J5.out]) ?_
          simp only [Act.put, List.setIfInBounds_toArray, List.set_cons_succ, List.set_cons_zero]
          refine wpStill_skip rfl (wpStill_skip rfl (wpStill_skip rfl (wpStill_skip rfl (wpStill_nil ?_))))
          have F : Below w2.heap.size w2 w2.drew := (Below.refl _ _).drew
          refine wpTree_two (i := 2) (j := 15) (by kernel_rfl) rfl rfl rfl rfl (fun m1 hm1 K hK => ?_) (fun m1 hm1 K hK => ?_)
          · have F := F.trans (hm1.mono F.size)
            have sz := F.size
            go_wp2_with fail
            refine (clone_any A 16 ca M _ LM.out (by omega) (by omega) (hr.ext F)).mono ?_
            rintro e n1 ⟨v, rfl, ou, bv⟩
            have ou := ou.mono sz
            have F := F.trans (bv.mono F.size)
            obtain ⟨Au, cu, rfl⟩ := own_form ou
            go_wp2_with fail
            refine hK _ _ (fun _ => F) ?_
            clear hK bv sz
            refine wpTree_two (i := 10) (j := 15) (by kernel_rfl) rfl rfl rfl rfl (fun m2 hm2 K hK => ?_) (fun m2 hm2 K hK => ?_)
            · have F := F.trans (hm2.mono F.size)
              have ou := own_ext ou hm2
              have sz := F.size
              go_wp2_with fail
              refine (shifted_any _ cd b k _ Lb.out hpk (hr3.ext F)).mono ?_
              rintro e n2 ⟨rfl, rT1, bv⟩
              have F := F.trans (bv.mono F.size)
              have ou := own_ext ou bv
              obtain ⟨T1, hT1⟩ : ∃ T1, m2.heap.size = T1 := ⟨_, rfl⟩
              rw [hT1] at rT1 sz ⊢
              have lT1 := sz
              go_wp2_with fail
              refine hK _ _ (fun _ => F) ?_
              clear hK bv sz hT1
              refine wpTree_two (i := 13) (j := 15) (by kernel_rfl) rfl rfl rfl rfl (fun m3 hm3 K hK => ?_) (fun m3 hm3 K hK => ?_)
              · have F := F.trans (hm3.mono F.size)
                have rT1 := rT1.kept hm3
                have ou := own_ext ou hm3
                have sz := F.size
                go_wp2_with fail
                refine (addTimes_any B _ cb 16 L (shL b k) (-n) _ LL.out (shL_len b k) hbL hbS (by omega) (hr2.ext F) rT1.rd).mono ?_
                rintro e n3 ⟨rfl, rT2, bv⟩
                have hap : ∀ j, (Value.slice Au 16 cu).ownBlock = some j → j < m3.heap.size := fun j hj => (own_lt ou hj).2.1
                have F := F.trans (bv.mono F.size)
                have rT1 := rT1.kept bv
                have ou := own_ext ou bv
                obtain ⟨T2, hT2⟩ : ∃ T2, m3.heap.size = T2 := ⟨_, rfl⟩
                rw [hT2] at rT2 sz hap ⊢
                have lT2 := sz
                go_wp2_with fail
                refine hK _ _ (fun _ => F) ?_
                clear hK bv sz hT2
                refine wpTree_two (i := 14) (j := 15) (by kernel_rfl) rfl rfl rfl rfl (fun m4 hm4 K hK => ?_) (fun m4 hm4 K hK => ?_)
                · have F := F.trans (hm4.mono F.size)
                  have rT1 := rT1.kept hm4
                  have rT2 := rT2.kept hm4
                  have ou := own_ext ou hm4
                  go_wp2_with fail
                  refine hK _ _ (fun _ => F) ?_
                  clear hK
                  refine wpTree_one (i := 15) (by kernel_rfl) rfl rfl (fun m5 hm5 K hK => ?_)
                  have F := F.trans (hm5.mono F.size)
                  have rT1 := rT1.kept hm5
                  have rT2 := rT2.kept hm5
                  have ou := own_ext ou hm5
                  have lH := F.size
                  go_wp2_with fail
                  have rH := Row.new m5 43 [.slice none 0 0, .slice none 0 0]
                  have bv := bA1 (w := m5) (o := .cells #[.slice none 0 0, .slice none 0 0] 43)
                  have F := F.trans (bv.mono F.size)
                  have rT1 := rT1.kept bv
                  have rT2 := rT2.kept bv
                  have ou := own_ext ou bv
                  refine hK _ _ (fun _ => F) ?_
                  clear hK bv
                  obtain ⟨H, hH⟩ : ∃ H, m5.heap.size = H := ⟨_, rfl⟩
                  obtain ⟨V5, hV⟩ : ∃ V5, m5.alloc (.cells #[.slice none 0 0, .slice none 0 0] 43) = V5 := ⟨_, rfl⟩
                  rw [hV] at rT1 rT2 rH ou F ⊢
                  rw [hH] at rH lH ⊢
                  clear hV hH
                  refine wpTree_one (i := 16) (by kernel_rfl) rfl rfl (fun m6 hm6 K hK => ?_)
                  have F := F.trans (hm6.mono F.size)
                  have rT1 := rT1.kept hm6
                  have rT2 := rT2.kept hm6
                  have rH := rH.kept hm6
                  have ou := own_ext ou hm6
                  obtain ⟨q0, q1, q2, q3⟩ := rH.two
                  have hHu : ∀ j, (Value.slice Au 16 cu).ownBlock = some j → j ≠ H := fun j hj e => by obtain ⟨_, _, cs, fr, hc⟩ := own_lt ou hj; rw [e, show _ = _ from rH] at hc; injection hc with hc; injection hc with _ h2; revert h2; decide
                  have hHT : T2 ≠ H := fun e => by have h1 := rT2; rw [e] at h1; exact absurd rfl (Row.ne_ h1 rH (by decide))
                  have ou := own_over (own_over ou (grown_set m6 H 0 (.slice Au 16 cu)) (fun j hj e => by injection e with e; exact hHu j hj e.symm)) (grown_set _ H 1 (.slice (some ⟨T2, 0, none⟩) 16 16)) (fun j hj e => by injection e with e; exact hHu j hj e.symm)
                  have rT2 := (rT2.far (p := ⟨H, 0, none⟩) hHT (.slice Au 16 cu)).far (p := ⟨H, 1, none⟩) hHT (.slice (some ⟨T2, 0, none⟩) 16 16)
                  have rH := (rH.set_ 0 (.slice Au 16 cu)).set_ 1 (.slice (some ⟨T2, 0, none⟩) 16 16)
                  simp only [List.set_cons_zero, List.set_cons_succ] at rH
                  have F := (F.setCell (p := ⟨H, 0, none⟩) lH (.slice Au 16 cu)).setCell (p := ⟨H, 1, none⟩) lH (.slice (some ⟨T2, 0, none⟩) 16 16)
                  have OU := Lib.hid ou
                  have RT2 := Lib.hid rT2
                  have RH := Lib.hid rH
                  have FF := Lib.hid F
                  clear ou rT2 rH F
                  go_wp2_with fail
                  refine hK _ _ (fun _ => FF.out) (wpTree_nil (by kernel_rfl) fun me hme => ?_)
                  have bb := FF.out
                  exact ⟨H, Au, cu, T1, T2, rfl, own_ext OU.out hme, RT2.out.kept hme, RH.out.kept hme, bb.trans (hme.mono bb.size), lT2, lH, fun j hj e => by have := hap j hj; omega⟩
                · have F := F.trans (hm4.mono F.size)
                  have rT1 := rT1.kept hm4
                  have rT2 := rT2.kept hm4
                  have ou := own_ext ou hm4
                  have lH := F.size
                  go_wp2_with fail
                  have rH := Row.new m4 43 [.slice none 0 0, .slice none 0 0]
                  have bv := bA1 (w := m4) (o := .cells #[.slice none 0 0, .slice none 0 0] 43)
                  have F := F.trans (bv.mono F.size)
                  have rT1 := rT1.kept bv
                  have rT2 := rT2.kept bv
                  have ou := own_ext ou bv
                  refine hK _ _ (fun _ => F) ?_
                  clear hK bv
                  obtain ⟨H, hH⟩ : ∃ H, m4.heap.size = H := ⟨_, rfl⟩
                  obtain ⟨V4, hV⟩ : ∃ V4, m4.alloc (.cells #[.slice none 0 0, .slice none 0 0] 43) = V4 := ⟨_, rfl⟩
                  rw [hV] at rT1 rT2 rH ou F ⊢
                  rw [hH] at rH lH ⊢
                  clear hV hH
                  refine wpTree_one (i := 14) (by kernel_rfl) rfl rfl (fun m5 hm5 K hK => ?_)
                  have F := F.trans (hm5.mono F.size)
                  have rT1 := rT1.kept hm5
                  have rT2 := rT2.kept hm5
                  have rH := rH.kept hm5
                  have ou := own_ext ou hm5
                  go_wp2_with fail
                  refine hK _ _ (fun _ => F) ?_
                  clear hK
                  refine wpTree_one (i := 16) (by kernel_rfl) rfl rfl (fun m6 hm6 K hK => ?_)
                  have F := F.trans (hm6.mono F.size)
                  have rT1 := rT1.kept hm6
                  have rT2 := rT2.kept hm6
                  have rH := rH.kept hm6
                  have ou := own_ext ou hm6
                  obtain ⟨q0, q1, q2, q3⟩ := rH.two
                  have hHu : ∀ j, (Value.slice Au 16 cu).ownBlock = some j → j ≠ H := fun j hj e => by obtain ⟨_, _, cs, fr, hc⟩ := own_lt ou hj; rw [e, show _ = _ from rH] at hc; injection hc with hc; injection hc with _ h2; revert h2; decide
                  have hHT : T2 ≠ H := fun e => by have h1 := rT2; rw [e] at h1; exact absurd rfl (Row.ne_ h1 rH (by decide))
                  have ou := own_over (own_over ou (grown_set m6 H 0 (.slice Au 16 cu)) (fun j hj e => by injection e with e; exact hHu j hj e.symm)) (grown_set _ H 1 (.slice (some ⟨T2, 0, none⟩) 16 16)) (fun j hj e => by injection e with e; exact hHu j hj e.symm)
                  have rT2 := (rT2.far (p := ⟨H, 0, none⟩) hHT (.slice Au 16 cu)).far (p := ⟨H, 1, none⟩) hHT (.slice (some ⟨T2, 0, none⟩) 16 16)
                  have rH := (rH.set_ 0 (.slice Au 16 cu)).set_ 1 (.slice (some ⟨T2, 0, none⟩) 16 16)
                  simp only [List.set_cons_zero, List.set_cons_succ] at rH
                  have F := (F.setCell (p := ⟨H, 0, none⟩) lH (.slice Au 16 cu)).setCell (p := ⟨H, 1, none⟩) lH (.slice (some ⟨T2, 0, none⟩) 16 16)
                  have OU := Lib.hid ou
                  have RT2 := Lib.hid rT2
                  have RH := Lib.hid rH
                  have FF := Lib.hid F
                  clear ou rT2 rH F
                  go_wp2_with fail
                  refine hK _ _ (fun _ => FF.out) (wpTree_nil (by kernel_rfl) fun me hme => ?_)
                  have bb := FF.out
                  exact ⟨H, Au, cu, T1, T2, rfl, own_ext OU.out hme, RT2.out.kept hme, RH.out.kept hme, bb.trans (hme.mono bb.size), lT2, lH, fun j hj e => by have := hap j hj; omega⟩
              · have F := F.trans (hm3.mono F.size)
                have rT1 := rT1.kept hm3
                have ou := own_ext ou hm3
                have lH := F.size
                go_wp2_with fail
                have rH := Row.new m3 43 [.slice none 0 0, .slice none 0 0]
                have bv := bA1 (w := m3) (o := .cells #[.slice none 0 0, .slice none 0 0] 43)
                have F := F.trans (bv.mono F.size)
                have rT1 := rT1.kept bv
                have ou := own_ext ou bv
                refine hK _ _ (fun _ => F) ?_
                clear hK bv
                obtain ⟨H, hH⟩ : ∃ H, m3.heap.size = H := ⟨_, rfl⟩
                obtain ⟨V3, hV⟩ : ∃ V3, m3.alloc (.cells #[.slice none 0 0, .slice none 0 0] 43) = V3 := ⟨_, rfl⟩
                rw [hV] at rT1 rH ou F ⊢
                rw [hH] at rH lH ⊢
                clear hV hH
                refine wpTree_one (i := 13) (by kernel_rfl) rfl rfl (fun m4 hm4 K hK => ?_)
                have F := F.trans (hm4.mono F.size)
                have rT1 := rT1.kept hm4
                have rH := rH.kept hm4
                have ou := own_ext ou hm4
                have sz := F.size
                go_wp2_with fail
                refine (addTimes_any B _ cb 16 L (shL b k) (-n) _ LL.out (shL_len b k) hbL hbS (by omega) (hr2.ext F) rT1.rd).mono ?_
                rintro e n4 ⟨rfl, rT2, bv⟩
                have hap : ∀ j, (Value.slice Au 16 cu).ownBlock = some j → j < m4.heap.size := fun j hj => (own_lt ou hj).2.1
                have F := F.trans (bv.mono F.size)
                have rT1 := rT1.kept bv
                have rH := rH.kept bv
                have ou := own_ext ou bv
                obtain ⟨T2, hT2⟩ : ∃ T2, m4.heap.size = T2 := ⟨_, rfl⟩
                rw [hT2] at rT2 sz hap ⊢
                have lT2 := sz
                go_wp2_with fail
                refine hK _ _ (fun _ => F) ?_
                clear hK bv sz hT2
                refine wpTree_one (i := 14) (by kernel_rfl) rfl rfl (fun m5 hm5 K hK => ?_)
                have F := F.trans (hm5.mono F.size)
                have rT1 := rT1.kept hm5
                have rH := rH.kept hm5
                have rT2 := rT2.kept hm5
                have ou := own_ext ou hm5
                go_wp2_with fail
                refine hK _ _ (fun _ => F) ?_
                clear hK
                refine wpTree_one (i := 16) (by kernel_rfl) rfl rfl (fun m6 hm6 K hK => ?_)
                have F := F.trans (hm6.mono F.size)
                have rT1 := rT1.kept hm6
                have rH := rH.kept hm6
                have rT2 := rT2.kept hm6
                have ou := own_ext ou hm6
                obtain ⟨q0, q1, q2, q3⟩ := rH.two
                have hHu : ∀ j, (Value.slice Au 16 cu).ownBlock = some j → j ≠ H := fun j hj e => by obtain ⟨_, _, cs, fr, hc⟩ := own_lt ou hj; rw [e, show _ = _ from rH] at hc; injection hc with hc; injection hc with _ h2; revert h2; decide
                have hHT : T2 ≠ H := fun e => by have h1 := rT2; rw [e] at h1; exact absurd rfl (Row.ne_ h1 rH (by decide))
                have ou := own_over (own_over ou (grown_set m6 H 0 (.slice Au 16 cu)) (fun j hj e => by injection e with e; exact hHu j hj e.symm)) (grown_set _ H 1 (.slice (some ⟨T2, 0, none⟩) 16 16)) (fun j hj e => by injection e with e; exact hHu j hj e.symm)
                have rT2 := (rT2.far (p := ⟨H, 0, none⟩) hHT (.slice Au 16 cu)).far (p := ⟨H, 1, none⟩) hHT (.slice (some ⟨T2, 0, none⟩) 16 16)
                have rH := (rH.set_ 0 (.slice Au 16 cu)).set_ 1 (.slice (some ⟨T2, 0, none⟩) 16 16)
                simp only [List.set_cons_zero, List.set_cons_succ] at rH
                have F := (F.setCell (p := ⟨H, 0, none⟩) lH (.slice Au 16 cu)).setCell (p := ⟨H, 1, none⟩) lH (.slice (some ⟨T2, 0, none⟩) 16 16)
                have OU := Lib.hid ou
                have RT2 := Lib.hid rT2
                have RH := Lib.hid rH
                have FF := Lib.hid F
                clear ou rT2 rH F
                go_wp2_with fail
                refine hK _ _ (fun _ => FF.out) (wpTree_nil (by kernel_rfl) fun me hme => ?_)
                have bb := FF.out
                exact ⟨H, Au, cu, T1, T2, rfl, own_ext OU.out hme, RT2.out.kept hme, RH.out.kept hme, bb.trans (hme.mono bb.size), lT2, lH, fun j hj e => by have := hap j hj; omega⟩
            · have F := F.trans (hm2.mono F.size)
              have ou := own_ext ou hm2
              have lH := F.size
              go_wp2_with fail
              have rH := Row.new m2 43 [.slice none 0 0, .slice none 0 0]
              have bv := bA1 (w := m2) (o := .cells #[.slice none 0 0, .slice none 0 0] 43)
              have F := F.trans (bv.mono F.size)
              have ou := own_ext ou bv
              refine hK _ _ (fun _ => F) ?_
              clear hK bv
              obtain ⟨H, hH⟩ : ∃ H, m2.heap.size = H := ⟨_, rfl⟩
              obtain ⟨V2, hV⟩ : ∃ V2, m2.alloc (.cells #[.slice none 0 0, .slice none 0 0] 43) = V2 := ⟨_, rfl⟩
              rw [hV] at rH ou F ⊢
              rw [hH] at rH lH ⊢
              clear hV hH
              refine wpTree_one (i := 10) (by kernel_rfl) rfl rfl (fun m3 hm3 K hK => ?_)
              have F := F.trans (hm3.mono F.size)
              have rH := rH.kept hm3
              have ou := own_ext ou hm3
              have sz := F.size
              go_wp2_with fail
              refine (shifted_any _ cd b k _ Lb.out hpk (hr3.ext F)).mono ?_
              rintro e n3 ⟨rfl, rT1, bv⟩
              have F := F.trans (bv.mono F.size)
              have rH := rH.kept bv
              have ou := own_ext ou bv
              obtain ⟨T1, hT1⟩ : ∃ T1, m3.heap.size = T1 := ⟨_, rfl⟩
              rw [hT1] at rT1 sz ⊢
              have lT1 := sz
              go_wp2_with fail
              refine hK _ _ (fun _ => F) ?_
              clear hK bv sz hT1
              refine wpTree_one (i := 13) (by kernel_rfl) rfl rfl (fun m4 hm4 K hK => ?_)
              have F := F.trans (hm4.mono F.size)
              have rH := rH.kept hm4
              have rT1 := rT1.kept hm4
              have ou := own_ext ou hm4
              have sz := F.size
              go_wp2_with fail
              refine (addTimes_any B _ cb 16 L (shL b k) (-n) _ LL.out (shL_len b k) hbL hbS (by omega) (hr2.ext F) rT1.rd).mono ?_
              rintro e n4 ⟨rfl, rT2, bv⟩
              have hap : ∀ j, (Value.slice Au 16 cu).ownBlock = some j → j < m4.heap.size := fun j hj => (own_lt ou hj).2.1
              have F := F.trans (bv.mono F.size)
              have rH := rH.kept bv
              have rT1 := rT1.kept bv
              have ou := own_ext ou bv
              obtain ⟨T2, hT2⟩ : ∃ T2, m4.heap.size = T2 := ⟨_, rfl⟩
              rw [hT2] at rT2 sz hap ⊢
              have lT2 := sz
              go_wp2_with fail
              refine hK _ _ (fun _ => F) ?_
              clear hK bv sz hT2
              refine wpTree_one (i := 14) (by kernel_rfl) rfl rfl (fun m5 hm5 K hK => ?_)
              have F := F.trans (hm5.mono F.size)
              have rH := rH.kept hm5
              have rT1 := rT1.kept hm5
              have rT2 := rT2.kept hm5
              have ou := own_ext ou hm5
              go_wp2_with fail
              refine hK _ _ (fun _ => F) ?_
              clear hK
              refine wpTree_one (i := 16) (by kernel_rfl) rfl rfl (fun m6 hm6 K hK => ?_)
              have F := F.trans (hm6.mono F.size)
              have rH := rH.kept hm6
              have rT1 := rT1.kept hm6
              have rT2 := rT2.kept hm6
              have ou := own_ext ou hm6
              obtain ⟨q0, q1, q2, q3⟩ := rH.two
              have hHu : ∀ j, (Value.slice Au 16 cu).ownBlock = some j → j ≠ H := fun j hj e => by obtain ⟨_, _, cs, fr, hc⟩ := own_lt ou hj; rw [e, show _ = _ from rH] at hc; injection hc with hc; injection hc with _ h2; revert h2; decide
              have hHT : T2 ≠ H := fun e => by have h1 := rT2; rw [e] at h1; exact absurd rfl (Row.ne_ h1 rH (by decide))
              have ou := own_over (own_over ou (grown_set m6 H 0 (.slice Au 16 cu)) (fun j hj e => by injection e with e; exact hHu j hj e.symm)) (grown_set _ H 1 (.slice (some ⟨T2, 0, none⟩) 16 16)) (fun j hj e => by injection e with e; exact hHu j hj e.symm)
              have rT2 := (rT2.far (p := ⟨H, 0, none⟩) hHT (.slice Au 16 cu)).far (p := ⟨H, 1, none⟩) hHT (.slice (some ⟨T2, 0, none⟩) 16 16)
              have rH := (rH.set_ 0 (.slice Au 16 cu)).set_ 1 (.slice (some ⟨T2, 0, none⟩) 16 16)
              simp only [List.set_cons_zero, List.set_cons_succ] at rH
              have F := (F.setCell (p := ⟨H, 0, none⟩) lH (.slice Au 16 cu)).setCell (p := ⟨H, 1, none⟩) lH (.slice (some ⟨T2, 0, none⟩) 16 16)
              have OU := Lib.hid ou
              have RT2 := Lib.hid rT2
              have RH := Lib.hid rH
              have FF := Lib.hid F
              clear ou rT2 rH F
              go_wp2_with fail
              refine hK _ _ (fun _ => FF.out) (wpTree_nil (by kernel_rfl) fun me hme => ?_)
              have bb := FF.out
              exact ⟨H, Au, cu, T1, T2, rfl, own_ext OU.out hme, RT2.out.kept hme, RH.out.kept hme, bb.trans (hme.mono bb.size), lT2, lH, fun j hj e => by have := hap j hj; omega⟩
          · have F := F.trans (hm1.mono F.size)
            have lH := F.size
            go_wp2_with fail
            have rH := Row.new m1 43 [.slice none 0 0, .slice none 0 0]
            have bv := bA1 (w := m1) (o := .cells #[.slice none 0 0, .slice none 0 0] 43)
            have F := F.trans (bv.mono F.size)
            refine hK _ _ (fun _ => F) ?_
            clear hK bv
            obtain ⟨H, hH⟩ : ∃ H, m1.heap.size = H := ⟨_, rfl⟩
            obtain ⟨V1, hV⟩ : ∃ V1, m1.alloc (.cells #[.slice none 0 0, .slice none 0 0] 43) = V1 := ⟨_, rfl⟩
            rw [hV] at rH F ⊢
            rw [hH] at rH lH ⊢
            clear hV hH
            refine wpTree_one (i := 2) (by kernel_rfl) rfl rfl (fun m2 hm2 K hK => ?_)
            have F := F.trans (hm2.mono F.size)
            have rH := rH.kept hm2
            have sz := F.size
            go_wp2_with fail
            refine (clone_any A 16 ca M _ LM.out (by omega) (by omega) (hr.ext F)).mono ?_
            rintro e n2 ⟨v, rfl, ou, bv⟩
            have ou := ou.mono sz
            have F := F.trans (bv.mono F.size)
            have rH := rH.kept bv
            obtain ⟨Au, cu, rfl⟩ := own_form ou
            go_wp2_with fail
            refine hK _ _ (fun _ => F) ?_
            clear hK bv sz
            refine wpTree_one (i := 10) (by kernel_rfl) rfl rfl (fun m3 hm3 K hK => ?_)
            have F := F.trans (hm3.mono F.size)
            have rH := rH.kept hm3
            have ou := own_ext ou hm3
            have sz := F.size
            go_wp2_with fail
            refine (shifted_any _ cd b k _ Lb.out hpk (hr3.ext F)).mono ?_
            rintro e n3 ⟨rfl, rT1, bv⟩
            have F := F.trans (bv.mono F.size)
            have rH := rH.kept bv
            have ou := own_ext ou bv
            obtain ⟨T1, hT1⟩ : ∃ T1, m3.heap.size = T1 := ⟨_, rfl⟩
            rw [hT1] at rT1 sz ⊢
            have lT1 := sz
            go_wp2_with fail
            refine hK _ _ (fun _ => F) ?_
            clear hK bv sz hT1
            refine wpTree_one (i := 13) (by kernel_rfl) rfl rfl (fun m4 hm4 K hK => ?_)
            have F := F.trans (hm4.mono F.size)
            have rH := rH.kept hm4
            have rT1 := rT1.kept hm4
            have ou := own_ext ou hm4
            have sz := F.size
            go_wp2_with fail
            refine (addTimes_any B _ cb 16 L (shL b k) (-n) _ LL.out (shL_len b k) hbL hbS (by omega) (hr2.ext F) rT1.rd).mono ?_
            rintro e n4 ⟨rfl, rT2, bv⟩
            have hap : ∀ j, (Value.slice Au 16 cu).ownBlock = some j → j < m4.heap.size := fun j hj => (own_lt ou hj).2.1
            have F := F.trans (bv.mono F.size)
            have rH := rH.kept bv
            have rT1 := rT1.kept bv
            have ou := own_ext ou bv
            obtain ⟨T2, hT2⟩ : ∃ T2, m4.heap.size = T2 := ⟨_, rfl⟩
            rw [hT2] at rT2 sz hap ⊢
            have lT2 := sz
            go_wp2_with fail
            refine hK _ _ (fun _ => F) ?_
            clear hK bv sz hT2
            refine wpTree_one (i := 14) (by kernel_rfl) rfl rfl (fun m5 hm5 K hK => ?_)
            have F := F.trans (hm5.mono F.size)
            have rH := rH.kept hm5
            have rT1 := rT1.kept hm5
            have rT2 := rT2.kept hm5
            have ou := own_ext ou hm5
            go_wp2_with fail
            refine hK _ _ (fun _ => F) ?_
            clear hK
            refine wpTree_one (i := 16) (by kernel_rfl) rfl rfl (fun m6 hm6 K hK => ?_)
            have F := F.trans (hm6.mono F.size)
            have rH := rH.kept hm6
            have rT1 := rT1.kept hm6
            have rT2 := rT2.kept hm6
            have ou := own_ext ou hm6
            obtain ⟨q0, q1, q2, q3⟩ := rH.two
            have hHu : ∀ j, (Value.slice Au 16 cu).ownBlock = some j → j ≠ H := fun j hj e => by obtain ⟨_, _, cs, fr, hc⟩ := own_lt ou hj; rw [e, show _ = _ from rH] at hc; injection hc with hc; injection hc with _ h2; revert h2; decide
            have hHT : T2 ≠ H := fun e => by have h1 := rT2; rw [e] at h1; exact absurd rfl (Row.ne_ h1 rH (by decide))
            have ou := own_over (own_over ou (grown_set m6 H 0 (.slice Au 16 cu)) (fun j hj e => by injection e with e; exact hHu j hj e.symm)) (grown_set _ H 1 (.slice (some ⟨T2, 0, none⟩) 16 16)) (fun j hj e => by injection e with e; exact hHu j hj e.symm)
            have rT2 := (rT2.far (p := ⟨H, 0, none⟩) hHT (.slice Au 16 cu)).far (p := ⟨H, 1, none⟩) hHT (.slice (some ⟨T2, 0, none⟩) 16 16)
            have rH := (rH.set_ 0 (.slice Au 16 cu)).set_ 1 (.slice (some ⟨T2, 0, none⟩) 16 16)
            simp only [List.set_cons_zero, List.set_cons_succ] at rH
            have F := (F.setCell (p := ⟨H, 0, none⟩) lH (.slice Au 16 cu)).setCell (p := ⟨H, 1, none⟩) lH (.slice (some ⟨T2, 0, none⟩) 16 16)
            have OU := Lib.hid ou
            have RT2 := Lib.hid rT2
            have RH := Lib.hid rH
            have FF := Lib.hid F
            clear ou rT2 rH F
            go_wp2_with fail
            refine hK _ _ (fun _ => FF.out) (wpTree_nil (by kernel_rfl) fun me hme => ?_)
            have bb := FF.out
            exact ⟨H, Au, cu, T1, T2, rfl, own_ext OU.out hme, RT2.out.kept hme, RH.out.kept hme, bb.trans (hme.mono bb.size), lT2, lH, fun j hj e => by have := hap j hj; omega⟩
        case next =>
          rintro a' V ⟨H, Au, cu, T1, T2, rfl, ou, rT, rH, hB, lT, lH, hap⟩
          have rR := rR.kept hB
          have B3 := B2.trans (hB.mono B2.size)
          have B2s := B2.size
          have hx := (skyV_iff.1 HM.out).2 (M.getD k 0) (getD_mem (d := 0) (by rw [LM.out]; exact hpk))
          have px := ints_at' (l := M) (c := k) (by rw [LM.out]; exact hpk)
          obtain ⟨x, hxe⟩ : ∃ x, M.getD k 0 = x := ⟨_, rfl⟩
          rw [hxe] at hx px
          obtain ⟨g, rfl, hBg, hob, hc0, hf0, hset⟩ := own_set ou (i := k) px
          have ouS := hset (.int .i64 (x + n))
          rw [← List.map_set] at ouS
          have hgT : T2 ≠ g := fun e => hap g hob e.symm
          have hgH : H ≠ g := fun e => by
            obtain ⟨_, _, cs, fr, hc⟩ := own_lt ou hob
            rw [← e, show V.heap[H]? = _ from rH] at hc
            injection hc with hc
            injection hc with _ h2
            revert h2
            decide
          have hgR : w.heap.size + 1 ≠ g := fun e => by have := rR0.lt; omega
          have rTS := rT.far (p := ⟨g, k, none⟩) hgT (.int .i64 (x + n))
          have rHS := rH.far (p := ⟨g, k, none⟩) hgH (.int .i64 (x + n))
          have rRS := rR.far (p := ⟨g, k, none⟩) hgR (.int .i64 (x + n))
          have BS := B3.setCell (p := ⟨g, k, none⟩) (by show w.heap.size ≤ g; omega) (.int .i64 (x + n))
          obtain ⟨q0, q1, _, _⟩ := rH.two
          have j6 : IntKind.i64.wrap (x + n) = x + n := IntWalk.i64_in _ (by omega)
          obtain ⟨M2, hM2⟩ : ∃ M2, M.set k (x + n) = M2 := ⟨_, rfl⟩
          obtain ⟨L2, hL2⟩ : ∃ L2, addS L (shL b k) (-n) = L2 := ⟨_, rfl⟩
          have lM2 : M2.length = 16 := by rw [← hM2, List.length_set]; exact LM.out
          have lL2 : L2.length = 16 := by rw [← hL2]; exact addS_len _ _ _
          rw [hM2] at ouS
          rw [hL2] at rTS
          have hstep : cleanStep b (M, L) = if (skyV M2 && skyV L2) = true then some (M2, L2) else none := by
            unfold cleanStep
            dsimp only
            rw [Hm.out, Hy.out, Hn.out, Hk.out, hxe, hM2, hL2, HM.out, HL.out, Hb.out, if_pos ⟨rfl, rfl, hy1⟩, if_pos ⟨hm0, hn1⟩]
          have OU := Lib.hid ouS
          have RT := Lib.hid rTS
          have Hxe := Lib.hid hxe; clear hxe
          have Px := Lib.hid px; clear px
          have HM2 := Lib.hid hM2; clear hM2
          have HL2 := Lib.hid hL2; clear hL2
          have LM2 := Lib.hid lM2; clear lM2
          have LL2 := Lib.hid lL2; clear lL2
          have Hstep := Lib.hid hstep; clear hstep
          have J6 := Lib.hid j6; clear j6
          clear hset hob ou rT rH rR ouS rTS hap hr hr2 hr3
          simp only [Exit.then]
          have hkI : (k : Int) < 16 := by omega
          have J6' := J6.out
          go_wp2_with fail
          refine (cleanValid_any _ _ cu 16 M2 L2 _ LM2.out LL2.out (Rd.of_own OU.out) RT.out.rd).mono ?_
          rintro e V2 ⟨rfl, bv⟩
          have rHV := rHS.kept bv
          have rRV := rRS.kept bv
          have ouV := (own_ext OU.out bv).mono B2s
          have rTV := RT.out.kept bv
          have B4 := BS.trans (bv.mono BS.size)
          obtain ⟨ok, hok⟩ : ∃ ok, (skyV M2 && skyV L2) = ok := ⟨_, rfl⟩
          have hst := Hstep.out
          rw [hok] at hst ⊢
          clear rHS rRS bv q0 q1
          cases ok
          · have HNO := Lib.hid (show cleanStep b (M, L) = none by rw [hst]; rfl)
            clear hst rTV ouV
            have Hok := Lib.hid hok
            clear hok
            obtain ⟨q0, q1, q2, q3⟩ := rRV.two
            clear rHV
            go_wp2_with fail
            exact bodyPost_ret (v := .tuple #[.agg #[.slice none 0 0, .slice none 0 0], .bool false]) (by simp [results, Tryz.results78, go_sem, q0, q1]) rfl ⟨(B4.setCell (p := ⟨w.heap.size + 1, 0, none⟩) (by show w.heap.size ≤ w.heap.size + 1; omega) _).setCell (p := ⟨w.heap.size + 1, 1, none⟩) (by show w.heap.size ≤ w.heap.size + 1; omega) _, .inr ⟨HNO.out, rfl⟩⟩
          · have HYES := Lib.hid (show cleanStep b (M, L) = some (M2, L2) by rw [hst]; rfl)
            have Hok := Lib.hid hok
            have OUV := Lib.hid ouV
            have RTV := Lib.hid rTV
            clear hst hok ouV rTV
            obtain ⟨q0, q1, q2, q3⟩ := rRV.two
            obtain ⟨u0, u1, _, _⟩ := rHV.two
            have hRH : w.heap.size + 1 ≠ H := by have := rR0.lt; omega
            go_wp2_with fail
            have ouF := own_over (own_over OUV.out (grown_set V2 (w.heap.size + 1) 0 (.slice (some ⟨g, 0, none⟩) 16 cu)) (fun j hj e => by have := (own_lt OU.out hj).1; injection e with e; have := rR0.lt; omega)) (grown_set _ (w.heap.size + 1) 1 (.slice (some ⟨T2, 0, none⟩) 16 16)) (fun j hj e => by have := (own_lt OU.out hj).1; injection e with e; have := rR0.lt; omega)
            have hRT : T2 ≠ w.heap.size + 1 := by have := rR0.lt; omega
            have rTF := (RTV.out.far (p := ⟨w.heap.size + 1, 0, none⟩) hRT (.slice (some ⟨g, 0, none⟩) 16 cu)).far (p := ⟨w.heap.size + 1, 1, none⟩) hRT (.slice (some ⟨T2, 0, none⟩) 16 16)
            refine bodyPost_ret (v := .tuple #[.agg #[.slice (some ⟨g, 0, none⟩) 16 cu, .slice (some ⟨T2, 0, none⟩) 16 16], .bool true]) (by simp [results, Tryz.results78, go_sem, q0, q1]) rfl ⟨(B4.setCell (p := ⟨w.heap.size + 1, 0, none⟩) (by show w.heap.size ≤ w.heap.size + 1; omega) _).setCell (p := ⟨w.heap.size + 1, 1, none⟩) (by show w.heap.size ≤ w.heap.size + 1; omega) _, .inl ⟨(M2, L2), HYES.out, _, _, rfl, ouF, ?_⟩⟩
            exact rTF.own (by omega) (by rw [List.length_map, LL2.out]) (by decide)
end Go.Proofs.YtipgpafgampfbaaGreatDoor
