/- 'spec.CleanRun'. -/
import Derived.Test.YtipgpafgampfbaaGreatDoorSStep
import Derived.Test.YtipgpafgampfbaaGreatDoorRunC
namespace Go.Proofs.YtipgpafgampfbaaGreatDoor
open Go.RowKit
set_option maxRecDepth 100000 in
set_option maxHeartbeats 2000000 in
theorem sCleanRun_all (bA oA bB oB : Nat) (D : Option Addr) (ca cb cd m : Nat) (M L b : List Int) (w : World) (hm : m ≤ 200) (hM : skyV M = true) (hL : skyV L = true) (hb : skyV b = true) (hr : Rd w w.heap.size (some ⟨bA, oA, none⟩) (M.map (Value.int .i64))) (hr2 : Rd w w.heap.size (some ⟨bB, oB, none⟩) (L.map (Value.int .i64))) (hr3 : Rd w w.heap.size D (b.map (Value.int .i64))) :
    Calls Tryz.prog 168 #[.agg #[.slice (some ⟨bA, oA, none⟩) 16 ca, .slice (some ⟨bB, oB, none⟩) 16 cb], .slice D 16 cd, .int .i64 m] w fun e w' => Below w.heap.size w w' ∧
      ∃ u v, e = .returned (.tuple #[.agg #[u, v], .int .i64 ((cleanIter b m (M, L)).2 : Nat), .bool true]) ∧ w'.ownsRow w.heap.size 3 1 u 16 ((cleanIter b m (M, L)).1.1.map (Value.int .i64)) ∧ w'.ownsRow w.heap.size 3 1 v 16 ((cleanIter b m (M, L)).1.2.map (Value.int .i64)) := by
  obtain ⟨i0, hi, hz0, hz1, hz2⟩ := info_parts intInfo
  have lM := skyV_len hM
  have lL := skyV_len hL
  have lb := skyV_len hb
  have rB := (Row.new w 43 [.slice (some ⟨bA, oA, none⟩) 16 ca, .slice (some ⟨bB, oB, none⟩) 16 cb]).alloc (.cells #[.slice none 0 0, .slice none 0 0] 43)
  have rR := Row.new (w.alloc (.cells #[.slice (some ⟨bA, oA, none⟩) 16 ca, .slice (some ⟨bB, oB, none⟩) 16 cb] 43)) 43 [.slice none 0 0, .slice none 0 0]
  rw [World.size_alloc] at rR
  have b0 := bA2 (w := w) (o := .cells #[.slice (some ⟨bA, oA, none⟩) 16 ca, .slice (some ⟨bB, oB, none⟩) 16 cb] 43) (o' := .cells #[.slice none 0 0, .slice none 0 0] 43)
  have hr := hr.ext b0
  have hr2 := hr2.ext b0
  have hD0 := hr3
  have hr3 := hr3.ext b0
  obtain ⟨c0, c1, _, _⟩ := rB.two
  have hin : inR m 0 200 = true := inR_iff.2 (by omega)
  have HM := Lib.hid hM; clear hM
  have HL := Lib.hid hL; clear hL
  have Hb := Lib.hid hb; clear hb
  have LM := Lib.hid lM; clear lM
  have LL := Lib.hid lL; clear lL
  have Lb := Lib.hid lb; clear lb
  have Hin := Lib.hid hin; clear hin
  go_enter Tryz.func168, Tryz.ntmps168
  go_wp2_with fail
  refine (l24Valid_any _ _ ca cb M L _ LM.out LL.out hr hr2).mono ?_
  rintro e w1 ⟨rfl, b1⟩
  rw [HM.out, HL.out]
  have B1 := b0.trans (b1.mono b0.size)
  have extX := (hr.below b1).more b1.size; clear hr; have hr := extX; clear extX
  have extX := (hr2.below b1).more b1.size; clear hr2; have hr2 := extX; clear extX
  have extX := (hr3.below b1).more b1.size; clear hr3; have hr3 := extX; clear extX
  have rB := rB.kept b1
  have rR := rR.kept b1
  clear b1 c0 c1
  go_wp2_with fail
  refine (sSkyValid_any _ 16 cd b _ Lb.out (by omega) hr3).mono ?_
  rintro e w2 ⟨rfl, rfl⟩
  rw [Hb.out]
  go_wp2_with fail
  refine (l6In_any m 0 200 _).mono ?_
  rintro e w2 ⟨rfl, rfl⟩
  rw [Hin.out]
  go_wp2_with fail
  have hllM : (M.map (Value.int .i64)).length = 16 * 1 := by rw [List.length_map, LM.out]
  have hllL : (L.map (Value.int .i64)).length = 16 * 1 := by rw [List.length_map, LL.out]
  have honeM : ∀ u ∈ M.map (Value.int .i64), u.oneCell' = true := fun u hu => by
    obtain ⟨x, _, rfl⟩ := List.mem_map.1 hu
    rfl
  have honeL : ∀ u ∈ L.map (Value.int .i64), u.oneCell' = true := fun u hu => by
    obtain ⟨x, _, rfl⟩ := List.mem_map.1 hu
    rfl
  have HllM := Lib.hid hllM; clear hllM
  have HllL := Lib.hid hllL; clear hllL
  have HoneM := Lib.hid honeM; clear honeM
  have HoneL := Lib.hid honeL; clear honeL
  refine wp_region_T [0, 3, 4, 7, 8, 9, 10] [] [false, true, true, false, false, true, true, false, false, false, false] 7 (Below w1.heap.size w1)
    (fun a' w' => ∃ H Au cu Av cv E1 E2, a' = ⟨#[.agg #[.slice (some ⟨bA, oA, none⟩) 16 ca, .slice (some ⟨bB, oB, none⟩) 16 cb], .slice D 16 cd, .int .i64 m, .pointer (some ⟨w.heap.size, 0, none⟩), undef, undef, .pointer (some ⟨w.heap.size + 1, 0, none⟩), .int .i64 0, .bool false, .pointer (some ⟨H, 0, none⟩), undef, undef, undef, .agg #[.slice (some ⟨bA, oA, none⟩) 16 ca, .slice (some ⟨bB, oB, none⟩) 16 cb], .bool true, .bool false, .bool false, .slice D 16 cd, .bool true, .bool false, .bool false, .bool false, .int .i64 m, .bool true, .bool false, .bool false, undef, .slice (some ⟨E1, 0, none⟩) 0 0, .pointer (some ⟨w.heap.size, 0, none⟩), .slice (some ⟨bA, oA, none⟩) 16 ca, .slice Au 16 cu, .slice (some ⟨E2, 0, none⟩) 0 0, .pointer (some ⟨w.heap.size, 1, none⟩), .slice (some ⟨bB, oB, none⟩) 16 cb, .slice Av 16 cv, .agg #[.slice Au 16 cu, .slice Av 16 cv], undef, undef, undef, undef, undef, undef, undef, undef, undef, undef, undef, undef, undef, undef, undef, undef, undef, undef], []⟩ ∧ w'.ownsRow w1.heap.size 3 1 (.slice Au 16 cu) 16 (M.map (Value.int .i64)) ∧ w'.ownsRow w1.heap.size 3 1 (.slice Av 16 cv) 16 (L.map (Value.int .i64)) ∧
      Row w' H 43 [.slice Au 16 cu, .slice Av 16 cv] ∧ Below w1.heap.size w1 w' ∧ w1.heap.size ≤ H)
    (by kernel_rfl) (by kernel_rfl) (fun _ _ h h' => h.trans (h'.mono h.size)) (Below.refl _ _).drew ?next ?walk
  case walk =>
    refine wpStill_skip rfl ?_
    refine wpStill_go (v := .pointer (some ⟨w.heap.size, 0, none⟩)) rfl rfl (stays_run fun w' h => by simp [go_sem]) ?_
    simp only [Act.put, List.setIfInBounds_toArray, List.set_cons_succ, List.set_cons_zero]
    refine wpStill_go (v := .slice (some ⟨bA, oA, none⟩) 16 ca) rfl rfl (stays_run fun w' h => ex_load rfl rfl (ld_one (by kernel_rfl) ((rB.kept ‹_›).cell 0))) ?_
    simp only [Act.put, List.setIfInBounds_toArray, List.set_cons_succ, List.set_cons_zero]
    refine wpStill_skip rfl (wpStill_skip rfl ?_)
    refine wpStill_go (v := .pointer (some ⟨w.heap.size, 1, none⟩)) rfl rfl (stays_run fun w' h => by simp [go_sem]) ?_
    simp only [Act.put, List.setIfInBounds_toArray, List.set_cons_succ, List.set_cons_zero]
    refine wpStill_go (v := .slice (some ⟨bB, oB, none⟩) 16 cb) rfl rfl (stays_run fun w' h => ex_load rfl rfl (ld_one (by kernel_rfl) ((rB.kept ‹_›).cell 1))) ?_
    simp only [Act.put, List.setIfInBounds_toArray, List.set_cons_succ, List.set_cons_zero]
    refine wpStill_skip rfl (wpStill_skip rfl (wpStill_skip rfl (wpStill_skip rfl (wpStill_nil ?_))))
    have F : Below w1.heap.size w1 w1.drew := (Below.refl _ _).drew
    refine wpTree_three (i := 0) (j := 4) (k := 9) (by kernel_rfl) rfl rfl rfl rfl rfl rfl (fun m1 hm1 K hK => ?_) (fun m1 hm1 K hK => ?_) (fun m1 hm1 K hK => ?_)
    {
    have F := F.trans (hm1.mono F.size)
    go_wp2_with fail
    have lE1 := F.size
    have rE1 := Row.new m1 3 []
    have bv := bA1 (w := m1) (o := .cells #[] 3)
    have F := F.trans (bv.mono F.size)
    refine hK _ _ (fun _ => F) ?_
    clear hK bv
    obtain ⟨E1, hB⟩ : ∃ E1, m1.heap.size = E1 := ⟨_, rfl⟩
    obtain ⟨V1, hV⟩ : ∃ V, m1.alloc (.cells #[] 3) = V := ⟨_, rfl⟩
    rw [hV] at rE1 F ⊢
    rw [hB] at rE1 lE1 ⊢
    clear hB hV
    refine wpTree_three (i := 3) (j := 4) (k := 9) (by kernel_rfl) rfl rfl rfl rfl rfl rfl (fun m2 hm2 K hK => ?_) (fun m2 hm2 K hK => ?_) (fun m2 hm2 K hK => ?_)
    {
    have F := F.trans (hm2.mono F.size)
    have rE1 := rE1.kept hm2
    have oE := rE1.own (base := w1.heap.size) (n := 0) (size := 1) lE1 rfl (by decide)
    refine wp_app0 w1.heap.size rfl _ _ rfl E1 rfl oE bA oA ca M rfl LM.out (hr.ext F) F.size ?_
    intro Au cu n2 ou hgrow hat
    have sz := F.size
    have F := F.grown hgrow sz fun j hj => (own_lt oE hj).1
    clear hgrow oE rE1 sz hat
    simp only [Act.put, List.getElem_toArray, List.getElem_cons_succ, List.getElem_cons_zero, List.setIfInBounds_toArray, List.set_cons_succ, List.set_cons_zero]
    go_wp2_with fail
    refine hK _ _ (fun _ => F) ?_
    clear hK
    refine wpTree_two (i := 4) (j := 9) (by kernel_rfl) rfl rfl rfl rfl (fun m3 hm3 K hK => ?_) (fun m3 hm3 K hK => ?_)
    {
    have F := F.trans (hm3.mono F.size)
    have ou := own_ext ou hm3
    go_wp2_with fail
    have lE2 := F.size
    have l_ou_E2 : ∀ j, (Value.slice Au 16 cu).ownBlock = some j → j < m3.heap.size := fun j hj => (own_lt ou hj).2.1
    have rE2 := Row.new m3 3 []
    have bv := bA1 (w := m3) (o := .cells #[] 3)
    have F := F.trans (bv.mono F.size)
    have ou := own_ext ou bv
    refine hK _ _ (fun _ => F) ?_
    clear hK bv
    obtain ⟨E2, hB⟩ : ∃ E2, m3.heap.size = E2 := ⟨_, rfl⟩
    obtain ⟨V3, hV⟩ : ∃ V, m3.alloc (.cells #[] 3) = V := ⟨_, rfl⟩
    rw [hV] at rE2 ou F ⊢
    rw [hB] at rE2 lE2 l_ou_E2 ⊢
    clear hB hV
    have aU : ∀ j, (Value.slice Au 16 cu).ownBlock = some j → j ≠ E2 := fun j hj => by have := l_ou_E2 j hj; omega
    refine wpTree_two (i := 7) (j := 9) (by kernel_rfl) rfl rfl rfl rfl (fun m4 hm4 K hK => ?_) (fun m4 hm4 K hK => ?_)
    {
    have F := F.trans (hm4.mono F.size)
    have rE2 := rE2.kept hm4
    have ou := own_ext ou hm4
    have oE := rE2.own (base := w1.heap.size) (n := 0) (size := 1) lE2 rfl (by decide)
    refine wp_app0 w1.heap.size rfl _ _ rfl E2 rfl oE bB oB cb L rfl LL.out (hr2.ext F) F.size ?_
    intro Av cv n4 ov hgrow hat
    have sz := F.size
    have F := F.grown hgrow sz fun j hj => (own_lt oE hj).1
    have ou := own_over ou hgrow (fun j hj e => by cases e; exact aU _ hj rfl)
    clear hgrow oE rE2 sz hat
    simp only [Act.put, List.getElem_toArray, List.getElem_cons_succ, List.getElem_cons_zero, List.setIfInBounds_toArray, List.set_cons_succ, List.set_cons_zero]
    go_wp2_with fail
    refine hK _ _ (fun _ => F) ?_
    clear hK
    refine wpTree_two (i := 8) (j := 9) (by kernel_rfl) rfl rfl rfl rfl (fun m5 hm5 K hK => ?_) (fun m5 hm5 K hK => ?_)
    {
    have F := F.trans (hm5.mono F.size)
    have ou := own_ext ou hm5
    have ov := own_ext ov hm5
    go_wp2_with fail
    refine hK _ _ (fun _ => F) ?_
    clear hK
    refine wpTree_one (i := 9) (by kernel_rfl) rfl rfl (fun m6 hm6 K hK => ?_)
    have F := F.trans (hm6.mono F.size)
    have ou := own_ext ou hm6
    have ov := own_ext ov hm6
    go_wp2_with fail
    have lH := F.size
    have l_ou_H : ∀ j, (Value.slice Au 16 cu).ownBlock = some j → j < m6.heap.size := fun j hj => (own_lt ou hj).2.1
    have l_ov_H : ∀ j, (Value.slice Av 16 cv).ownBlock = some j → j < m6.heap.size := fun j hj => (own_lt ov hj).2.1
    have rH := Row.new m6 43 [.slice none 0 0, .slice none 0 0]
    have bv := bA1 (w := m6) (o := .cells #[.slice none 0 0, .slice none 0 0] 43)
    have F := F.trans (bv.mono F.size)
    have ou := own_ext ou bv
    have ov := own_ext ov bv
    refine hK _ _ (fun _ => F) ?_
    clear hK bv
    obtain ⟨H, hB⟩ : ∃ H, m6.heap.size = H := ⟨_, rfl⟩
    obtain ⟨V6, hV⟩ : ∃ V, m6.alloc (.cells #[.slice none 0 0, .slice none 0 0] 43) = V := ⟨_, rfl⟩
    rw [hV] at rH ou ov F ⊢
    rw [hB] at rH lH l_ou_H l_ov_H ⊢
    clear hB hV
    refine wpTree_one (i := 10) (by kernel_rfl) rfl rfl (fun m7 hm7 K hK => ?_)
    have F := F.trans (hm7.mono F.size)
    have rH := rH.kept hm7
    have ou := own_ext ou hm7
    have ov := own_ext ov hm7
    obtain ⟨q0, q1, q2, q3⟩ := rH.two
    have hf := Lib.hid (set_two 43 (by decide) (by decide) ou ov rH F lH)
    clear ou ov rH F
    go_wp2_with fail
    refine hK _ _ (fun _ => hf.out.2.2.2) (wpTree_nil (by kernel_rfl) fun me hme => ?_)
    obtain ⟨ou, ov, rH, F⟩ := hf.out
    exact ⟨H, Au, cu, Av, cv, E1, E2, rfl, own_ext ou hme, own_ext ov hme, rH.kept hme, F.trans (hme.mono F.size), lH⟩
    }
    {
    have F := F.trans (hm5.mono F.size)
    have ou := own_ext ou hm5
    have ov := own_ext ov hm5
    go_wp2_with fail
    have lH := F.size
    have l_ou_H : ∀ j, (Value.slice Au 16 cu).ownBlock = some j → j < m5.heap.size := fun j hj => (own_lt ou hj).2.1
    have l_ov_H : ∀ j, (Value.slice Av 16 cv).ownBlock = some j → j < m5.heap.size := fun j hj => (own_lt ov hj).2.1
    have rH := Row.new m5 43 [.slice none 0 0, .slice none 0 0]
    have bv := bA1 (w := m5) (o := .cells #[.slice none 0 0, .slice none 0 0] 43)
    have F := F.trans (bv.mono F.size)
    have ou := own_ext ou bv
    have ov := own_ext ov bv
    refine hK _ _ (fun _ => F) ?_
    clear hK bv
    obtain ⟨H, hB⟩ : ∃ H, m5.heap.size = H := ⟨_, rfl⟩
    obtain ⟨V5, hV⟩ : ∃ V, m5.alloc (.cells #[.slice none 0 0, .slice none 0 0] 43) = V := ⟨_, rfl⟩
    rw [hV] at rH ou ov F ⊢
    rw [hB] at rH lH l_ou_H l_ov_H ⊢
    clear hB hV
    refine wpTree_one (i := 8) (by kernel_rfl) rfl rfl (fun m6 hm6 K hK => ?_)
    have F := F.trans (hm6.mono F.size)
    have rH := rH.kept hm6
    have ou := own_ext ou hm6
    have ov := own_ext ov hm6
    go_wp2_with fail
    refine hK _ _ (fun _ => F) ?_
    clear hK
    refine wpTree_one (i := 10) (by kernel_rfl) rfl rfl (fun m7 hm7 K hK => ?_)
    have F := F.trans (hm7.mono F.size)
    have rH := rH.kept hm7
    have ou := own_ext ou hm7
    have ov := own_ext ov hm7
    obtain ⟨q0, q1, q2, q3⟩ := rH.two
    have hf := Lib.hid (set_two 43 (by decide) (by decide) ou ov rH F lH)
    clear ou ov rH F
    go_wp2_with fail
    refine hK _ _ (fun _ => hf.out.2.2.2) (wpTree_nil (by kernel_rfl) fun me hme => ?_)
    obtain ⟨ou, ov, rH, F⟩ := hf.out
    exact ⟨H, Au, cu, Av, cv, E1, E2, rfl, own_ext ou hme, own_ext ov hme, rH.kept hme, F.trans (hme.mono F.size), lH⟩
    }
    }
    {
    have F := F.trans (hm4.mono F.size)
    have rE2 := rE2.kept hm4
    have ou := own_ext ou hm4
    go_wp2_with fail
    have lH := F.size
    have l_rE2_H := rE2.lt
    have l_ou_H : ∀ j, (Value.slice Au 16 cu).ownBlock = some j → j < m4.heap.size := fun j hj => (own_lt ou hj).2.1
    have rH := Row.new m4 43 [.slice none 0 0, .slice none 0 0]
    have bv := bA1 (w := m4) (o := .cells #[.slice none 0 0, .slice none 0 0] 43)
    have F := F.trans (bv.mono F.size)
    have rE2 := rE2.kept bv
    have ou := own_ext ou bv
    refine hK _ _ (fun _ => F) ?_
    clear hK bv
    obtain ⟨H, hB⟩ : ∃ H, m4.heap.size = H := ⟨_, rfl⟩
    obtain ⟨V4, hV⟩ : ∃ V, m4.alloc (.cells #[.slice none 0 0, .slice none 0 0] 43) = V := ⟨_, rfl⟩
    rw [hV] at rE2 rH ou F ⊢
    rw [hB] at rH lH l_rE2_H l_ou_H ⊢
    clear hB hV
    refine wpTree_one (i := 7) (by kernel_rfl) rfl rfl (fun m5 hm5 K hK => ?_)
    have F := F.trans (hm5.mono F.size)
    have rE2 := rE2.kept hm5
    have rH := rH.kept hm5
    have ou := own_ext ou hm5
    have oE := rE2.own (base := w1.heap.size) (n := 0) (size := 1) lE2 rfl (by decide)
    refine wp_app0 w1.heap.size rfl _ _ rfl E2 rfl oE bB oB cb L rfl LL.out (hr2.ext F) F.size ?_
    intro Av cv n5 ov hgrow hat
    have sz := F.size
    have F := F.grown hgrow sz fun j hj => (own_lt oE hj).1
    have rH := rH.grown hgrow (some_ne (a := H) (b := E2) (by omega))
    have ou := own_over ou hgrow (fun j hj e => by cases e; exact aU _ hj rfl)
    clear hgrow oE rE2 sz hat
    simp only [Act.put, List.getElem_toArray, List.getElem_cons_succ, List.getElem_cons_zero, List.setIfInBounds_toArray, List.set_cons_succ, List.set_cons_zero]
    go_wp2_with fail
    refine hK _ _ (fun _ => F) ?_
    clear hK
    refine wpTree_one (i := 8) (by kernel_rfl) rfl rfl (fun m6 hm6 K hK => ?_)
    have F := F.trans (hm6.mono F.size)
    have rH := rH.kept hm6
    have ou := own_ext ou hm6
    have ov := own_ext ov hm6
    go_wp2_with fail
    refine hK _ _ (fun _ => F) ?_
    clear hK
    refine wpTree_one (i := 10) (by kernel_rfl) rfl rfl (fun m7 hm7 K hK => ?_)
    have F := F.trans (hm7.mono F.size)
    have rH := rH.kept hm7
    have ou := own_ext ou hm7
    have ov := own_ext ov hm7
    obtain ⟨q0, q1, q2, q3⟩ := rH.two
    have hf := Lib.hid (set_two 43 (by decide) (by decide) ou ov rH F lH)
    clear ou ov rH F
    go_wp2_with fail
    refine hK _ _ (fun _ => hf.out.2.2.2) (wpTree_nil (by kernel_rfl) fun me hme => ?_)
    obtain ⟨ou, ov, rH, F⟩ := hf.out
    exact ⟨H, Au, cu, Av, cv, E1, E2, rfl, own_ext ou hme, own_ext ov hme, rH.kept hme, F.trans (hme.mono F.size), lH⟩
    }
    }
    {
    have F := F.trans (hm3.mono F.size)
    have ou := own_ext ou hm3
    go_wp2_with fail
    have lH := F.size
    have l_ou_H : ∀ j, (Value.slice Au 16 cu).ownBlock = some j → j < m3.heap.size := fun j hj => (own_lt ou hj).2.1
    have rH := Row.new m3 43 [.slice none 0 0, .slice none 0 0]
    have bv := bA1 (w := m3) (o := .cells #[.slice none 0 0, .slice none 0 0] 43)
    have F := F.trans (bv.mono F.size)
    have ou := own_ext ou bv
    refine hK _ _ (fun _ => F) ?_
    clear hK bv
    obtain ⟨H, hB⟩ : ∃ H, m3.heap.size = H := ⟨_, rfl⟩
    obtain ⟨V3, hV⟩ : ∃ V, m3.alloc (.cells #[.slice none 0 0, .slice none 0 0] 43) = V := ⟨_, rfl⟩
    rw [hV] at rH ou F ⊢
    rw [hB] at rH lH l_ou_H ⊢
    clear hB hV
    refine wpTree_one (i := 4) (by kernel_rfl) rfl rfl (fun m4 hm4 K hK => ?_)
    have F := F.trans (hm4.mono F.size)
    have rH := rH.kept hm4
    have ou := own_ext ou hm4
    go_wp2_with fail
    have lE2 := F.size
    have l_rH_E2 := rH.lt
    have l_ou_E2 : ∀ j, (Value.slice Au 16 cu).ownBlock = some j → j < m4.heap.size := fun j hj => (own_lt ou hj).2.1
    have rE2 := Row.new m4 3 []
    have bv := bA1 (w := m4) (o := .cells #[] 3)
    have F := F.trans (bv.mono F.size)
    have rH := rH.kept bv
    have ou := own_ext ou bv
    refine hK _ _ (fun _ => F) ?_
    clear hK bv
    obtain ⟨E2, hB⟩ : ∃ E2, m4.heap.size = E2 := ⟨_, rfl⟩
    obtain ⟨V4, hV⟩ : ∃ V, m4.alloc (.cells #[] 3) = V := ⟨_, rfl⟩
    rw [hV] at rH rE2 ou F ⊢
    rw [hB] at rE2 lE2 l_rH_E2 l_ou_E2 ⊢
    clear hB hV
    have aU : ∀ j, (Value.slice Au 16 cu).ownBlock = some j → j ≠ E2 := fun j hj => by have := l_ou_E2 j hj; omega
    refine wpTree_one (i := 7) (by kernel_rfl) rfl rfl (fun m5 hm5 K hK => ?_)
    have F := F.trans (hm5.mono F.size)
    have rH := rH.kept hm5
    have rE2 := rE2.kept hm5
    have ou := own_ext ou hm5
    have oE := rE2.own (base := w1.heap.size) (n := 0) (size := 1) lE2 rfl (by decide)
    refine wp_app0 w1.heap.size rfl _ _ rfl E2 rfl oE bB oB cb L rfl LL.out (hr2.ext F) F.size ?_
    intro Av cv n5 ov hgrow hat
    have sz := F.size
    have F := F.grown hgrow sz fun j hj => (own_lt oE hj).1
    have rH := rH.grown hgrow (some_ne (a := H) (b := E2) (by omega))
    have ou := own_over ou hgrow (fun j hj e => by cases e; exact aU _ hj rfl)
    clear hgrow oE rE2 sz hat
    simp only [Act.put, List.getElem_toArray, List.getElem_cons_succ, List.getElem_cons_zero, List.setIfInBounds_toArray, List.set_cons_succ, List.set_cons_zero]
    go_wp2_with fail
    refine hK _ _ (fun _ => F) ?_
    clear hK
    refine wpTree_one (i := 8) (by kernel_rfl) rfl rfl (fun m6 hm6 K hK => ?_)
    have F := F.trans (hm6.mono F.size)
    have rH := rH.kept hm6
    have ou := own_ext ou hm6
    have ov := own_ext ov hm6
    go_wp2_with fail
    refine hK _ _ (fun _ => F) ?_
    clear hK
    refine wpTree_one (i := 10) (by kernel_rfl) rfl rfl (fun m7 hm7 K hK => ?_)
    have F := F.trans (hm7.mono F.size)
    have rH := rH.kept hm7
    have ou := own_ext ou hm7
    have ov := own_ext ov hm7
    obtain ⟨q0, q1, q2, q3⟩ := rH.two
    have hf := Lib.hid (set_two 43 (by decide) (by decide) ou ov rH F lH)
    clear ou ov rH F
    go_wp2_with fail
    refine hK _ _ (fun _ => hf.out.2.2.2) (wpTree_nil (by kernel_rfl) fun me hme => ?_)
    obtain ⟨ou, ov, rH, F⟩ := hf.out
    exact ⟨H, Au, cu, Av, cv, E1, E2, rfl, own_ext ou hme, own_ext ov hme, rH.kept hme, F.trans (hme.mono F.size), lH⟩
    }
    }
    {
    have F := F.trans (hm2.mono F.size)
    have rE1 := rE1.kept hm2
    go_wp2_with fail
    have lE2 := F.size
    have l_rE1_E2 := rE1.lt
    have rE2 := Row.new m2 3 []
    have bv := bA1 (w := m2) (o := .cells #[] 3)
    have F := F.trans (bv.mono F.size)
    have rE1 := rE1.kept bv
    refine hK _ _ (fun _ => F) ?_
    clear hK bv
    obtain ⟨E2, hB⟩ : ∃ E2, m2.heap.size = E2 := ⟨_, rfl⟩
    obtain ⟨V2, hV⟩ : ∃ V, m2.alloc (.cells #[] 3) = V := ⟨_, rfl⟩
    rw [hV] at rE1 rE2 F ⊢
    rw [hB] at rE2 lE2 l_rE1_E2 ⊢
    clear hB hV
    refine wpTree_two (i := 3) (j := 9) (by kernel_rfl) rfl rfl rfl rfl (fun m3 hm3 K hK => ?_) (fun m3 hm3 K hK => ?_)
    {
    have F := F.trans (hm3.mono F.size)
    have rE1 := rE1.kept hm3
    have rE2 := rE2.kept hm3
    have oE := rE1.own (base := w1.heap.size) (n := 0) (size := 1) lE1 rfl (by decide)
    refine wp_app0 w1.heap.size rfl _ _ rfl E1 rfl oE bA oA ca M rfl LM.out (hr.ext F) F.size ?_
    intro Au cu n3 ou hgrow hat
    have l_m_E2 := rE2.lt
    have aU : ∀ j, (Value.slice Au 16 cu).ownBlock = some j → j ≠ E2 := fun j hj => by have := hat j hj; omega
    have sz := F.size
    have F := F.grown hgrow sz fun j hj => (own_lt oE hj).1
    have rE2 := rE2.grown hgrow (some_ne (a := E2) (b := E1) (by omega))
    clear hgrow oE rE1 sz hat
    simp only [Act.put, List.getElem_toArray, List.getElem_cons_succ, List.getElem_cons_zero, List.setIfInBounds_toArray, List.set_cons_succ, List.set_cons_zero]
    go_wp2_with fail
    refine hK _ _ (fun _ => F) ?_
    clear hK
    refine wpTree_two (i := 7) (j := 9) (by kernel_rfl) rfl rfl rfl rfl (fun m4 hm4 K hK => ?_) (fun m4 hm4 K hK => ?_)
    {
    have F := F.trans (hm4.mono F.size)
    have rE2 := rE2.kept hm4
    have ou := own_ext ou hm4
    have oE := rE2.own (base := w1.heap.size) (n := 0) (size := 1) lE2 rfl (by decide)
    refine wp_app0 w1.heap.size rfl _ _ rfl E2 rfl oE bB oB cb L rfl LL.out (hr2.ext F) F.size ?_
    intro Av cv n4 ov hgrow hat
    have sz := F.size
    have F := F.grown hgrow sz fun j hj => (own_lt oE hj).1
    have ou := own_over ou hgrow (fun j hj e => by cases e; exact aU _ hj rfl)
    clear hgrow oE rE2 sz hat
    simp only [Act.put, List.getElem_toArray, List.getElem_cons_succ, List.getElem_cons_zero, List.setIfInBounds_toArray, List.set_cons_succ, List.set_cons_zero]
    go_wp2_with fail
    refine hK _ _ (fun _ => F) ?_
    clear hK
    refine wpTree_two (i := 8) (j := 9) (by kernel_rfl) rfl rfl rfl rfl (fun m5 hm5 K hK => ?_) (fun m5 hm5 K hK => ?_)
    {
    have F := F.trans (hm5.mono F.size)
    have ou := own_ext ou hm5
    have ov := own_ext ov hm5
    go_wp2_with fail
    refine hK _ _ (fun _ => F) ?_
    clear hK
    refine wpTree_one (i := 9) (by kernel_rfl) rfl rfl (fun m6 hm6 K hK => ?_)
    have F := F.trans (hm6.mono F.size)
    have ou := own_ext ou hm6
    have ov := own_ext ov hm6
    go_wp2_with fail
    have lH := F.size
    have l_ou_H : ∀ j, (Value.slice Au 16 cu).ownBlock = some j → j < m6.heap.size := fun j hj => (own_lt ou hj).2.1
    have l_ov_H : ∀ j, (Value.slice Av 16 cv).ownBlock = some j → j < m6.heap.size := fun j hj => (own_lt ov hj).2.1
    have rH := Row.new m6 43 [.slice none 0 0, .slice none 0 0]
    have bv := bA1 (w := m6) (o := .cells #[.slice none 0 0, .slice none 0 0] 43)
    have F := F.trans (bv.mono F.size)
    have ou := own_ext ou bv
    have ov := own_ext ov bv
    refine hK _ _ (fun _ => F) ?_
    clear hK bv
    obtain ⟨H, hB⟩ : ∃ H, m6.heap.size = H := ⟨_, rfl⟩
    obtain ⟨V6, hV⟩ : ∃ V, m6.alloc (.cells #[.slice none 0 0, .slice none 0 0] 43) = V := ⟨_, rfl⟩
    rw [hV] at rH ou ov F ⊢
    rw [hB] at rH lH l_ou_H l_ov_H ⊢
    clear hB hV
    refine wpTree_one (i := 10) (by kernel_rfl) rfl rfl (fun m7 hm7 K hK => ?_)
    have F := F.trans (hm7.mono F.size)
    have rH := rH.kept hm7
    have ou := own_ext ou hm7
    have ov := own_ext ov hm7
    obtain ⟨q0, q1, q2, q3⟩ := rH.two
    have hf := Lib.hid (set_two 43 (by decide) (by decide) ou ov rH F lH)
    clear ou ov rH F
    go_wp2_with fail
    refine hK _ _ (fun _ => hf.out.2.2.2) (wpTree_nil (by kernel_rfl) fun me hme => ?_)
    obtain ⟨ou, ov, rH, F⟩ := hf.out
    exact ⟨H, Au, cu, Av, cv, E1, E2, rfl, own_ext ou hme, own_ext ov hme, rH.kept hme, F.trans (hme.mono F.size), lH⟩
    }
    {
    have F := F.trans (hm5.mono F.size)
    have ou := own_ext ou hm5
    have ov := own_ext ov hm5
    go_wp2_with fail
    have lH := F.size
    have l_ou_H : ∀ j, (Value.slice Au 16 cu).ownBlock = some j → j < m5.heap.size := fun j hj => (own_lt ou hj).2.1
    have l_ov_H : ∀ j, (Value.slice Av 16 cv).ownBlock = some j → j < m5.heap.size := fun j hj => (own_lt ov hj).2.1
    have rH := Row.new m5 43 [.slice none 0 0, .slice none 0 0]
    have bv := bA1 (w := m5) (o := .cells #[.slice none 0 0, .slice none 0 0] 43)
    have F := F.trans (bv.mono F.size)
    have ou := own_ext ou bv
    have ov := own_ext ov bv
    refine hK _ _ (fun _ => F) ?_
    clear hK bv
    obtain ⟨H, hB⟩ : ∃ H, m5.heap.size = H := ⟨_, rfl⟩
    obtain ⟨V5, hV⟩ : ∃ V, m5.alloc (.cells #[.slice none 0 0, .slice none 0 0] 43) = V := ⟨_, rfl⟩
    rw [hV] at rH ou ov F ⊢
    rw [hB] at rH lH l_ou_H l_ov_H ⊢
    clear hB hV
    refine wpTree_one (i := 8) (by kernel_rfl) rfl rfl (fun m6 hm6 K hK => ?_)
    have F := F.trans (hm6.mono F.size)
    have rH := rH.kept hm6
    have ou := own_ext ou hm6
    have ov := own_ext ov hm6
    go_wp2_with fail
    refine hK _ _ (fun _ => F) ?_
    clear hK
    refine wpTree_one (i := 10) (by kernel_rfl) rfl rfl (fun m7 hm7 K hK => ?_)
    have F := F.trans (hm7.mono F.size)
    have rH := rH.kept hm7
    have ou := own_ext ou hm7
    have ov := own_ext ov hm7
    obtain ⟨q0, q1, q2, q3⟩ := rH.two
    have hf := Lib.hid (set_two 43 (by decide) (by decide) ou ov rH F lH)
    clear ou ov rH F
    go_wp2_with fail
    refine hK _ _ (fun _ => hf.out.2.2.2) (wpTree_nil (by kernel_rfl) fun me hme => ?_)
    obtain ⟨ou, ov, rH, F⟩ := hf.out
    exact ⟨H, Au, cu, Av, cv, E1, E2, rfl, own_ext ou hme, own_ext ov hme, rH.kept hme, F.trans (hme.mono F.size), lH⟩
    }
    }
    {
    have F := F.trans (hm4.mono F.size)
    have rE2 := rE2.kept hm4
    have ou := own_ext ou hm4
    go_wp2_with fail
    have lH := F.size
    have l_rE2_H := rE2.lt
    have l_ou_H : ∀ j, (Value.slice Au 16 cu).ownBlock = some j → j < m4.heap.size := fun j hj => (own_lt ou hj).2.1
    have rH := Row.new m4 43 [.slice none 0 0, .slice none 0 0]
    have bv := bA1 (w := m4) (o := .cells #[.slice none 0 0, .slice none 0 0] 43)
    have F := F.trans (bv.mono F.size)
    have rE2 := rE2.kept bv
    have ou := own_ext ou bv
    refine hK _ _ (fun _ => F) ?_
    clear hK bv
    obtain ⟨H, hB⟩ : ∃ H, m4.heap.size = H := ⟨_, rfl⟩
    obtain ⟨V4, hV⟩ : ∃ V, m4.alloc (.cells #[.slice none 0 0, .slice none 0 0] 43) = V := ⟨_, rfl⟩
    rw [hV] at rE2 rH ou F ⊢
    rw [hB] at rH lH l_rE2_H l_ou_H ⊢
    clear hB hV
    refine wpTree_one (i := 7) (by kernel_rfl) rfl rfl (fun m5 hm5 K hK => ?_)
    have F := F.trans (hm5.mono F.size)
    have rE2 := rE2.kept hm5
    have rH := rH.kept hm5
    have ou := own_ext ou hm5
    have oE := rE2.own (base := w1.heap.size) (n := 0) (size := 1) lE2 rfl (by decide)
    refine wp_app0 w1.heap.size rfl _ _ rfl E2 rfl oE bB oB cb L rfl LL.out (hr2.ext F) F.size ?_
    intro Av cv n5 ov hgrow hat
    have sz := F.size
    have F := F.grown hgrow sz fun j hj => (own_lt oE hj).1
    have rH := rH.grown hgrow (some_ne (a := H) (b := E2) (by omega))
    have ou := own_over ou hgrow (fun j hj e => by cases e; exact aU _ hj rfl)
    clear hgrow oE rE2 sz hat
    simp only [Act.put, List.getElem_toArray, List.getElem_cons_succ, List.getElem_cons_zero, List.setIfInBounds_toArray, List.set_cons_succ, List.set_cons_zero]
    go_wp2_with fail
    refine hK _ _ (fun _ => F) ?_
    clear hK
    refine wpTree_one (i := 8) (by kernel_rfl) rfl rfl (fun m6 hm6 K hK => ?_)
    have F := F.trans (hm6.mono F.size)
    have rH := rH.kept hm6
    have ou := own_ext ou hm6
    have ov := own_ext ov hm6
    go_wp2_with fail
    refine hK _ _ (fun _ => F) ?_
    clear hK
    refine wpTree_one (i := 10) (by kernel_rfl) rfl rfl (fun m7 hm7 K hK => ?_)
    have F := F.trans (hm7.mono F.size)
    have rH := rH.kept hm7
    have ou := own_ext ou hm7
    have ov := own_ext ov hm7
    obtain ⟨q0, q1, q2, q3⟩ := rH.two
    have hf := Lib.hid (set_two 43 (by decide) (by decide) ou ov rH F lH)
    clear ou ov rH F
    go_wp2_with fail
    refine hK _ _ (fun _ => hf.out.2.2.2) (wpTree_nil (by kernel_rfl) fun me hme => ?_)
    obtain ⟨ou, ov, rH, F⟩ := hf.out
    exact ⟨H, Au, cu, Av, cv, E1, E2, rfl, own_ext ou hme, own_ext ov hme, rH.kept hme, F.trans (hme.mono F.size), lH⟩
    }
    }
    {
    have F := F.trans (hm3.mono F.size)
    have rE1 := rE1.kept hm3
    have rE2 := rE2.kept hm3
    go_wp2_with fail
    have lH := F.size
    have l_rE1_H := rE1.lt
    have l_rE2_H := rE2.lt
    have rH := Row.new m3 43 [.slice none 0 0, .slice none 0 0]
    have bv := bA1 (w := m3) (o := .cells #[.slice none 0 0, .slice none 0 0] 43)
    have F := F.trans (bv.mono F.size)
    have rE1 := rE1.kept bv
    have rE2 := rE2.kept bv
    refine hK _ _ (fun _ => F) ?_
    clear hK bv
    obtain ⟨H, hB⟩ : ∃ H, m3.heap.size = H := ⟨_, rfl⟩
    obtain ⟨V3, hV⟩ : ∃ V, m3.alloc (.cells #[.slice none 0 0, .slice none 0 0] 43) = V := ⟨_, rfl⟩
    rw [hV] at rE1 rE2 rH F ⊢
    rw [hB] at rH lH l_rE1_H l_rE2_H ⊢
    clear hB hV
    refine wpTree_one (i := 3) (by kernel_rfl) rfl rfl (fun m4 hm4 K hK => ?_)
    have F := F.trans (hm4.mono F.size)
    have rE1 := rE1.kept hm4
    have rE2 := rE2.kept hm4
    have rH := rH.kept hm4
    have oE := rE1.own (base := w1.heap.size) (n := 0) (size := 1) lE1 rfl (by decide)
    refine wp_app0 w1.heap.size rfl _ _ rfl E1 rfl oE bA oA ca M rfl LM.out (hr.ext F) F.size ?_
    intro Au cu n4 ou hgrow hat
    have l_m_E2 := rE2.lt
    have aU : ∀ j, (Value.slice Au 16 cu).ownBlock = some j → j ≠ E2 := fun j hj => by have := hat j hj; omega
    have sz := F.size
    have F := F.grown hgrow sz fun j hj => (own_lt oE hj).1
    have rE2 := rE2.grown hgrow (some_ne (a := E2) (b := E1) (by omega))
    have rH := rH.grown hgrow (some_ne (a := H) (b := E1) (by omega))
    clear hgrow oE rE1 sz hat
    simp only [Act.put, List.getElem_toArray, List.getElem_cons_succ, List.getElem_cons_zero, List.setIfInBounds_toArray, List.set_cons_succ, List.set_cons_zero]
    go_wp2_with fail
    refine hK _ _ (fun _ => F) ?_
    clear hK
    refine wpTree_one (i := 7) (by kernel_rfl) rfl rfl (fun m5 hm5 K hK => ?_)
    have F := F.trans (hm5.mono F.size)
    have rE2 := rE2.kept hm5
    have rH := rH.kept hm5
    have ou := own_ext ou hm5
    have oE := rE2.own (base := w1.heap.size) (n := 0) (size := 1) lE2 rfl (by decide)
    refine wp_app0 w1.heap.size rfl _ _ rfl E2 rfl oE bB oB cb L rfl LL.out (hr2.ext F) F.size ?_
    intro Av cv n5 ov hgrow hat
    have sz := F.size
    have F := F.grown hgrow sz fun j hj => (own_lt oE hj).1
    have rH := rH.grown hgrow (some_ne (a := H) (b := E2) (by omega))
    have ou := own_over ou hgrow (fun j hj e => by cases e; exact aU _ hj rfl)
    clear hgrow oE rE2 sz hat
    simp only [Act.put, List.getElem_toArray, List.getElem_cons_succ, List.getElem_cons_zero, List.setIfInBounds_toArray, List.set_cons_succ, List.set_cons_zero]
    go_wp2_with fail
    refine hK _ _ (fun _ => F) ?_
    clear hK
    refine wpTree_one (i := 8) (by kernel_rfl) rfl rfl (fun m6 hm6 K hK => ?_)
    have F := F.trans (hm6.mono F.size)
    have rH := rH.kept hm6
    have ou := own_ext ou hm6
    have ov := own_ext ov hm6
    go_wp2_with fail
    refine hK _ _ (fun _ => F) ?_
    clear hK
    refine wpTree_one (i := 10) (by kernel_rfl) rfl rfl (fun m7 hm7 K hK => ?_)
    have F := F.trans (hm7.mono F.size)
    have rH := rH.kept hm7
    have ou := own_ext ou hm7
    have ov := own_ext ov hm7
    obtain ⟨q0, q1, q2, q3⟩ := rH.two
    have hf := Lib.hid (set_two 43 (by decide) (by decide) ou ov rH F lH)
    clear ou ov rH F
    go_wp2_with fail
    refine hK _ _ (fun _ => hf.out.2.2.2) (wpTree_nil (by kernel_rfl) fun me hme => ?_)
    obtain ⟨ou, ov, rH, F⟩ := hf.out
    exact ⟨H, Au, cu, Av, cv, E1, E2, rfl, own_ext ou hme, own_ext ov hme, rH.kept hme, F.trans (hme.mono F.size), lH⟩
    }
    }
    {
    have F := F.trans (hm2.mono F.size)
    have rE1 := rE1.kept hm2
    go_wp2_with fail
    have lH := F.size
    have l_rE1_H := rE1.lt
    have rH := Row.new m2 43 [.slice none 0 0, .slice none 0 0]
    have bv := bA1 (w := m2) (o := .cells #[.slice none 0 0, .slice none 0 0] 43)
    have F := F.trans (bv.mono F.size)
    have rE1 := rE1.kept bv
    refine hK _ _ (fun _ => F) ?_
    clear hK bv
    obtain ⟨H, hB⟩ : ∃ H, m2.heap.size = H := ⟨_, rfl⟩
    obtain ⟨V2, hV⟩ : ∃ V, m2.alloc (.cells #[.slice none 0 0, .slice none 0 0] 43) = V := ⟨_, rfl⟩
    rw [hV] at rE1 rH F ⊢
    rw [hB] at rH lH l_rE1_H ⊢
    clear hB hV
    refine wpTree_two (i := 3) (j := 4) (by kernel_rfl) rfl rfl rfl rfl (fun m3 hm3 K hK => ?_) (fun m3 hm3 K hK => ?_)
    {
    have F := F.trans (hm3.mono F.size)
    have rE1 := rE1.kept hm3
    have rH := rH.kept hm3
    have oE := rE1.own (base := w1.heap.size) (n := 0) (size := 1) lE1 rfl (by decide)
    refine wp_app0 w1.heap.size rfl _ _ rfl E1 rfl oE bA oA ca M rfl LM.out (hr.ext F) F.size ?_
    intro Au cu n3 ou hgrow hat
    have sz := F.size
    have F := F.grown hgrow sz fun j hj => (own_lt oE hj).1
    have rH := rH.grown hgrow (some_ne (a := H) (b := E1) (by omega))
    clear hgrow oE rE1 sz hat
    simp only [Act.put, List.getElem_toArray, List.getElem_cons_succ, List.getElem_cons_zero, List.setIfInBounds_toArray, List.set_cons_succ, List.set_cons_zero]
    go_wp2_with fail
    refine hK _ _ (fun _ => F) ?_
    clear hK
    refine wpTree_one (i := 4) (by kernel_rfl) rfl rfl (fun m4 hm4 K hK => ?_)
    have F := F.trans (hm4.mono F.size)
    have rH := rH.kept hm4
    have ou := own_ext ou hm4
    go_wp2_with fail
    have lE2 := F.size
    have l_rH_E2 := rH.lt
    have l_ou_E2 : ∀ j, (Value.slice Au 16 cu).ownBlock = some j → j < m4.heap.size := fun j hj => (own_lt ou hj).2.1
    have rE2 := Row.new m4 3 []
    have bv := bA1 (w := m4) (o := .cells #[] 3)
    have F := F.trans (bv.mono F.size)
    have rH := rH.kept bv
    have ou := own_ext ou bv
    refine hK _ _ (fun _ => F) ?_
    clear hK bv
    obtain ⟨E2, hB⟩ : ∃ E2, m4.heap.size = E2 := ⟨_, rfl⟩
    obtain ⟨V4, hV⟩ : ∃ V, m4.alloc (.cells #[] 3) = V := ⟨_, rfl⟩
    rw [hV] at rH rE2 ou F ⊢
    rw [hB] at rE2 lE2 l_rH_E2 l_ou_E2 ⊢
    clear hB hV
    have aU : ∀ j, (Value.slice Au 16 cu).ownBlock = some j → j ≠ E2 := fun j hj => by have := l_ou_E2 j hj; omega
    refine wpTree_one (i := 7) (by kernel_rfl) rfl rfl (fun m5 hm5 K hK => ?_)
    have F := F.trans (hm5.mono F.size)
    have rH := rH.kept hm5
    have rE2 := rE2.kept hm5
    have ou := own_ext ou hm5
    have oE := rE2.own (base := w1.heap.size) (n := 0) (size := 1) lE2 rfl (by decide)
    refine wp_app0 w1.heap.size rfl _ _ rfl E2 rfl oE bB oB cb L rfl LL.out (hr2.ext F) F.size ?_
    intro Av cv n5 ov hgrow hat
    have sz := F.size
    have F := F.grown hgrow sz fun j hj => (own_lt oE hj).1
    have rH := rH.grown hgrow (some_ne (a := H) (b := E2) (by omega))
    have ou := own_over ou hgrow (fun j hj e => by cases e; exact aU _ hj rfl)
    clear hgrow oE rE2 sz hat
    simp only [Act.put, List.getElem_toArray, List.getElem_cons_succ, List.getElem_cons_zero, List.setIfInBounds_toArray, List.set_cons_succ, List.set_cons_zero]
    go_wp2_with fail
    refine hK _ _ (fun _ => F) ?_
    clear hK
    refine wpTree_one (i := 8) (by kernel_rfl) rfl rfl (fun m6 hm6 K hK => ?_)
    have F := F.trans (hm6.mono F.size)
    have rH := rH.kept hm6
    have ou := own_ext ou hm6
    have ov := own_ext ov hm6
    go_wp2_with fail
    refine hK _ _ (fun _ => F) ?_
    clear hK
    refine wpTree_one (i := 10) (by kernel_rfl) rfl rfl (fun m7 hm7 K hK => ?_)
    have F := F.trans (hm7.mono F.size)
    have rH := rH.kept hm7
    have ou := own_ext ou hm7
    have ov := own_ext ov hm7
    obtain ⟨q0, q1, q2, q3⟩ := rH.two
    have hf := Lib.hid (set_two 43 (by decide) (by decide) ou ov rH F lH)
    clear ou ov rH F
    go_wp2_with fail
    refine hK _ _ (fun _ => hf.out.2.2.2) (wpTree_nil (by kernel_rfl) fun me hme => ?_)
    obtain ⟨ou, ov, rH, F⟩ := hf.out
    exact ⟨H, Au, cu, Av, cv, E1, E2, rfl, own_ext ou hme, own_ext ov hme, rH.kept hme, F.trans (hme.mono F.size), lH⟩
    }
    {
    have F := F.trans (hm3.mono F.size)
    have rE1 := rE1.kept hm3
    have rH := rH.kept hm3
    go_wp2_with fail
    have lE2 := F.size
    have l_rE1_E2 := rE1.lt
    have l_rH_E2 := rH.lt
    have rE2 := Row.new m3 3 []
    have bv := bA1 (w := m3) (o := .cells #[] 3)
    have F := F.trans (bv.mono F.size)
    have rE1 := rE1.kept bv
    have rH := rH.kept bv
    refine hK _ _ (fun _ => F) ?_
    clear hK bv
    obtain ⟨E2, hB⟩ : ∃ E2, m3.heap.size = E2 := ⟨_, rfl⟩
    obtain ⟨V3, hV⟩ : ∃ V, m3.alloc (.cells #[] 3) = V := ⟨_, rfl⟩
    rw [hV] at rE1 rH rE2 F ⊢
    rw [hB] at rE2 lE2 l_rE1_E2 l_rH_E2 ⊢
    clear hB hV
    refine wpTree_one (i := 3) (by kernel_rfl) rfl rfl (fun m4 hm4 K hK => ?_)
    have F := F.trans (hm4.mono F.size)
    have rE1 := rE1.kept hm4
    have rH := rH.kept hm4
    have rE2 := rE2.kept hm4
    have oE := rE1.own (base := w1.heap.size) (n := 0) (size := 1) lE1 rfl (by decide)
    refine wp_app0 w1.heap.size rfl _ _ rfl E1 rfl oE bA oA ca M rfl LM.out (hr.ext F) F.size ?_
    intro Au cu n4 ou hgrow hat
    have l_m_E2 := rE2.lt
    have aU : ∀ j, (Value.slice Au 16 cu).ownBlock = some j → j ≠ E2 := fun j hj => by have := hat j hj; omega
    have sz := F.size
    have F := F.grown hgrow sz fun j hj => (own_lt oE hj).1
    have rH := rH.grown hgrow (some_ne (a := H) (b := E1) (by omega))
    have rE2 := rE2.grown hgrow (some_ne (a := E2) (b := E1) (by omega))
    clear hgrow oE rE1 sz hat
    simp only [Act.put, List.getElem_toArray, List.getElem_cons_succ, List.getElem_cons_zero, List.setIfInBounds_toArray, List.set_cons_succ, List.set_cons_zero]
    go_wp2_with fail
    refine hK _ _ (fun _ => F) ?_
    clear hK
    refine wpTree_one (i := 7) (by kernel_rfl) rfl rfl (fun m5 hm5 K hK => ?_)
    have F := F.trans (hm5.mono F.size)
    have rH := rH.kept hm5
    have rE2 := rE2.kept hm5
    have ou := own_ext ou hm5
    have oE := rE2.own (base := w1.heap.size) (n := 0) (size := 1) lE2 rfl (by decide)
    refine wp_app0 w1.heap.size rfl _ _ rfl E2 rfl oE bB oB cb L rfl LL.out (hr2.ext F) F.size ?_
    intro Av cv n5 ov hgrow hat
    have sz := F.size
    have F := F.grown hgrow sz fun j hj => (own_lt oE hj).1
    have rH := rH.grown hgrow (some_ne (a := H) (b := E2) (by omega))
    have ou := own_over ou hgrow (fun j hj e => by cases e; exact aU _ hj rfl)
    clear hgrow oE rE2 sz hat
    simp only [Act.put, List.getElem_toArray, List.getElem_cons_succ, List.getElem_cons_zero, List.setIfInBounds_toArray, List.set_cons_succ, List.set_cons_zero]
    go_wp2_with fail
    refine hK _ _ (fun _ => F) ?_
    clear hK
    refine wpTree_one (i := 8) (by kernel_rfl) rfl rfl (fun m6 hm6 K hK => ?_)
    have F := F.trans (hm6.mono F.size)
    have rH := rH.kept hm6
    have ou := own_ext ou hm6
    have ov := own_ext ov hm6
    go_wp2_with fail
    refine hK _ _ (fun _ => F) ?_
    clear hK
    refine wpTree_one (i := 10) (by kernel_rfl) rfl rfl (fun m7 hm7 K hK => ?_)
    have F := F.trans (hm7.mono F.size)
    have rH := rH.kept hm7
    have ou := own_ext ou hm7
    have ov := own_ext ov hm7
    obtain ⟨q0, q1, q2, q3⟩ := rH.two
    have hf := Lib.hid (set_two 43 (by decide) (by decide) ou ov rH F lH)
    clear ou ov rH F
    go_wp2_with fail
    refine hK _ _ (fun _ => hf.out.2.2.2) (wpTree_nil (by kernel_rfl) fun me hme => ?_)
    obtain ⟨ou, ov, rH, F⟩ := hf.out
    exact ⟨H, Au, cu, Av, cv, E1, E2, rfl, own_ext ou hme, own_ext ov hme, rH.kept hme, F.trans (hme.mono F.size), lH⟩
    }
    }
    }
    {
    have F := F.trans (hm1.mono F.size)
    go_wp2_with fail
    have lE2 := F.size
    have rE2 := Row.new m1 3 []
    have bv := bA1 (w := m1) (o := .cells #[] 3)
    have F := F.trans (bv.mono F.size)
    refine hK _ _ (fun _ => F) ?_
    clear hK bv
    obtain ⟨E2, hB⟩ : ∃ E2, m1.heap.size = E2 := ⟨_, rfl⟩
    obtain ⟨V1, hV⟩ : ∃ V, m1.alloc (.cells #[] 3) = V := ⟨_, rfl⟩
    rw [hV] at rE2 F ⊢
    rw [hB] at rE2 lE2 ⊢
    clear hB hV
    refine wpTree_two (i := 0) (j := 9) (by kernel_rfl) rfl rfl rfl rfl (fun m2 hm2 K hK => ?_) (fun m2 hm2 K hK => ?_)
    {
    have F := F.trans (hm2.mono F.size)
    have rE2 := rE2.kept hm2
    go_wp2_with fail
    have lE1 := F.size
    have l_rE2_E1 := rE2.lt
    have rE1 := Row.new m2 3 []
    have bv := bA1 (w := m2) (o := .cells #[] 3)
    have F := F.trans (bv.mono F.size)
    have rE2 := rE2.kept bv
    refine hK _ _ (fun _ => F) ?_
    clear hK bv
    obtain ⟨E1, hB⟩ : ∃ E1, m2.heap.size = E1 := ⟨_, rfl⟩
    obtain ⟨V2, hV⟩ : ∃ V, m2.alloc (.cells #[] 3) = V := ⟨_, rfl⟩
    rw [hV] at rE2 rE1 F ⊢
    rw [hB] at rE1 lE1 l_rE2_E1 ⊢
    clear hB hV
    refine wpTree_two (i := 3) (j := 9) (by kernel_rfl) rfl rfl rfl rfl (fun m3 hm3 K hK => ?_) (fun m3 hm3 K hK => ?_)
    {
    have F := F.trans (hm3.mono F.size)
    have rE2 := rE2.kept hm3
    have rE1 := rE1.kept hm3
    have oE := rE1.own (base := w1.heap.size) (n := 0) (size := 1) lE1 rfl (by decide)
    refine wp_app0 w1.heap.size rfl _ _ rfl E1 rfl oE bA oA ca M rfl LM.out (hr.ext F) F.size ?_
    intro Au cu n3 ou hgrow hat
    have l_m_E2 := rE2.lt
    have aU : ∀ j, (Value.slice Au 16 cu).ownBlock = some j → j ≠ E2 := fun j hj => by have := hat j hj; omega
    have sz := F.size
    have F := F.grown hgrow sz fun j hj => (own_lt oE hj).1
    have rE2 := rE2.grown hgrow (some_ne (a := E2) (b := E1) (by omega))
    clear hgrow oE rE1 sz hat
    simp only [Act.put, List.getElem_toArray, List.getElem_cons_succ, List.getElem_cons_zero, List.setIfInBounds_toArray, List.set_cons_succ, List.set_cons_zero]
    go_wp2_with fail
    refine hK _ _ (fun _ => F) ?_
    clear hK
    refine wpTree_two (i := 7) (j := 9) (by kernel_rfl) rfl rfl rfl rfl (fun m4 hm4 K hK => ?_) (fun m4 hm4 K hK => ?_)
    {
    have F := F.trans (hm4.mono F.size)
    have rE2 := rE2.kept hm4
    have ou := own_ext ou hm4
    have oE := rE2.own (base := w1.heap.size) (n := 0) (size := 1) lE2 rfl (by decide)
    refine wp_app0 w1.heap.size rfl _ _ rfl E2 rfl oE bB oB cb L rfl LL.out (hr2.ext F) F.size ?_
    intro Av cv n4 ov hgrow hat
    have sz := F.size
    have F := F.grown hgrow sz fun j hj => (own_lt oE hj).1
    have ou := own_over ou hgrow (fun j hj e => by cases e; exact aU _ hj rfl)
    clear hgrow oE rE2 sz hat
    simp only [Act.put, List.getElem_toArray, List.getElem_cons_succ, List.getElem_cons_zero, List.setIfInBounds_toArray, List.set_cons_succ, List.set_cons_zero]
    go_wp2_with fail
    refine hK _ _ (fun _ => F) ?_
    clear hK
    refine wpTree_two (i := 8) (j := 9) (by kernel_rfl) rfl rfl rfl rfl (fun m5 hm5 K hK => ?_) (fun m5 hm5 K hK => ?_)
    {
    have F := F.trans (hm5.mono F.size)
    have ou := own_ext ou hm5
    have ov := own_ext ov hm5
    go_wp2_with fail
    refine hK _ _ (fun _ => F) ?_
    clear hK
    refine wpTree_one (i := 9) (by kernel_rfl) rfl rfl (fun m6 hm6 K hK => ?_)
    have F := F.trans (hm6.mono F.size)
    have ou := own_ext ou hm6
    have ov := own_ext ov hm6
    go_wp2_with fail
    have lH := F.size
    have l_ou_H : ∀ j, (Value.slice Au 16 cu).ownBlock = some j → j < m6.heap.size := fun j hj => (own_lt ou hj).2.1
    have l_ov_H : ∀ j, (Value.slice Av 16 cv).ownBlock = some j → j < m6.heap.size := fun j hj => (own_lt ov hj).2.1
    have rH := Row.new m6 43 [.slice none 0 0, .slice none 0 0]
    have bv := bA1 (w := m6) (o := .cells #[.slice none 0 0, .slice none 0 0] 43)
    have F := F.trans (bv.mono F.size)
    have ou := own_ext ou bv
    have ov := own_ext ov bv
    refine hK _ _ (fun _ => F) ?_
    clear hK bv
    obtain ⟨H, hB⟩ : ∃ H, m6.heap.size = H := ⟨_, rfl⟩
    obtain ⟨V6, hV⟩ : ∃ V, m6.alloc (.cells #[.slice none 0 0, .slice none 0 0] 43) = V := ⟨_, rfl⟩
    rw [hV] at rH ou ov F ⊢
    rw [hB] at rH lH l_ou_H l_ov_H ⊢
    clear hB hV
    refine wpTree_one (i := 10) (by kernel_rfl) rfl rfl (fun m7 hm7 K hK => ?_)
    have F := F.trans (hm7.mono F.size)
    have rH := rH.kept hm7
    have ou := own_ext ou hm7
    have ov := own_ext ov hm7
    obtain ⟨q0, q1, q2, q3⟩ := rH.two
    have hf := Lib.hid (set_two 43 (by decide) (by decide) ou ov rH F lH)
    clear ou ov rH F
    go_wp2_with fail
    refine hK _ _ (fun _ => hf.out.2.2.2) (wpTree_nil (by kernel_rfl) fun me hme => ?_)
    obtain ⟨ou, ov, rH, F⟩ := hf.out
    exact ⟨H, Au, cu, Av, cv, E1, E2, rfl, own_ext ou hme, own_ext ov hme, rH.kept hme, F.trans (hme.mono F.size), lH⟩
    }
    {
    have F := F.trans (hm5.mono F.size)
    have ou := own_ext ou hm5
    have ov := own_ext ov hm5
    go_wp2_with fail
    have lH := F.size
    have l_ou_H : ∀ j, (Value.slice Au 16 cu).ownBlock = some j → j < m5.heap.size := fun j hj => (own_lt ou hj).2.1
    have l_ov_H : ∀ j, (Value.slice Av 16 cv).ownBlock = some j → j < m5.heap.size := fun j hj => (own_lt ov hj).2.1
    have rH := Row.new m5 43 [.slice none 0 0, .slice none 0 0]
    have bv := bA1 (w := m5) (o := .cells #[.slice none 0 0, .slice none 0 0] 43)
    have F := F.trans (bv.mono F.size)
    have ou := own_ext ou bv
    have ov := own_ext ov bv
    refine hK _ _ (fun _ => F) ?_
    clear hK bv
    obtain ⟨H, hB⟩ : ∃ H, m5.heap.size = H := ⟨_, rfl⟩
    obtain ⟨V5, hV⟩ : ∃ V, m5.alloc (.cells #[.slice none 0 0, .slice none 0 0] 43) = V := ⟨_, rfl⟩
    rw [hV] at rH ou ov F ⊢
    rw [hB] at rH lH l_ou_H l_ov_H ⊢
    clear hB hV
    refine wpTree_one (i := 8) (by kernel_rfl) rfl rfl (fun m6 hm6 K hK => ?_)
    have F := F.trans (hm6.mono F.size)
    have rH := rH.kept hm6
    have ou := own_ext ou hm6
    have ov := own_ext ov hm6
    go_wp2_with fail
    refine hK _ _ (fun _ => F) ?_
    clear hK
    refine wpTree_one (i := 10) (by kernel_rfl) rfl rfl (fun m7 hm7 K hK => ?_)
    have F := F.trans (hm7.mono F.size)
    have rH := rH.kept hm7
    have ou := own_ext ou hm7
    have ov := own_ext ov hm7
    obtain ⟨q0, q1, q2, q3⟩ := rH.two
    have hf := Lib.hid (set_two 43 (by decide) (by decide) ou ov rH F lH)
    clear ou ov rH F
    go_wp2_with fail
    refine hK _ _ (fun _ => hf.out.2.2.2) (wpTree_nil (by kernel_rfl) fun me hme => ?_)
    obtain ⟨ou, ov, rH, F⟩ := hf.out
    exact ⟨H, Au, cu, Av, cv, E1, E2, rfl, own_ext ou hme, own_ext ov hme, rH.kept hme, F.trans (hme.mono F.size), lH⟩
    }
    }
    {
    have F := F.trans (hm4.mono F.size)
    have rE2 := rE2.kept hm4
    have ou := own_ext ou hm4
    go_wp2_with fail
    have lH := F.size
    have l_rE2_H := rE2.lt
    have l_ou_H : ∀ j, (Value.slice Au 16 cu).ownBlock = some j → j < m4.heap.size := fun j hj => (own_lt ou hj).2.1
    have rH := Row.new m4 43 [.slice none 0 0, .slice none 0 0]
    have bv := bA1 (w := m4) (o := .cells #[.slice none 0 0, .slice none 0 0] 43)
    have F := F.trans (bv.mono F.size)
    have rE2 := rE2.kept bv
    have ou := own_ext ou bv
    refine hK _ _ (fun _ => F) ?_
    clear hK bv
    obtain ⟨H, hB⟩ : ∃ H, m4.heap.size = H := ⟨_, rfl⟩
    obtain ⟨V4, hV⟩ : ∃ V, m4.alloc (.cells #[.slice none 0 0, .slice none 0 0] 43) = V := ⟨_, rfl⟩
    rw [hV] at rE2 rH ou F ⊢
    rw [hB] at rH lH l_rE2_H l_ou_H ⊢
    clear hB hV
    refine wpTree_one (i := 7) (by kernel_rfl) rfl rfl (fun m5 hm5 K hK => ?_)
    have F := F.trans (hm5.mono F.size)
    have rE2 := rE2.kept hm5
    have rH := rH.kept hm5
    have ou := own_ext ou hm5
    have oE := rE2.own (base := w1.heap.size) (n := 0) (size := 1) lE2 rfl (by decide)
    refine wp_app0 w1.heap.size rfl _ _ rfl E2 rfl oE bB oB cb L rfl LL.out (hr2.ext F) F.size ?_
    intro Av cv n5 ov hgrow hat
    have sz := F.size
    have F := F.grown hgrow sz fun j hj => (own_lt oE hj).1
    have rH := rH.grown hgrow (some_ne (a := H) (b := E2) (by omega))
    have ou := own_over ou hgrow (fun j hj e => by cases e; exact aU _ hj rfl)
    clear hgrow oE rE2 sz hat
    simp only [Act.put, List.getElem_toArray, List.getElem_cons_succ, List.getElem_cons_zero, List.setIfInBounds_toArray, List.set_cons_succ, List.set_cons_zero]
    go_wp2_with fail
    refine hK _ _ (fun _ => F) ?_
    clear hK
    refine wpTree_one (i := 8) (by kernel_rfl) rfl rfl (fun m6 hm6 K hK => ?_)
    have F := F.trans (hm6.mono F.size)
    have rH := rH.kept hm6
    have ou := own_ext ou hm6
    have ov := own_ext ov hm6
    go_wp2_with fail
    refine hK _ _ (fun _ => F) ?_
    clear hK
    refine wpTree_one (i := 10) (by kernel_rfl) rfl rfl (fun m7 hm7 K hK => ?_)
    have F := F.trans (hm7.mono F.size)
    have rH := rH.kept hm7
    have ou := own_ext ou hm7
    have ov := own_ext ov hm7
    obtain ⟨q0, q1, q2, q3⟩ := rH.two
    have hf := Lib.hid (set_two 43 (by decide) (by decide) ou ov rH F lH)
    clear ou ov rH F
    go_wp2_with fail
    refine hK _ _ (fun _ => hf.out.2.2.2) (wpTree_nil (by kernel_rfl) fun me hme => ?_)
    obtain ⟨ou, ov, rH, F⟩ := hf.out
    exact ⟨H, Au, cu, Av, cv, E1, E2, rfl, own_ext ou hme, own_ext ov hme, rH.kept hme, F.trans (hme.mono F.size), lH⟩
    }
    }
    {
    have F := F.trans (hm3.mono F.size)
    have rE2 := rE2.kept hm3
    have rE1 := rE1.kept hm3
    go_wp2_with fail
    have lH := F.size
    have l_rE2_H := rE2.lt
    have l_rE1_H := rE1.lt
    have rH := Row.new m3 43 [.slice none 0 0, .slice none 0 0]
    have bv := bA1 (w := m3) (o := .cells #[.slice none 0 0, .slice none 0 0] 43)
    have F := F.trans (bv.mono F.size)
    have rE2 := rE2.kept bv
    have rE1 := rE1.kept bv
    refine hK _ _ (fun _ => F) ?_
    clear hK bv
    obtain ⟨H, hB⟩ : ∃ H, m3.heap.size = H := ⟨_, rfl⟩
    obtain ⟨V3, hV⟩ : ∃ V, m3.alloc (.cells #[.slice none 0 0, .slice none 0 0] 43) = V := ⟨_, rfl⟩
    rw [hV] at rE2 rE1 rH F ⊢
    rw [hB] at rH lH l_rE2_H l_rE1_H ⊢
    clear hB hV
    refine wpTree_one (i := 3) (by kernel_rfl) rfl rfl (fun m4 hm4 K hK => ?_)
    have F := F.trans (hm4.mono F.size)
    have rE2 := rE2.kept hm4
    have rE1 := rE1.kept hm4
    have rH := rH.kept hm4
    have oE := rE1.own (base := w1.heap.size) (n := 0) (size := 1) lE1 rfl (by decide)
    refine wp_app0 w1.heap.size rfl _ _ rfl E1 rfl oE bA oA ca M rfl LM.out (hr.ext F) F.size ?_
    intro Au cu n4 ou hgrow hat
    have l_m_E2 := rE2.lt
    have aU : ∀ j, (Value.slice Au 16 cu).ownBlock = some j → j ≠ E2 := fun j hj => by have := hat j hj; omega
    have sz := F.size
    have F := F.grown hgrow sz fun j hj => (own_lt oE hj).1
    have rE2 := rE2.grown hgrow (some_ne (a := E2) (b := E1) (by omega))
    have rH := rH.grown hgrow (some_ne (a := H) (b := E1) (by omega))
    clear hgrow oE rE1 sz hat
    simp only [Act.put, List.getElem_toArray, List.getElem_cons_succ, List.getElem_cons_zero, List.setIfInBounds_toArray, List.set_cons_succ, List.set_cons_zero]
    go_wp2_with fail
    refine hK _ _ (fun _ => F) ?_
    clear hK
    refine wpTree_one (i := 7) (by kernel_rfl) rfl rfl (fun m5 hm5 K hK => ?_)
    have F := F.trans (hm5.mono F.size)
    have rE2 := rE2.kept hm5
    have rH := rH.kept hm5
    have ou := own_ext ou hm5
    have oE := rE2.own (base := w1.heap.size) (n := 0) (size := 1) lE2 rfl (by decide)
    refine wp_app0 w1.heap.size rfl _ _ rfl E2 rfl oE bB oB cb L rfl LL.out (hr2.ext F) F.size ?_
    intro Av cv n5 ov hgrow hat
    have sz := F.size
    have F := F.grown hgrow sz fun j hj => (own_lt oE hj).1
    have rH := rH.grown hgrow (some_ne (a := H) (b := E2) (by omega))
    have ou := own_over ou hgrow (fun j hj e => by cases e; exact aU _ hj rfl)
    clear hgrow oE rE2 sz hat
    simp only [Act.put, List.getElem_toArray, List.getElem_cons_succ, List.getElem_cons_zero, List.setIfInBounds_toArray, List.set_cons_succ, List.set_cons_zero]
    go_wp2_with fail
    refine hK _ _ (fun _ => F) ?_
    clear hK
    refine wpTree_one (i := 8) (by kernel_rfl) rfl rfl (fun m6 hm6 K hK => ?_)
    have F := F.trans (hm6.mono F.size)
    have rH := rH.kept hm6
    have ou := own_ext ou hm6
    have ov := own_ext ov hm6
    go_wp2_with fail
    refine hK _ _ (fun _ => F) ?_
    clear hK
    refine wpTree_one (i := 10) (by kernel_rfl) rfl rfl (fun m7 hm7 K hK => ?_)
    have F := F.trans (hm7.mono F.size)
    have rH := rH.kept hm7
    have ou := own_ext ou hm7
    have ov := own_ext ov hm7
    obtain ⟨q0, q1, q2, q3⟩ := rH.two
    have hf := Lib.hid (set_two 43 (by decide) (by decide) ou ov rH F lH)
    clear ou ov rH F
    go_wp2_with fail
    refine hK _ _ (fun _ => hf.out.2.2.2) (wpTree_nil (by kernel_rfl) fun me hme => ?_)
    obtain ⟨ou, ov, rH, F⟩ := hf.out
    exact ⟨H, Au, cu, Av, cv, E1, E2, rfl, own_ext ou hme, own_ext ov hme, rH.kept hme, F.trans (hme.mono F.size), lH⟩
    }
    }
    {
    have F := F.trans (hm2.mono F.size)
    have rE2 := rE2.kept hm2
    go_wp2_with fail
    have lH := F.size
    have l_rE2_H := rE2.lt
    have rH := Row.new m2 43 [.slice none 0 0, .slice none 0 0]
    have bv := bA1 (w := m2) (o := .cells #[.slice none 0 0, .slice none 0 0] 43)
    have F := F.trans (bv.mono F.size)
    have rE2 := rE2.kept bv
    refine hK _ _ (fun _ => F) ?_
    clear hK bv
    obtain ⟨H, hB⟩ : ∃ H, m2.heap.size = H := ⟨_, rfl⟩
    obtain ⟨V2, hV⟩ : ∃ V, m2.alloc (.cells #[.slice none 0 0, .slice none 0 0] 43) = V := ⟨_, rfl⟩
    rw [hV] at rE2 rH F ⊢
    rw [hB] at rH lH l_rE2_H ⊢
    clear hB hV
    refine wpTree_one (i := 0) (by kernel_rfl) rfl rfl (fun m3 hm3 K hK => ?_)
    have F := F.trans (hm3.mono F.size)
    have rE2 := rE2.kept hm3
    have rH := rH.kept hm3
    go_wp2_with fail
    have lE1 := F.size
    have l_rE2_E1 := rE2.lt
    have l_rH_E1 := rH.lt
    have rE1 := Row.new m3 3 []
    have bv := bA1 (w := m3) (o := .cells #[] 3)
    have F := F.trans (bv.mono F.size)
    have rE2 := rE2.kept bv
    have rH := rH.kept bv
    refine hK _ _ (fun _ => F) ?_
    clear hK bv
    obtain ⟨E1, hB⟩ : ∃ E1, m3.heap.size = E1 := ⟨_, rfl⟩
    obtain ⟨V3, hV⟩ : ∃ V, m3.alloc (.cells #[] 3) = V := ⟨_, rfl⟩
    rw [hV] at rE2 rH rE1 F ⊢
    rw [hB] at rE1 lE1 l_rE2_E1 l_rH_E1 ⊢
    clear hB hV
    refine wpTree_one (i := 3) (by kernel_rfl) rfl rfl (fun m4 hm4 K hK => ?_)
    have F := F.trans (hm4.mono F.size)
    have rE2 := rE2.kept hm4
    have rH := rH.kept hm4
    have rE1 := rE1.kept hm4
    have oE := rE1.own (base := w1.heap.size) (n := 0) (size := 1) lE1 rfl (by decide)
    refine wp_app0 w1.heap.size rfl _ _ rfl E1 rfl oE bA oA ca M rfl LM.out (hr.ext F) F.size ?_
    intro Au cu n4 ou hgrow hat
    have l_m_E2 := rE2.lt
    have aU : ∀ j, (Value.slice Au 16 cu).ownBlock = some j → j ≠ E2 := fun j hj => by have := hat j hj; omega
    have sz := F.size
    have F := F.grown hgrow sz fun j hj => (own_lt oE hj).1
    have rE2 := rE2.grown hgrow (some_ne (a := E2) (b := E1) (by omega))
    have rH := rH.grown hgrow (some_ne (a := H) (b := E1) (by omega))
    clear hgrow oE rE1 sz hat
    simp only [Act.put, List.getElem_toArray, List.getElem_cons_succ, List.getElem_cons_zero, List.setIfInBounds_toArray, List.set_cons_succ, List.set_cons_zero]
    go_wp2_with fail
    refine hK _ _ (fun _ => F) ?_
    clear hK
    refine wpTree_one (i := 7) (by kernel_rfl) rfl rfl (fun m5 hm5 K hK => ?_)
    have F := F.trans (hm5.mono F.size)
    have rE2 := rE2.kept hm5
    have rH := rH.kept hm5
    have ou := own_ext ou hm5
    have oE := rE2.own (base := w1.heap.size) (n := 0) (size := 1) lE2 rfl (by decide)
    refine wp_app0 w1.heap.size rfl _ _ rfl E2 rfl oE bB oB cb L rfl LL.out (hr2.ext F) F.size ?_
    intro Av cv n5 ov hgrow hat
    have sz := F.size
    have F := F.grown hgrow sz fun j hj => (own_lt oE hj).1
    have rH := rH.grown hgrow (some_ne (a := H) (b := E2) (by omega))
    have ou := own_over ou hgrow (fun j hj e => by cases e; exact aU _ hj rfl)
    clear hgrow oE rE2 sz hat
    simp only [Act.put, List.getElem_toArray, List.getElem_cons_succ, List.getElem_cons_zero, List.setIfInBounds_toArray, List.set_cons_succ, List.set_cons_zero]
    go_wp2_with fail
    refine hK _ _ (fun _ => F) ?_
    clear hK
    refine wpTree_one (i := 8) (by kernel_rfl) rfl rfl (fun m6 hm6 K hK => ?_)
    have F := F.trans (hm6.mono F.size)
    have rH := rH.kept hm6
    have ou := own_ext ou hm6
    have ov := own_ext ov hm6
    go_wp2_with fail
    refine hK _ _ (fun _ => F) ?_
    clear hK
    refine wpTree_one (i := 10) (by kernel_rfl) rfl rfl (fun m7 hm7 K hK => ?_)
    have F := F.trans (hm7.mono F.size)
    have rH := rH.kept hm7
    have ou := own_ext ou hm7
    have ov := own_ext ov hm7
    obtain ⟨q0, q1, q2, q3⟩ := rH.two
    have hf := Lib.hid (set_two 43 (by decide) (by decide) ou ov rH F lH)
    clear ou ov rH F
    go_wp2_with fail
    refine hK _ _ (fun _ => hf.out.2.2.2) (wpTree_nil (by kernel_rfl) fun me hme => ?_)
    obtain ⟨ou, ov, rH, F⟩ := hf.out
    exact ⟨H, Au, cu, Av, cv, E1, E2, rfl, own_ext ou hme, own_ext ov hme, rH.kept hme, F.trans (hme.mono F.size), lH⟩
    }
    }
    {
    have F := F.trans (hm1.mono F.size)
    go_wp2_with fail
    have lH := F.size
    have rH := Row.new m1 43 [.slice none 0 0, .slice none 0 0]
    have bv := bA1 (w := m1) (o := .cells #[.slice none 0 0, .slice none 0 0] 43)
    have F := F.trans (bv.mono F.size)
    refine hK _ _ (fun _ => F) ?_
    clear hK bv
    obtain ⟨H, hB⟩ : ∃ H, m1.heap.size = H := ⟨_, rfl⟩
    obtain ⟨V1, hV⟩ : ∃ V, m1.alloc (.cells #[.slice none 0 0, .slice none 0 0] 43) = V := ⟨_, rfl⟩
    rw [hV] at rH F ⊢
    rw [hB] at rH lH ⊢
    clear hB hV
    refine wpTree_two (i := 0) (j := 4) (by kernel_rfl) rfl rfl rfl rfl (fun m2 hm2 K hK => ?_) (fun m2 hm2 K hK => ?_)
    {
    have F := F.trans (hm2.mono F.size)
    have rH := rH.kept hm2
    go_wp2_with fail
    have lE1 := F.size
    have l_rH_E1 := rH.lt
    have rE1 := Row.new m2 3 []
    have bv := bA1 (w := m2) (o := .cells #[] 3)
    have F := F.trans (bv.mono F.size)
    have rH := rH.kept bv
    refine hK _ _ (fun _ => F) ?_
    clear hK bv
    obtain ⟨E1, hB⟩ : ∃ E1, m2.heap.size = E1 := ⟨_, rfl⟩
    obtain ⟨V2, hV⟩ : ∃ V, m2.alloc (.cells #[] 3) = V := ⟨_, rfl⟩
    rw [hV] at rH rE1 F ⊢
    rw [hB] at rE1 lE1 l_rH_E1 ⊢
    clear hB hV
    refine wpTree_two (i := 3) (j := 4) (by kernel_rfl) rfl rfl rfl rfl (fun m3 hm3 K hK => ?_) (fun m3 hm3 K hK => ?_)
    {
    have F := F.trans (hm3.mono F.size)
    have rH := rH.kept hm3
    have rE1 := rE1.kept hm3
    have oE := rE1.own (base := w1.heap.size) (n := 0) (size := 1) lE1 rfl (by decide)
    refine wp_app0 w1.heap.size rfl _ _ rfl E1 rfl oE bA oA ca M rfl LM.out (hr.ext F) F.size ?_
    intro Au cu n3 ou hgrow hat
    have sz := F.size
    have F := F.grown hgrow sz fun j hj => (own_lt oE hj).1
    have rH := rH.grown hgrow (some_ne (a := H) (b := E1) (by omega))
    clear hgrow oE rE1 sz hat
    simp only [Act.put, List.getElem_toArray, List.getElem_cons_succ, List.getElem_cons_zero, List.setIfInBounds_toArray, List.set_cons_succ, List.set_cons_zero]
    go_wp2_with fail
    refine hK _ _ (fun _ => F) ?_
    clear hK
    refine wpTree_one (i := 4) (by kernel_rfl) rfl rfl (fun m4 hm4 K hK => ?_)
    have F := F.trans (hm4.mono F.size)
    have rH := rH.kept hm4
    have ou := own_ext ou hm4
    go_wp2_with fail
    have lE2 := F.size
    have l_rH_E2 := rH.lt
    have l_ou_E2 : ∀ j, (Value.slice Au 16 cu).ownBlock = some j → j < m4.heap.size := fun j hj => (own_lt ou hj).2.1
    have rE2 := Row.new m4 3 []
    have bv := bA1 (w := m4) (o := .cells #[] 3)
    have F := F.trans (bv.mono F.size)
    have rH := rH.kept bv
    have ou := own_ext ou bv
    refine hK _ _ (fun _ => F) ?_
    clear hK bv
    obtain ⟨E2, hB⟩ : ∃ E2, m4.heap.size = E2 := ⟨_, rfl⟩
    obtain ⟨V4, hV⟩ : ∃ V, m4.alloc (.cells #[] 3) = V := ⟨_, rfl⟩
    rw [hV] at rH rE2 ou F ⊢
    rw [hB] at rE2 lE2 l_rH_E2 l_ou_E2 ⊢
    clear hB hV
    have aU : ∀ j, (Value.slice Au 16 cu).ownBlock = some j → j ≠ E2 := fun j hj => by have := l_ou_E2 j hj; omega
    refine wpTree_one (i := 7) (by kernel_rfl) rfl rfl (fun m5 hm5 K hK => ?_)
    have F := F.trans (hm5.mono F.size)
    have rH := rH.kept hm5
    have rE2 := rE2.kept hm5
    have ou := own_ext ou hm5
    have oE := rE2.own (base := w1.heap.size) (n := 0) (size := 1) lE2 rfl (by decide)
    refine wp_app0 w1.heap.size rfl _ _ rfl E2 rfl oE bB oB cb L rfl LL.out (hr2.ext F) F.size ?_
    intro Av cv n5 ov hgrow hat
    have sz := F.size
    have F := F.grown hgrow sz fun j hj => (own_lt oE hj).1
    have rH := rH.grown hgrow (some_ne (a := H) (b := E2) (by omega))
    have ou := own_over ou hgrow (fun j hj e => by cases e; exact aU _ hj rfl)
    clear hgrow oE rE2 sz hat
    simp only [Act.put, List.getElem_toArray, List.getElem_cons_succ, List.getElem_cons_zero, List.setIfInBounds_toArray, List.set_cons_succ, List.set_cons_zero]
    go_wp2_with fail
    refine hK _ _ (fun _ => F) ?_
    clear hK
    refine wpTree_one (i := 8) (by kernel_rfl) rfl rfl (fun m6 hm6 K hK => ?_)
    have F := F.trans (hm6.mono F.size)
    have rH := rH.kept hm6
    have ou := own_ext ou hm6
    have ov := own_ext ov hm6
    go_wp2_with fail
    refine hK _ _ (fun _ => F) ?_
    clear hK
    refine wpTree_one (i := 10) (by kernel_rfl) rfl rfl (fun m7 hm7 K hK => ?_)
    have F := F.trans (hm7.mono F.size)
    have rH := rH.kept hm7
    have ou := own_ext ou hm7
    have ov := own_ext ov hm7
    obtain ⟨q0, q1, q2, q3⟩ := rH.two
    have hf := Lib.hid (set_two 43 (by decide) (by decide) ou ov rH F lH)
    clear ou ov rH F
    go_wp2_with fail
    refine hK _ _ (fun _ => hf.out.2.2.2) (wpTree_nil (by kernel_rfl) fun me hme => ?_)
    obtain ⟨ou, ov, rH, F⟩ := hf.out
    exact ⟨H, Au, cu, Av, cv, E1, E2, rfl, own_ext ou hme, own_ext ov hme, rH.kept hme, F.trans (hme.mono F.size), lH⟩
    }
    {
    have F := F.trans (hm3.mono F.size)
    have rH := rH.kept hm3
    have rE1 := rE1.kept hm3
    go_wp2_with fail
    have lE2 := F.size
    have l_rH_E2 := rH.lt
    have l_rE1_E2 := rE1.lt
    have rE2 := Row.new m3 3 []
    have bv := bA1 (w := m3) (o := .cells #[] 3)
    have F := F.trans (bv.mono F.size)
    have rH := rH.kept bv
    have rE1 := rE1.kept bv
    refine hK _ _ (fun _ => F) ?_
    clear hK bv
    obtain ⟨E2, hB⟩ : ∃ E2, m3.heap.size = E2 := ⟨_, rfl⟩
    obtain ⟨V3, hV⟩ : ∃ V, m3.alloc (.cells #[] 3) = V := ⟨_, rfl⟩
    rw [hV] at rH rE1 rE2 F ⊢
    rw [hB] at rE2 lE2 l_rH_E2 l_rE1_E2 ⊢
    clear hB hV
    refine wpTree_one (i := 3) (by kernel_rfl) rfl rfl (fun m4 hm4 K hK => ?_)
    have F := F.trans (hm4.mono F.size)
    have rH := rH.kept hm4
    have rE1 := rE1.kept hm4
    have rE2 := rE2.kept hm4
    have oE := rE1.own (base := w1.heap.size) (n := 0) (size := 1) lE1 rfl (by decide)
    refine wp_app0 w1.heap.size rfl _ _ rfl E1 rfl oE bA oA ca M rfl LM.out (hr.ext F) F.size ?_
    intro Au cu n4 ou hgrow hat
    have l_m_E2 := rE2.lt
    have aU : ∀ j, (Value.slice Au 16 cu).ownBlock = some j → j ≠ E2 := fun j hj => by have := hat j hj; omega
    have sz := F.size
    have F := F.grown hgrow sz fun j hj => (own_lt oE hj).1
    have rH := rH.grown hgrow (some_ne (a := H) (b := E1) (by omega))
    have rE2 := rE2.grown hgrow (some_ne (a := E2) (b := E1) (by omega))
    clear hgrow oE rE1 sz hat
    simp only [Act.put, List.getElem_toArray, List.getElem_cons_succ, List.getElem_cons_zero, List.setIfInBounds_toArray, List.set_cons_succ, List.set_cons_zero]
    go_wp2_with fail
    refine hK _ _ (fun _ => F) ?_
    clear hK
    refine wpTree_one (i := 7) (by kernel_rfl) rfl rfl (fun m5 hm5 K hK => ?_)
    have F := F.trans (hm5.mono F.size)
    have rH := rH.kept hm5
    have rE2 := rE2.kept hm5
    have ou := own_ext ou hm5
    have oE := rE2.own (base := w1.heap.size) (n := 0) (size := 1) lE2 rfl (by decide)
    refine wp_app0 w1.heap.size rfl _ _ rfl E2 rfl oE bB oB cb L rfl LL.out (hr2.ext F) F.size ?_
    intro Av cv n5 ov hgrow hat
    have sz := F.size
    have F := F.grown hgrow sz fun j hj => (own_lt oE hj).1
    have rH := rH.grown hgrow (some_ne (a := H) (b := E2) (by omega))
    have ou := own_over ou hgrow (fun j hj e => by cases e; exact aU _ hj rfl)
    clear hgrow oE rE2 sz hat
    simp only [Act.put, List.getElem_toArray, List.getElem_cons_succ, List.getElem_cons_zero, List.setIfInBounds_toArray, List.set_cons_succ, List.set_cons_zero]
    go_wp2_with fail
    refine hK _ _ (fun _ => F) ?_
    clear hK
    refine wpTree_one (i := 8) (by kernel_rfl) rfl rfl (fun m6 hm6 K hK => ?_)
    have F := F.trans (hm6.mono F.size)
    have rH := rH.kept hm6
    have ou := own_ext ou hm6
    have ov := own_ext ov hm6
    go_wp2_with fail
    refine hK _ _ (fun _ => F) ?_
    clear hK
    refine wpTree_one (i := 10) (by kernel_rfl) rfl rfl (fun m7 hm7 K hK => ?_)
    have F := F.trans (hm7.mono F.size)
    have rH := rH.kept hm7
    have ou := own_ext ou hm7
    have ov := own_ext ov hm7
    obtain ⟨q0, q1, q2, q3⟩ := rH.two
    have hf := Lib.hid (set_two 43 (by decide) (by decide) ou ov rH F lH)
    clear ou ov rH F
    go_wp2_with fail
    refine hK _ _ (fun _ => hf.out.2.2.2) (wpTree_nil (by kernel_rfl) fun me hme => ?_)
    obtain ⟨ou, ov, rH, F⟩ := hf.out
    exact ⟨H, Au, cu, Av, cv, E1, E2, rfl, own_ext ou hme, own_ext ov hme, rH.kept hme, F.trans (hme.mono F.size), lH⟩
    }
    }
    {
    have F := F.trans (hm2.mono F.size)
    have rH := rH.kept hm2
    go_wp2_with fail
    have lE2 := F.size
    have l_rH_E2 := rH.lt
    have rE2 := Row.new m2 3 []
    have bv := bA1 (w := m2) (o := .cells #[] 3)
    have F := F.trans (bv.mono F.size)
    have rH := rH.kept bv
    refine hK _ _ (fun _ => F) ?_
    clear hK bv
    obtain ⟨E2, hB⟩ : ∃ E2, m2.heap.size = E2 := ⟨_, rfl⟩
    obtain ⟨V2, hV⟩ : ∃ V, m2.alloc (.cells #[] 3) = V := ⟨_, rfl⟩
    rw [hV] at rH rE2 F ⊢
    rw [hB] at rE2 lE2 l_rH_E2 ⊢
    clear hB hV
    refine wpTree_one (i := 0) (by kernel_rfl) rfl rfl (fun m3 hm3 K hK => ?_)
    have F := F.trans (hm3.mono F.size)
    have rH := rH.kept hm3
    have rE2 := rE2.kept hm3
    go_wp2_with fail
    have lE1 := F.size
    have l_rH_E1 := rH.lt
    have l_rE2_E1 := rE2.lt
    have rE1 := Row.new m3 3 []
    have bv := bA1 (w := m3) (o := .cells #[] 3)
    have F := F.trans (bv.mono F.size)
    have rH := rH.kept bv
    have rE2 := rE2.kept bv
    refine hK _ _ (fun _ => F) ?_
    clear hK bv
    obtain ⟨E1, hB⟩ : ∃ E1, m3.heap.size = E1 := ⟨_, rfl⟩
    obtain ⟨V3, hV⟩ : ∃ V, m3.alloc (.cells #[] 3) = V := ⟨_, rfl⟩
    rw [hV] at rH rE2 rE1 F ⊢
    rw [hB] at rE1 lE1 l_rH_E1 l_rE2_E1 ⊢
    clear hB hV
    refine wpTree_one (i := 3) (by kernel_rfl) rfl rfl (fun m4 hm4 K hK => ?_)
    have F := F.trans (hm4.mono F.size)
    have rH := rH.kept hm4
    have rE2 := rE2.kept hm4
    have rE1 := rE1.kept hm4
    have oE := rE1.own (base := w1.heap.size) (n := 0) (size := 1) lE1 rfl (by decide)
    refine wp_app0 w1.heap.size rfl _ _ rfl E1 rfl oE bA oA ca M rfl LM.out (hr.ext F) F.size ?_
    intro Au cu n4 ou hgrow hat
    have l_m_E2 := rE2.lt
    have aU : ∀ j, (Value.slice Au 16 cu).ownBlock = some j → j ≠ E2 := fun j hj => by have := hat j hj; omega
    have sz := F.size
    have F := F.grown hgrow sz fun j hj => (own_lt oE hj).1
    have rH := rH.grown hgrow (some_ne (a := H) (b := E1) (by omega))
    have rE2 := rE2.grown hgrow (some_ne (a := E2) (b := E1) (by omega))
    clear hgrow oE rE1 sz hat
    simp only [Act.put, List.getElem_toArray, List.getElem_cons_succ, List.getElem_cons_zero, List.setIfInBounds_toArray, List.set_cons_succ, List.set_cons_zero]
    go_wp2_with fail
    refine hK _ _ (fun _ => F) ?_
    clear hK
    refine wpTree_one (i := 7) (by kernel_rfl) rfl rfl (fun m5 hm5 K hK => ?_)
    have F := F.trans (hm5.mono F.size)
    have rH := rH.kept hm5
    have rE2 := rE2.kept hm5
    have ou := own_ext ou hm5
    have oE := rE2.own (base := w1.heap.size) (n := 0) (size := 1) lE2 rfl (by decide)
    refine wp_app0 w1.heap.size rfl _ _ rfl E2 rfl oE bB oB cb L rfl LL.out (hr2.ext F) F.size ?_
    intro Av cv n5 ov hgrow hat
    have sz := F.size
    have F := F.grown hgrow sz fun j hj => (own_lt oE hj).1
    have rH := rH.grown hgrow (some_ne (a := H) (b := E2) (by omega))
    have ou := own_over ou hgrow (fun j hj e => by cases e; exact aU _ hj rfl)
    clear hgrow oE rE2 sz hat
    simp only [Act.put, List.getElem_toArray, List.getElem_cons_succ, List.getElem_cons_zero, List.setIfInBounds_toArray, List.set_cons_succ, List.set_cons_zero]
    go_wp2_with fail
    refine hK _ _ (fun _ => F) ?_
    clear hK
    refine wpTree_one (i := 8) (by kernel_rfl) rfl rfl (fun m6 hm6 K hK => ?_)
    have F := F.trans (hm6.mono F.size)
    have rH := rH.kept hm6
    have ou := own_ext ou hm6
    have ov := own_ext ov hm6
    go_wp2_with fail
    refine hK _ _ (fun _ => F) ?_
    clear hK
    refine wpTree_one (i := 10) (by kernel_rfl) rfl rfl (fun m7 hm7 K hK => ?_)
    have F := F.trans (hm7.mono F.size)
    have rH := rH.kept hm7
    have ou := own_ext ou hm7
    have ov := own_ext ov hm7
    obtain ⟨q0, q1, q2, q3⟩ := rH.two
    have hf := Lib.hid (set_two 43 (by decide) (by decide) ou ov rH F lH)
    clear ou ov rH F
    go_wp2_with fail
    refine hK _ _ (fun _ => hf.out.2.2.2) (wpTree_nil (by kernel_rfl) fun me hme => ?_)
    obtain ⟨ou, ov, rH, F⟩ := hf.out
    exact ⟨H, Au, cu, Av, cv, E1, E2, rfl, own_ext ou hme, own_ext ov hme, rH.kept hme, F.trans (hme.mono F.size), lH⟩
    }
    }
  case next =>
    rintro a' V ⟨H, Au, cu, Av, cv, E1, E2, rfl, ou, ov, rH, hB, lH⟩
    have rR0 := rR.lt
    have rR := rR.kept hB
    have hr3 := hr3.ext hB
    have B2 := B1.trans (hB.mono B1.size)
    have B1s := B1.size
    have ou := ou.mono B1s
    have ov := ov.mono B1s
    have hRH : w.heap.size + 1 < H := by omega
    clear hr hr2 rB
    simp only [Exit.then]
    have hI0 : cleanIter b m (M, L) = ((cleanIter b m (M, L)).1, (cleanIter b m (M, L)).2 + 0) := rfl
    have OU := Lib.hid ou
    have OV := Lib.hid ov
    clear ou ov
    go_wp2_with fail
    go_loopw [10] (fun i wr => ∃ (j : Nat) (st : List Int × List Int) (Au : Option Addr) (cu : Nat) (Av : Option Addr) (cv : Nat), j ≤ m ∧ i = .int .i64 j ∧ cleanIter b m (M, L) = ((cleanIter b (m - j) st).1, (cleanIter b (m - j) st).2 + j) ∧ skyV st.1 = true ∧ skyV st.2 = true ∧
      wr.ownsRow w.heap.size 3 1 (.slice Au 16 cu) 16 (st.1.map (Value.int .i64)) ∧ wr.ownsRow w.heap.size 3 1 (.slice Av 16 cv) 16 (st.2.map (Value.int .i64)) ∧ Row wr H 43 [.slice Au 16 cu, .slice Av 16 cv] ∧ Row wr (w.heap.size + 1) 43 [.slice none 0 0, .slice none 0 0] ∧ Below w.heap.size w wr) (fun i _ => m - (intOf i).toNat)
    case atStart => exact ⟨0, (M, L), Au, cu, Av, cv, by omega, rfl, hI0, HM.out, HL.out, OU.out, OV.out, rH, rR, B2⟩
    case round =>
      clear rH rR B2 hI0 OU OV hr3 hB
      obtain ⟨j, ⟨m1, l1⟩, Au', cu', Av', cv', hj, rfl, hit, hm1, hl1, ou, ov, rH, rR, hbel⟩ := hrel
      dsimp only at hm1 hl1 ou ov
      obtain ⟨q0, q1, q2, q3⟩ := rH.two
      obtain ⟨p0, p1, p2, p3⟩ := rR.two
      have hrD := (hD0.below hbel).more hbel.size
      have OU := Lib.hid ou
      have OV := Lib.hid ov
      have Hit := Lib.hid hit; clear hit
      have Hm1 := Lib.hid hm1; clear hm1
      have Hl1 := Lib.hid hl1; clear hl1
      clear ou ov
      by_cases hlt : j < m
      · go_wp2_with fail
        refine (sCleanStep_any Au' Av' D cu' cv' cd m1 l1 b _ Hm1.out Hl1.out Hb.out (Rd.of_own OU.out) (Rd.of_own OV.out) hrD).mono ?_
        rintro e w5 ⟨b5, hres⟩
        have sz5 := b5.size
        have hsw := hbel.size
        obtain ⟨⟨m2, l2⟩, hst, u, v, rfl, o1, o2⟩ | ⟨hno, rfl⟩ := hres
        · dsimp only at o1 o2
          obtain ⟨Au2, cu2, rfl⟩ := own_form o1
          obtain ⟨Av2, cv2, rfl⟩ := own_form o2
          have hval := cleanStep_valid hst
          have hit2 : cleanIter b m (M, L) = ((cleanIter b (m - (j + 1)) (m2, l2)).1, (cleanIter b (m - (j + 1)) (m2, l2)).2 + (j + 1)) := by
            rw [Hit.out, show m - j = (m - (j + 1)) + 1 by omega, cleanIter_some hst]
            dsimp only
            congr 1
            omega
          have o1 := o1.mono hsw
          have o2 := o2.mono hsw
          have eX := bA1 (w := w5) (o := .cells #[.slice Au2 16 cu2, .slice Av2 16 cv2] 43)
          have o1 := own_ext o1 eX
          have o2 := own_ext o2 eX
          have rH5 := (rH.kept b5).kept eX
          have rR5 := (rR.kept b5).kept eX
          have rX := Row.new w5 43 [.slice Au2 16 cu2, .slice Av2 16 cv2]
          have BX := (hbel.trans (b5.mono hbel.size)).trans (eX.mono (hbel.trans (b5.mono hbel.size)).size)
          obtain ⟨WX, hWX⟩ : ∃ WX, w5.alloc (.cells #[.slice Au2 16 cu2, .slice Av2 16 cv2] 43) = WX := ⟨_, rfl⟩
          obtain ⟨X, hX⟩ : ∃ X, w5.heap.size = X := ⟨_, rfl⟩
          rw [hWX] at o1 o2 rH5 rR5 rX BX
          rw [hX] at rX
          have hHX : H < X := by rw [← hX]; exact (rH.kept b5).lt
          have hH1 : ∀ jj, (Value.slice Au2 16 cu2).ownBlock = some jj → jj ≠ H := fun jj hj e => by
            obtain ⟨_, _, cs, fr, hc⟩ := own_lt o1 hj
            rw [e, show _ = _ from rH5] at hc
            injection hc with hc
            injection hc with _ h2
            revert h2
            decide
          have hH2 : ∀ jj, (Value.slice Av2 16 cv2).ownBlock = some jj → jj ≠ H := fun jj hj e => by
            obtain ⟨_, _, cs, fr, hc⟩ := own_lt o2 hj
            rw [e, show _ = _ from rH5] at hc
            injection hc with hc
            injection hc with _ h2
            revert h2
            decide
          have oF1 := own_over (own_over o1 (grown_set WX H 0 (.slice Au2 16 cu2)) (fun jj hj e => by injection e with e; exact hH1 jj hj e.symm)) (grown_set _ H 1 (.slice Av2 16 cv2)) (fun jj hj e => by injection e with e; exact hH1 jj hj e.symm)
          have oF2 := own_over (own_over o2 (grown_set WX H 0 (.slice Au2 16 cu2)) (fun jj hj e => by injection e with e; exact hH2 jj hj e.symm)) (grown_set _ H 1 (.slice Av2 16 cv2)) (fun jj hj e => by injection e with e; exact hH2 jj hj e.symm)
          obtain ⟨h0, h1, h2, h3⟩ := rH5.two
          obtain ⟨x0, x1, _, _⟩ := rX.two
          have rHF := (rH5.set_ 0 (.slice Au2 16 cu2)).set_ 1 (.slice Av2 16 cv2)
          simp only [List.set_cons_zero, List.set_cons_succ] at rHF
          have rRF := (rR5.far (p := ⟨H, 0, none⟩) (by show w.heap.size + 1 ≠ H; omega) (.slice Au2 16 cu2)).far (p := ⟨H, 1, none⟩) (by show w.heap.size + 1 ≠ H; omega) (.slice Av2 16 cv2)
          have BF := (BX.setCell (p := ⟨H, 0, none⟩) (by show w.heap.size ≤ H; omega) (.slice Au2 16 cu2)).setCell (p := ⟨H, 1, none⟩) (by show w.heap.size ≤ H; omega) (.slice Av2 16 cv2)
          have OF1 := Lib.hid oF1
          have OF2 := Lib.hid oF2
          have RHF := Lib.hid rHF
          have RRF := Lib.hid rRF
          have BFF := Lib.hid BF
          have Hst := Lib.hid hst; clear hst
          have Hit2 := Lib.hid hit2; clear hit2
          have Hval := Lib.hid hval; clear hval
          clear o1 o2 oF1 oF2 rHF rRF BF hH1 hH2 rH rR q0 q1 q2 q3 p0 p1 p2 p3 b5 hbel eX rH5 rR5 rX BX hrD
          go_wp2_with fail
          go_roundw
          case rel => exact ⟨j + 1, (m2, l2), Au2, cu2, Av2, cv2, by omega, by go_num, Hit2.out, Hval.out.1, Hval.out.2, OF1.out, OF2.out, RHF.out, RRF.out, BFF.out⟩
          case measure => simp [intOf]; omega
        · have HEND := Lib.hid (show cleanIter b m (M, L) = ((m1, l1), j) by rw [Hit.out, cleanIter_none hno]; simp)
          have eX := bA1 (w := w5) (o := .cells #[.slice none 0 0, .slice none 0 0] 43)
          have rH5 := (rH.kept b5).kept eX
          have rR5 := (rR.kept b5).kept eX
          have OU := Lib.hid (own_ext (own_ext OU.out b5) eX)
          have OV := Lib.hid (own_ext (own_ext OV.out b5) eX)
          have BX := (hbel.trans (b5.mono hbel.size)).trans (eX.mono (hbel.trans (b5.mono hbel.size)).size)
          clear rH rR q0 q1 q2 q3 p0 p1 p2 p3 b5 hbel eX hno hrD
          obtain ⟨q0, q1, q2, q3⟩ := rH5.two
          obtain ⟨p0, p1, p2, p3⟩ := rR5.two
          go_wp2_with fail
          have hRu := own_ne OU.out rR5 (by decide)
          have hRv := own_ne OV.out rR5 (by decide)
          have ouF := own_over (own_over OU.out (grown_set _ (w.heap.size + 1) 0 (.slice Au' 16 cu')) (fun jj hj e => by injection e with e; exact hRu jj hj e.symm)) (grown_set _ (w.heap.size + 1) 1 (.slice Av' 16 cv')) (fun jj hj e => by injection e with e; exact hRu jj hj e.symm)
          have ovF := own_over (own_over OV.out (grown_set _ (w.heap.size + 1) 0 (.slice Au' 16 cu')) (fun jj hj e => by injection e with e; exact hRv jj hj e.symm)) (grown_set _ (w.heap.size + 1) 1 (.slice Av' 16 cv')) (fun jj hj e => by injection e with e; exact hRv jj hj e.symm)
          refine bodyPost_ret (v := .tuple #[.agg #[.slice Au' 16 cu', .slice Av' 16 cv'], .int .i64 (j : Nat), .bool true]) (by simp [results, Tryz.results168, go_sem, p0, p1]) rfl ⟨(BX.setCell (p := ⟨w.heap.size + 1, 0, none⟩) (by show w.heap.size ≤ w.heap.size + 1; omega) _).setCell (p := ⟨w.heap.size + 1, 1, none⟩) (by show w.heap.size ≤ w.heap.size + 1; omega) _, _, _, by rw [HEND.out], by rw [HEND.out]; exact ouF, by rw [HEND.out]; exact ovF⟩
      · obtain rfl : j = m := by omega
        have HEND := Lib.hid (show cleanIter b j (M, L) = ((m1, l1), j) by rw [Hit.out, Nat.sub_self]; simp [cleanIter])
        go_wp2_with fail
        have hRu := own_ne OU.out rR (by decide)
        have hRv := own_ne OV.out rR (by decide)
        have ouF := own_over (own_over OU.out (grown_set wr (w.heap.size + 1) 0 (.slice Au' 16 cu')) (fun jj hj e => by injection e with e; exact hRu jj hj e.symm)) (grown_set _ (w.heap.size + 1) 1 (.slice Av' 16 cv')) (fun jj hj e => by injection e with e; exact hRu jj hj e.symm)
        have ovF := own_over (own_over OV.out (grown_set wr (w.heap.size + 1) 0 (.slice Au' 16 cu')) (fun jj hj e => by injection e with e; exact hRv jj hj e.symm)) (grown_set _ (w.heap.size + 1) 1 (.slice Av' 16 cv')) (fun jj hj e => by injection e with e; exact hRv jj hj e.symm)
        refine bodyPost_ret (v := .tuple #[.agg #[.slice Au' 16 cu', .slice Av' 16 cv'], .int .i64 (j : Nat), .bool true]) (by simp [results, Tryz.results168, go_sem, p0, p1]) rfl ⟨(hbel.setCell (p := ⟨w.heap.size + 1, 0, none⟩) (by show w.heap.size ≤ w.heap.size + 1; omega) _).setCell (p := ⟨w.heap.size + 1, 1, none⟩) (by show w.heap.size ≤ w.heap.size + 1; omega) _, _, _, by rw [HEND.out], by rw [HEND.out]; exact ouF, by rw [HEND.out]; exact ovF⟩

end Go.Proofs.YtipgpafgampfbaaGreatDoor
