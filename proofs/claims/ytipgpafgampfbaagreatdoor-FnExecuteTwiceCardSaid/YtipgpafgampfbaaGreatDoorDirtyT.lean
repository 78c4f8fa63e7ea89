/- 'spec.l23Mask' and 'spec.DirtyOf'. -/
import Derived.Test.YtipgpafgampfbaaGreatDoorB2
namespace Go.Proofs.YtipgpafgampfbaaGreatDoor
open Go.RowKit

set_option maxRecDepth 100000 in
set_option maxHeartbeats 1000000 in
theorem l23Mask_any (A B : Option Addr) (ca cb : Nat) (g : List (Int × Int)) (c : List Bool) (w : World) (hg : g.length = 16) (hc : c.length = 16) (hr : Rd w w.heap.size A (g.flatMap pairCells)) (hr2 : Rd w w.heap.size B (c.map Value.bool)) :
    Calls Tryz.prog 164 #[.slice A 16 ca, .slice B 16 cb] w fun e w' => ∃ v, e = .returned v ∧ w'.ownsRow w.heap.size 132 2 v 16 ((maskG g c).flatMap pairCells) ∧ Below w.heap.size w w' := by
  obtain ⟨i1, hj, hy0, hy1, hy2⟩ := info_parts gaussInfo
  have r0 := Row.new w 132 []
  have o1 := r0.own (base := w.heap.size) (n := 0) (size := 2) (Nat.le_refl _) rfl (by decide)
  have Hg := Lib.hid hg; clear hg
  have Hc := Lib.hid hc; clear hc
  clear r0
  go_enter Tryz.func164, Tryz.ntmps164
  go_wp2_with fail
  go_loopw [5, 6] (fun x i wr => ∃ k : Nat, k ≤ 16 ∧ i = .int .i64 k ∧ wr.ownsRow w.heap.size 132 2 x k (((maskG g c).take k).flatMap pairCells) ∧ Below w.heap.size w wr) (fun _ i _ => 16 - (intOf i).toNat)
  case atStart => exact ⟨0, by omega, rfl, o1, bA1⟩
  case round =>
    clear o1
    obtain ⟨k, hk, rfl, hrow, hbel⟩ := hrel
    have hbs := hbel.size
    by_cases hlt : k < 16
    · have hk16 : (k : Int) < 16 := by omega
      go_wp2_with fail
      refine (l21Cells_any _).mono ?_
      rintro e w' ⟨rfl, rfl⟩
      obtain ⟨b, off, rfl, hb, hcc⟩ := (hr2.below hbel) k _ (bools_get (by rw [Hc.out]; exact hlt))
      obtain ⟨b', off', rfl, hb', hg1, hg2⟩ := rd_pair (hr.below hbel) (getD_of (gs := g) (k := k) (by rw [Hg.out]; exact hlt))
      have hts := take_succ_getD (l := maskG g c) (d := (0, 0)) (k := k) (by rw [maskG_len]; exact hlt)
      rw [maskG_get g c k hlt] at hts
      generalize g.getD k (0, 0) = gz at *
      cases hx : c.getD k false
      · rw [hx] at hcc hts
        simp only [Bool.false_eq_true, if_false] at hts
        have Hts := Lib.hid hts; clear hts
        have Hx := Lib.hid hx; clear hx
        have Hrow := Lib.hid hrow; clear hrow
        go_wp2_with (at_builtin; refine wpList_append_own _ rfl _ _ 97 rfl w.heap.size 132 i1 (.agg #[.int .i64 0, .int .i64 0]) 2 16 (by kernel_rfl) hj hy0 hy1 hy2 rfl (by decide) _ k _ rfl (Hrow.out.alloc _) ⟨wr.heap.size, 0, none⟩ 1 1 [.int .i64 (0), .int .i64 (0)] rfl rfl (cell_two_new _ _ _ _) (by simp [Value.oneCell']) (by unfold maxLen; omega) (by omega) (by simp; omega) ?_; intro v' w7 hown' hgrow _; obtain ⟨g', cap', rfl⟩ := ownsRow_succ hown')
        have hb7 := (hbel.alloc hbs _).grown hgrow (by simp; omega) fun j hj => (own_lt Hrow.out hj).1
        have Hb7 := Lib.hid hb7; clear hb7
        have Hown' := Lib.hid hown'; clear hown'
        clear hgrow
        go_wp2_with fail
        go_roundw
        case measure => simp [intOf]; omega
        case rel =>
          refine ⟨k + 1, by omega, by go_num, ?_, Hb7.out⟩
          rw [Hts.out, List.flatMap_append]
          exact Hown'.out
      · rw [hx] at hcc hts
        simp only [if_true] at hts
        have Hts := Lib.hid hts; clear hts
        have Hx := Lib.hid hx; clear hx
        have Hrow := Lib.hid hrow; clear hrow
        go_wp2_with (at_builtin; refine wpList_append_own _ rfl _ _ 97 rfl w.heap.size 132 i1 (.agg #[.int .i64 0, .int .i64 0]) 2 16 (by kernel_rfl) hj hy0 hy1 hy2 rfl (by decide) _ k _ rfl (Hrow.out.alloc _) ⟨wr.heap.size, 0, none⟩ 1 1 [.int .i64 (gz.1), .int .i64 (gz.2)] rfl rfl (cell_two_new _ _ _ _) (by simp [Value.oneCell']) (by unfold maxLen; omega) (by omega) (by simp; omega) ?_; intro v' w7 hown' hgrow _; obtain ⟨g', cap', rfl⟩ := ownsRow_succ hown')
        have hb7 := (hbel.alloc hbs _).grown hgrow (by simp; omega) fun j hj => (own_lt Hrow.out hj).1
        have Hb7 := Lib.hid hb7; clear hb7
        have Hown' := Lib.hid hown'; clear hown'
        clear hgrow
        go_wp2_with fail
        go_roundw
        case measure => simp [intOf]; omega
        case rel =>
          refine ⟨k + 1, by omega, by go_num, ?_, Hb7.out⟩
          rw [Hts.out, List.flatMap_append]
          exact Hown'.out
    · obtain rfl : k = 16 := by omega
      rw [List.take_of_length_le (by rw [maskG_len]; omega)] at hrow
      have Hrow := Lib.hid hrow; clear hrow
      go_wp2_with fail
      refine (l21Cells_any _).mono ?_
      rintro e w' ⟨rfl, rfl⟩
      go_wp2_with fail
      go_ret
      exact ⟨_, rfl, Hrow.out, hbel⟩

theorem dirtyL_get' (s : List Int) (c : List Bool) (t : Nat) (h : t < 16) : (dirtyL s c).getD t 0 = (trT (maskG (skyT s) c) (-1) t 16).1 := by
  unfold dirtyL; rw [fst_getD, trf_get _ _ _ h]; rfl
theorem ph_self (t : Nat) (k : Nat) : (t : Int) % 4 * ((k : Int) % 4) + (t : Int) / 4 * ((k : Int) / 4) = ph t k := ph_cast t k
set_option maxRecDepth 100000 in
set_option maxHeartbeats 2000000 in
theorem sDirtyOf_any (A B : Option Addr) (na nb ca cb : Nat) (s : List Int) (c : List Bool) (w : World) (hs : s.length = na) (hc : c.length = nb) (hna : na ≤ 1000)
    (hr : Rd w w.heap.size A (s.map (Value.int .i64))) (hr2 : Rd w w.heap.size B (c.map Value.bool)) :
    Calls Tryz.prog 138 #[.slice A na ca, .slice B nb cb] w fun e w' => ∃ v, e = .returned (.tuple #[v, .bool (dirtyR s c).isSome]) ∧ w'.ownsRow w.heap.size 3 1 v ((dirtyR s c).getD []).length (((dirtyR s c).getD []).map (Value.int .i64)) ∧ Below w.heap.size w w' := by
  have Hs := Lib.hid hs; clear hs
  have Hc := Lib.hid hc; clear hc
  cases h1 : skyV s
  · have hR : dirtyR s c = none := by unfold dirtyR; rw [h1]; rfl
    rw [hR]
    have H1 := Lib.hid h1; clear h1
    clear hR
    go_enter Tryz.func138, Tryz.ntmps138
    go_wp2_with fail
    refine (sSkyTransform_any A na ca s _ Hs.out (by omega) hr).mono ?_
    rintro e w1 ⟨v, rfl, o1, b1⟩
    rw [H1.out]
    have hbs := b1.size
    have r1 := Row.new w1 3 []
    have b2 := b1.alloc hbs (.cells #[] 3)
    clear o1
    go_wp2_with fail
    refine bodyPost_ret (v := .tuple #[.slice (some ⟨w1.heap.size, 0, none⟩) 0 0, .bool false]) (by simp [results, Tryz.results138, go_sem]) rfl ⟨_, rfl, r1.own hbs rfl (by decide), b2⟩
  · cases h2 : covV c
    · have hR : dirtyR s c = none := by unfold dirtyR; rw [h1, h2]; rfl
      rw [hR]
      have H1 := Lib.hid h1; clear h1
      have H2 := Lib.hid h2; clear h2
      clear hR
      go_enter Tryz.func138, Tryz.ntmps138
      go_wp2_with fail
      refine (sSkyTransform_any A na ca s _ Hs.out (by omega) hr).mono ?_
      rintro e w1 ⟨v, rfl, o1, b1⟩
      rw [H1.out]
      have extX := (hr2.below b1).more b1.size; clear hr2; have hr2 := extX; clear extX
      clear o1
      go_wp2_with fail
      refine (sCoverValid_any B nb cb c _ Hc.out hr2).mono ?_
      rintro e w2 ⟨rfl, b2⟩
      rw [H2.out]
      have B2 := b1.trans (b2.mono b1.size)
      have hbs := B2.size
      have r1 := Row.new w2 3 []
      have B3 := B2.alloc hbs (.cells #[] 3)
      clear b1 b2
      go_wp2_with fail
      refine bodyPost_ret (v := .tuple #[.slice (some ⟨w2.heap.size, 0, none⟩) 0 0, .bool false]) (by simp [results, Tryz.results138, go_sem]) rfl ⟨_, rfl, r1.own hbs rfl (by decide), B3⟩
    · obtain rfl : na = 16 := by rw [← Hs.out]; exact skyV_len h1
      obtain rfl : nb = 16 := by rw [← Hc.out]; exact covV_len h2
      have hR := dirtyR_eq h1 h2
      have hle2 := gLe_mono (gLe_mask (by omega) (gLe_skyT h1) c) (N := 1000000000) (by omega)
      have hTR := skyTR_yes h1
      obtain ⟨i0, hi, hz0, hz1, hz2⟩ := info_parts intInfo
      have H1 := Lib.hid h1; clear h1
      have H2 := Lib.hid h2; clear h2
      have HR := Lib.hid hR; clear hR
      have Hle2 := Lib.hid hle2; clear hle2
      have HTR := Lib.hid hTR; clear hTR
      go_enter Tryz.func138, Tryz.ntmps138
      go_wp2_with fail
      refine (sSkyTransform_any A 16 ca s _ Hs.out (by omega) hr).mono ?_
      rintro e w1 ⟨v, rfl, o1, b1⟩
      rw [H1.out]
      rw [HTR.out, skyT_len] at o1
      obtain ⟨A1, c1, rfl⟩ := own_form o1
      have hg1 := Rd.of_own o1
      have extX := (hr2.below b1).more b1.size; clear hr2; have hr2 := extX; clear extX
      clear o1
      go_wp2_with fail
      refine (sCoverValid_any B 16 cb c _ Hc.out hr2).mono ?_
      rintro e w2 ⟨rfl, b2⟩
      rw [H2.out]
      have B2 := b1.trans (b2.mono b1.size)
      have extX := (hr2.below b2).more b2.size; clear hr2; have hr2 := extX; clear extX
      have extX := (hg1.below b2).more b2.size; clear hg1; have hg1 := extX; clear extX
      have hbs := B2.size
      clear b1 b2
      have r0 := Row.new w2 3 []
      have o2 := r0.own (base := w2.heap.size) (n := 0) (size := 1) (Nat.le_refl _) rfl (by decide)
      clear r0 hr
      go_wp2_with fail
      go_loopw [8, 9] (fun x i wr => ∃ k : Nat, k ≤ 16 ∧ i = .int .i64 k ∧ wr.ownsRow w2.heap.size 3 1 x k (((dirtyL s c).take k).map (Value.int .i64)) ∧ Below w2.heap.size w2 wr) (fun _ i _ => 16 - (intOf i).toNat)
      case atStart => exact ⟨0, by omega, rfl, o2, bA1⟩
      case round =>
        clear o2
        obtain ⟨k, hk, rfl, hrow, hbel⟩ := hrel
        by_cases hlt : k < 16
        · have hk16 : (k : Int) < 16 := by omega
          have hg4 := hg1.ext hbel
          have hr4 := hr2.ext hbel
          have Hrow := Lib.hid hrow; clear hrow
          have Hbel := Lib.hid hbel; clear hbel
          go_wp2_with fail
          refine (l21Cells_any _).mono ?_
          rintro e w' ⟨rfl, rfl⟩
          go_wp2_with fail
          refine (l23Mask_any A1 B c1 cb (skyT s) c _ (skyT_len s) Hc.out hg4 hr4).mono ?_
          rintro e w5 ⟨v, rfl, o5, b5⟩
          obtain ⟨A5, c5, rfl⟩ := own_form o5
          have hg5 := Rd.of_own o5
          have hx := ph_self k
          have Hx := Lib.hid hx; clear hx
          clear o5
          go_wp2_with fail
          refine (l21Back_any A5 c5 (maskG (skyT s) c) _ _ k _ hlt (by omega) (by omega) Hx.out (maskG_len _ _) Hle2.out hg5).mono ?_
          rintro e w6 ⟨rfl, b6⟩
          rw [← dirtyL_get' s c k hlt]
          have b7 := b5.trans (b6.mono b5.size)
          have hrow := own_ext Hrow.out b7
          have hbel := Hbel.out.trans (b7.mono Hbel.out.size)
          have hbs := hbel.size
          have hts := take_succ_getD (l := dirtyL s c) (d := 0) (k := k) (by rw [dirtyL_len]; exact hlt)
          generalize (dirtyL s c).getD k 0 = m at *
          have hfl := fun y w => field_re m y w
          generalize (trT (maskG (skyT s) c) (-1) k 16).2 = y at *
          have Hrow2 := Lib.hid hrow
          have Hbel2 := Lib.hid hbel
          have Hts := Lib.hid hts; clear hts
          clear b5 b6 b7 hrow hbel hg4 hr4 hg5 Hrow Hbel
          go_wp2_with (at_builtin; refine wpList_append_own _ rfl _ _ 32 rfl w2.heap.size 3 i0 (.int .i64 0) 1 8 (by kernel_rfl) hi hz0 hz1 hz2 rfl (by decide) _ k _ rfl (Hrow2.out.alloc _) ⟨w6.heap.size, 0, none⟩ 1 1 [.int .i64 (m)] rfl rfl (cell_one_new _ _ _) (by simp [Value.oneCell']) (by unfold maxLen; omega) (by omega) (by simp; omega) ?_; intro v' w7 hown' hgrow _; obtain ⟨g', cap', rfl⟩ := ownsRow_succ hown')
          have hb7 := (Hbel2.out.alloc hbs _).grown hgrow (by simp; omega) fun j hj => (own_lt Hrow2.out hj).1
          have Hb7 := Lib.hid hb7; clear hb7
          have Hown' := Lib.hid hown'; clear hown'
          clear hgrow
          go_wp2_with fail
          go_roundw
          case measure => simp [intOf]; omega
          case rel =>
            refine ⟨k + 1, by omega, by go_num, ?_, Hb7.out⟩
            rw [Hts.out, List.map_append]
            exact Hown'.out
        · obtain rfl : k = 16 := by omega
          rw [List.take_of_length_le (by rw [dirtyL_len]; exact Nat.le_refl _)] at hrow
          obtain ⟨A4, c4, rfl⟩ := own_form hrow
          have hr4 := Rd.of_own hrow
          have B4 := B2.trans (hbel.mono B2.size)
          have hb4 := B4.size
          have Hrow := Lib.hid hrow; clear hrow
          go_wp2_with fail
          refine (l21Cells_any _).mono ?_
          rintro e w' ⟨rfl, rfl⟩
          go_wp2_with fail
          refine (sSkyValid_any A4 16 c4 (dirtyL s c) _ (dirtyL_len _ _) (by omega) hr4).mono ?_
          rintro e w5 ⟨rfl, rfl⟩
          cases h3 : skyV (dirtyL s c)
          · have hR2 : dirtyR s c = none := by rw [HR.out, h3]; rfl
            have r5 := Row.new wr 3 []
            have B5 := B4.alloc hb4 (.cells #[] 3)
            have H3 := Lib.hid h3; clear h3
            have HR2 := Lib.hid hR2; clear hR2
            go_wp2_with fail
            refine bodyPost_ret (v := .tuple #[.slice (some ⟨wr.heap.size, 0, none⟩) 0 0, .bool false]) (by simp [results, Tryz.results138, go_sem]) rfl ?_
            rw [HR2.out]
            exact ⟨_, rfl, r5.own hb4 rfl (by decide), B5⟩
          · have hR2 : dirtyR s c = some (dirtyL s c) := by rw [HR.out, h3]; rfl
            have H3 := Lib.hid h3; clear h3
            have HR2 := Lib.hid hR2; clear hR2
            go_wp2_with fail
            refine bodyPost_ret (v := .tuple #[.slice A4 16 c4, .bool true]) (by simp [results, Tryz.results138, go_sem]) rfl ?_
            rw [HR2.out]
            refine ⟨_, rfl, ?_, B4⟩
            have hlen : ((some (dirtyL s c)).getD []).length = 16 := dirtyL_len s c
            rw [hlen]
            exact Hrow.out.mono B2.size
end Go.Proofs.YtipgpafgampfbaaGreatDoor
