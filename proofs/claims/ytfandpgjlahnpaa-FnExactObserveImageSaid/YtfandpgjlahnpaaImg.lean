/- 'ObserveImage' on both sides, at every input. -/
import Derived.Test.YtfandpgjlahnpaaLawGrid
import Derived.Test.YtfandpgjlahnpaaDirty
import Derived.Test.YtfandpgjlahnpaaDirtyT
namespace Go.Proofs.Ytfandpgjlahnpaa
open Go.RowKit

def imgR (ants seen : List (Int × Int)) : Option (List Int) := (gridR ants seen).bind fun g => if skyV (imageL g) then some (imageL g) else none
theorem imgR_no {ants seen : List (Int × Int)} (h : gridR ants seen = none) : imgR ants seen = none := by unfold imgR; rw [h]; rfl
theorem imgR_eq {ants seen g : List (Int × Int)} (h : gridR ants seen = some g) : imgR ants seen = if skyV (imageL g) then some (imageL g) else none := by unfold imgR; rw [h]; rfl
theorem imgR_is {ants seen : List (Int × Int)} {s : List Int} (h : imgR ants seen = some s) : ∃ g, gridR ants seen = some g ∧ s = imageL g ∧ skyV s = true := by
  unfold imgR at h
  obtain ⟨g, hg, h2⟩ := Option.bind_eq_some_iff.1 h
  split at h2
  · rename_i hv
    cases h2
    exact ⟨g, hg, rfl, hv⟩
  · cases h2
theorem imageL_get' (g : List (Int × Int)) (t : Nat) (h : t < 16) : (imageL g).getD t 0 = (trT g (-1) t 16).1 := by
  unfold imageL; rw [fst_getD, trf_get _ _ _ h]

set_option maxHeartbeats 1000000 in
theorem observeImage_any (A B : Option Addr) (n ca m cb : Nat) (ants seen : List (Int × Int)) (w : World) (hn : ants.length = n) (hm : seen.length = m) (hk : n ≤ ca) (hnb : n ≤ 1048576) (hmb : m ≤ 1048576)
    (hr : Rd w w.heap.size A (ants.flatMap pairCells)) (hs : Rd w w.heap.size B (seen.flatMap pairCells)) :
    Calls Try.prog 59 #[.slice A n ca, .slice B m cb] w fun e w' => ∃ v, e = .returned (.tuple #[v, .bool (imgR ants seen).isSome]) ∧ w'.ownsRow w.heap.size 3 1 v ((imgR ants seen).getD []).length (((imgR ants seen).getD []).map (Value.int .i64)) ∧ Below w.heap.size w w' := by
  have hc := observeGrid_any A B n ca m cb ants seen w hn hm hk hnb hmb hr hs
  cases hg : gridR ants seen with
  | none =>
    rw [hg] at hc
    rw [imgR_no hg]
    have Hg := Lib.hid hg; clear hg
    have Hn := Lib.hid hn; clear hn
    have Hm := Lib.hid hm; clear hm
    have Hc := Lib.hid hc; clear hc
    go_enter Try.func59, Try.ntmps59
    go_wp2_with fail
    refine (Hc.out).mono ?_
    rintro e w1 ⟨b1, v, rfl, o1⟩
    go_wp2_with fail
    refine bodyPost_ret (v := .tuple #[.slice none 0 0, .bool false]) (by simp [results, Try.results59, go_sem]) rfl ⟨_, rfl, World.ownsRow_nil _ _ _ _, b1⟩
  | some g =>
    rw [hg] at hc
    obtain ⟨hva, hvo, hgo⟩ := gridR_is hg
    have hR := imgR_eq hg
    obtain ⟨_, _, _, _, _, _, hgv⟩ := obsV_of hvo
    have hle := gridO_gLe (M := 1000000000) (by omega) (gv_of hgv) hgo
    have hgl := (gridO_is hgo).1
    clear hva hvo hgo hgv
    have Hg := Lib.hid hg; clear hg
    have Hn := Lib.hid hn; clear hn
    have Hm := Lib.hid hm; clear hm
    have Hc := Lib.hid hc; clear hc
    have HR := Lib.hid hR; clear hR
    have Hle := Lib.hid hle; clear hle
    have Hgl := Lib.hid hgl; clear hgl
    go_enter Try.func59, Try.ntmps59
    go_wp2_with fail
    refine (Hc.out).mono ?_
    rintro e w1 ⟨b1, v, rfl, o1⟩
    simp only [Option.getD_some, Option.isSome_some] at o1 ⊢
    rw [Hgl.out] at o1
    obtain ⟨A1, c1, rfl⟩ := own_form o1
    have hr1 := Rd.of_own o1
    clear o1
    go_wp2_with fail
    refine (transform_any A1 c1 g (-1) _ Hgl.out (.inr rfl) Hle.out hr1).mono ?_
    rintro e w4 ⟨rfl, r4, b4⟩
    have hrt := r4.rd
    have b14 := b1.trans (b4.mono b1.size)
    clear r4 hr1 b4
    go_wp2_with fail
    refine (realParts_any _ 16 16 (trf g (-1)) _ (trf_len _ _) (by omega) hrt).mono ?_
    rintro e w5 ⟨v, rfl, o5, b5⟩
    have b15 := b14.trans (b5.mono b14.size)
    obtain ⟨A5, c5, rfl⟩ := own_form o5
    have hr5 := Rd.of_own o5
    have o5 := o5.mono b14.size
    clear b5 b14 hrt
    have O5 := Lib.hid (show w5.ownsRow w.heap.size 3 1 (.slice A5 16 c5) 16 ((imageL g).map (Value.int .i64)) from o5)
    clear o5
    go_wp2_with fail
    refine (skyChecked_any A5 16 c5 (imageL g) _ (imageL_len _) (by omega) hr5).mono ?_
    rintro e w6 ⟨rfl, rfl⟩
    have r2' := okS_own2 O5.out (skyV (imageL g))
    have hR2 : (imgR ants seen).isSome = skyV (imageL g) := by rw [HR.out]; cases skyV (imageL g) <;> rfl
    have hR3 : (imgR ants seen).getD [] = if skyV (imageL g) then imageL g else [] := by rw [HR.out]; cases skyV (imageL g) <;> rfl
    have hR4 : ((imgR ants seen).getD []).length = if skyV (imageL g) then 16 else 0 := by rw [hR3]; cases skyV (imageL g) <;> simp [imageL_len]
    have R2' := Lib.hid r2'; clear r2'
    have HR2 := Lib.hid hR2; clear hR2
    have HR3 := Lib.hid hR3; clear hR3
    have HR4 := Lib.hid hR4; clear hR4
    clear hr5
    go_wp2_with fail
    refine bodyPost_ret (by simp [results, Try.results59, go_sem]; rfl) rfl ⟨_, by rw [HR2.out], ?_, b15⟩
    rw [HR4.out, HR3.out]
    exact R2'.out

set_option maxRecDepth 100000 in
set_option maxHeartbeats 2000000 in
theorem sObserveImage_any (A B : Option Addr) (n ca m cb : Nat) (ants seen : List (Int × Int)) (w : World) (hn : ants.length = n) (hm : seen.length = m) (hnb : n ≤ 1048576) (hmb : m ≤ 1048576)
    (hr : Rd w w.heap.size A (ants.flatMap pairCells)) (hs : Rd w w.heap.size B (seen.flatMap pairCells)) :
    Calls Try.prog 60 #[.slice A n ca, .slice B m cb] w fun e w' => ∃ v, e = .returned (.tuple #[v, .bool (imgR ants seen).isSome]) ∧ w'.ownsRow w.heap.size 3 1 v ((imgR ants seen).getD []).length (((imgR ants seen).getD []).map (Value.int .i64)) ∧ Below w.heap.size w w' := by
  have hc := sObserveGrid_all A B n ca m cb ants seen w hn hm hnb hmb hr hs
  cases hg : gridR ants seen with
  | none =>
    rw [hg] at hc
    rw [imgR_no hg]
    have Hg := Lib.hid hg; clear hg
    have Hn := Lib.hid hn; clear hn
    have Hm := Lib.hid hm; clear hm
    have Hc := Lib.hid hc; clear hc
    go_enter Try.func60, Try.ntmps60
    go_wp2_with fail
    refine (Hc.out).mono ?_
    rintro e w1 ⟨b1, v, rfl, o1⟩
    have hbs := b1.size
    have r1 := Row.new w1 3 []
    have b2 := b1.alloc hbs (.cells #[] 3)
    clear o1
    go_wp2_with fail
    refine bodyPost_ret (v := .tuple #[.slice (some ⟨w1.heap.size, 0, none⟩) 0 0, .bool false]) (by simp [results, Try.results60, go_sem]) rfl ⟨_, rfl, r1.own hbs rfl (by decide), b2⟩
  | some g =>
    rw [hg] at hc
    obtain ⟨hva, hvo, hgo⟩ := gridR_is hg
    have hR := imgR_eq hg
    obtain ⟨_, _, _, _, _, _, hgv⟩ := obsV_of hvo
    have hle := gridO_gLe (M := 1000000000) (by omega) (gv_of hgv) hgo
    have hgl := (gridO_is hgo).1
    obtain ⟨i0, hi, hz0, hz1, hz2⟩ := info_parts intInfo
    clear hva hvo hgo hgv
    have Hg := Lib.hid hg; clear hg
    have Hn := Lib.hid hn; clear hn
    have Hm := Lib.hid hm; clear hm
    have Hc := Lib.hid hc; clear hc
    have HR := Lib.hid hR; clear hR
    have Hle := Lib.hid hle; clear hle
    have Hgl := Lib.hid hgl; clear hgl
    go_enter Try.func60, Try.ntmps60
    go_wp2_with fail
    refine (Hc.out).mono ?_
    rintro e w2 ⟨B2, v, rfl, o1⟩
    simp only [Option.getD_some, Option.isSome_some] at o1 ⊢
    rw [Hgl.out] at o1
    obtain ⟨A1, c1, rfl⟩ := own_form o1
    have hg1 := Rd.of_own o1
    clear o1
    have hbs := B2.size
    have r0 := Row.new w2 3 []
    have o2 := r0.own (base := w2.heap.size) (n := 0) (size := 1) (Nat.le_refl _) rfl (by decide)
    clear r0 hr
    go_wp2_with fail
    go_loopw [8, 9] (fun x i wr => ∃ k : Nat, k ≤ 16 ∧ i = .int .i64 k ∧ wr.ownsRow w2.heap.size 3 1 x k (((imageL g).take k).map (Value.int .i64)) ∧ Below w2.heap.size w2 wr) (fun _ i _ => 16 - (intOf i).toNat)
    case atStart => exact ⟨0, by omega, rfl, o2, bA1⟩
    case round =>
      clear o2
      obtain ⟨k, hk, rfl, hrow, hbel⟩ := hrel
      by_cases hlt : k < 16
      · have hk16 : (k : Int) < 16 := by omega
        have hg4 := hg1.ext hbel
        have Hrow := Lib.hid hrow; clear hrow
        have Hbel := Lib.hid hbel; clear hbel
        go_wp2_with fail
        refine (l21Cells_any _).mono ?_
        rintro e w' ⟨rfl, rfl⟩
        have hx := ph_self k
        have Hx := Lib.hid hx; clear hx
        go_wp2_with fail
        refine (l21Back_any A1 c1 g _ _ k _ hlt (by omega) (by omega) Hx.out Hgl.out Hle.out hg4).mono ?_
        rintro e w6 ⟨rfl, b6⟩
        rw [← imageL_get' g k hlt]
        have hrow := own_ext Hrow.out b6
        have hbel := Hbel.out.trans (b6.mono Hbel.out.size)
        have hbs := hbel.size
        have hts := take_succ_getD (l := imageL g) (d := 0) (k := k) (by rw [imageL_len]; exact hlt)
        generalize (imageL g).getD k 0 = m at *
        have hfl := fun y w => field_re m y w
        generalize (trT g (-1) k 16).2 = y at *
        have Hrow2 := Lib.hid hrow
        have Hbel2 := Lib.hid hbel
        have Hts := Lib.hid hts; clear hts
        clear b6 hrow hbel hg4 Hrow Hbel
        go_wp2_with (at_builtin; refine wpList_append_own _ rfl _ _ 25 rfl w2.heap.size 3 i0 (.int .i64 0) 1 8 (by kernel_rfl) hi hz0 hz1 hz2 rfl (by decide) _ k _ rfl (Hrow2.out.alloc _) ⟨w6.heap.size, 0, none⟩ 1 1 [.int .i64 (m)] rfl rfl (cell_one_new _ _ _) (by simp [Value.oneCell']) (by unfold maxLen; omega) (by omega) (by simp; omega) ?_; intro v' w7 hown' hgrow _; obtain ⟨g', cap', rfl⟩ := ownsRow_succ hown')
        have hb7 := (Hbel2.out.alloc hbs _).grown hgrow (by simp; omega) fun j hj => (own_lt Hrow2.out hj).1
        have Hb7 := Lib.hid hb7; clear hb7
        have Hown' := Lib.hid hown'; clear hown'
        clear hgrow
        go_wp2_with fail
        go_roundw
        case measure => simp [intOf]; omega
        case rel =>
          refine ⟨k + 1, by omega, by go_num, ?_, Hb7.out⟩
          rw [Hts.out, List.map_append]
          exact Hown'.out
      · obtain rfl : k = 16 := by omega
        rw [List.take_of_length_le (by rw [imageL_len]; exact Nat.le_refl _)] at hrow
        obtain ⟨A4, c4, rfl⟩ := own_form hrow
        have hr4 := Rd.of_own hrow
        have B4 := B2.trans (hbel.mono B2.size)
        have hb4 := B4.size
        have Hrow := Lib.hid hrow; clear hrow
        go_wp2_with fail
        refine (l21Cells_any _).mono ?_
        rintro e w' ⟨rfl, rfl⟩
        go_wp2_with fail
        refine (sSkyValid_any A4 16 c4 (imageL g) _ (imageL_len _) (by omega) hr4).mono ?_
        rintro e w5 ⟨rfl, rfl⟩
        cases h3 : skyV (imageL g)
        · have hR2 : imgR ants seen = none := by rw [HR.out, h3]; rfl
          have r5 := Row.new wr 3 []
          have B5 := B4.alloc hb4 (.cells #[] 3)
          have H3 := Lib.hid h3; clear h3
          have HR2 := Lib.hid hR2; clear hR2
          go_wp2_with fail
          refine bodyPost_ret (v := .tuple #[.slice (some ⟨wr.heap.size, 0, none⟩) 0 0, .bool false]) (by simp [results, Try.results60, go_sem]) rfl ?_
          rw [HR2.out]
          exact ⟨_, rfl, r5.own hb4 rfl (by decide), B5⟩
        · have hR2 : imgR ants seen = some (imageL g) := by rw [HR.out, h3]; rfl
          have H3 := Lib.hid h3; clear h3
          have HR2 := Lib.hid hR2; clear hR2
          go_wp2_with fail
          refine bodyPost_ret (v := .tuple #[.slice A4 16 c4, .bool true]) (by simp [results, Try.results60, go_sem]) rfl ?_
          rw [HR2.out]
          refine ⟨_, rfl, ?_, B4⟩
          simp only [Option.getD_some]
          rw [imageL_len]
          exact Hrow.out.mono B2.size
end Go.Proofs.Ytfandpgjlahnpaa
