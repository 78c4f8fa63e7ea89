/- A line of the script: antennas. -/
import Derived.Test.YtipgpafgampfbaaGreatDoorB6
namespace Go.Proofs.YtipgpafgampfbaaGreatDoor
open Go.RowKit Go.Maps

set_option maxRecDepth 100000 in
set_option maxHeartbeats 1000000 in
theorem execute_ant (B0 S n cap : Nat) (A : Option Addr) (t0 t1 : Word) (s : St) (w : World) (hn : n = 3) (hc : n ≤ cap) (hI : IsS B0 S s w) (hO : StOk s) (hr : Rd w w.heap.size A (strs [wAnt, t0, t1])) :
    Calls Tryz.prog 53 #[.pointer (some ⟨S, 0, none⟩), .slice A n cap] w fun e w' => LineOf B0 S (antR s (num7 t0, num7 t1)) w e w' := by
  obtain ⟨i0, hi, hz0, hz1, hz2⟩ := info_parts intInfo
  obtain ⟨h, hh⟩ : ∃ h, wAnt = h := ⟨_, rfl⟩
  rw [hh] at hr
  have hl : h.length ≤ 1000 := by rw [← hh]; decide
  have hwl : wantL h = some 2 := by rw [← hh]; decide
  have e1 : (h == [97, 110, 116]) = true := by rw [← hh]; decide
  obtain ⟨m, hm2⟩ : ∃ m, 2 = m := ⟨_, rfl⟩
  obtain ⟨t, ht⟩ : ∃ t, [t0, t1] = t := ⟨_, rfl⟩
  have hm : t.length = m := by rw [← ht, ← hm2]; rfl
  rw [ht] at hr
  rw [hm2] at hwl
  obtain ⟨AT, hS, hrT⟩ := tail_fact (P := Tryz.prog) (t := 72) (e := 9) (show Rd w w.heap.size A (.string ⟨h.toArray⟩ :: strs t) from hr) (by kernel_rfl) (by kernel_rfl) n cap (by rw [strs_len, hm]; omega) hc
  rw [strs_len, hm] at hS
  have hmm := @run_makeMap Tryz.prog
  have m0 := mapAt_new w
  have b0 : Below w.heap.size w (w.alloc (.map #[] 0)) := bA1
  obtain ⟨bA, off, rfl, hbA, hc0⟩ := hr 0 _ (strs_get (ls := h :: t) (k := 0) (by simp))
  simp only [List.getD_cons_zero, Nat.add_zero] at hc0
  have c0 := hc0
  have hn1 : (0 : Int) < n := by omega
  have hwr : IntKind.i64.wrap ((n : Int) - 1) = m := by rw [IntWalk.i64_in _ (by omega)]; omega
  have h7 : m ≤ 7 := by omega
  have Hn := Lib.hid hn; clear hn
  have Hm := Lib.hid hm; clear hm
  have HrT := Lib.hid hrT; clear hrT
  have Hh := Lib.hid hh; clear hh
  have Ht := Lib.hid ht; clear ht
  have Hm2 := Lib.hid hm2; clear hm2
  go_enter Tryz.func53, Tryz.ntmps53
  go_wp2_with (first | (refine wpList_insW (k := wAnt) (n := 2) rfl rfl rfl m0 (by omega) (by decide) (by omega) ?_; clear m0; intro w1 m0 g0; have b0 := b0.grown g0 b0.size (fun k e => by cases e; exact Nat.le_refl _); clear c0; have c0 : w1.cell? ⟨bA, off, none⟩ = some (.string ⟨h.toArray⟩) := (b0.cell (p := ⟨bA, off, none⟩) hbA).trans hc0; clear g0) | (refine wpList_insW (k := wCell) (n := 3) rfl rfl rfl m0 (by omega) (by decide) (by omega) ?_; clear m0; intro w1 m0 g0; have b0 := b0.grown g0 b0.size (fun k e => by cases e; exact Nat.le_refl _); clear c0; have c0 : w1.cell? ⟨bA, off, none⟩ = some (.string ⟨h.toArray⟩) := (b0.cell (p := ⟨bA, off, none⟩) hbA).trans hc0; clear g0) | (refine wpList_insW (k := wBases) (n := 0) rfl rfl rfl m0 (by omega) (by decide) (by omega) ?_; clear m0; intro w1 m0 g0; have b0 := b0.grown g0 b0.size (fun k e => by cases e; exact Nat.le_refl _); clear c0; have c0 : w1.cell? ⟨bA, off, none⟩ = some (.string ⟨h.toArray⟩) := (b0.cell (p := ⟨bA, off, none⟩) hbA).trans hc0; clear g0) | (refine wpList_insW (k := wCover) (n := 0) rfl rfl rfl m0 (by omega) (by decide) (by omega) ?_; clear m0; intro w1 m0 g0; have b0 := b0.grown g0 b0.size (fun k e => by cases e; exact Nat.le_refl _); clear c0; have c0 : w1.cell? ⟨bA, off, none⟩ = some (.string ⟨h.toArray⟩) := (b0.cell (p := ⟨bA, off, none⟩) hbA).trans hc0; clear g0) | (refine wpList_insW (k := wBeam) (n := 0) rfl rfl rfl m0 (by omega) (by decide) (by omega) ?_; clear m0; intro w1 m0 g0; have b0 := b0.grown g0 b0.size (fun k e => by cases e; exact Nat.le_refl _); clear c0; have c0 : w1.cell? ⟨bA, off, none⟩ = some (.string ⟨h.toArray⟩) := (b0.cell (p := ⟨bA, off, none⟩) hbA).trans hc0; clear g0) | (refine wpList_insW (k := wPoint) (n := 2) rfl rfl rfl m0 (by omega) (by decide) (by omega) ?_; clear m0; intro w1 m0 g0; have b0 := b0.grown g0 b0.size (fun k e => by cases e; exact Nat.le_refl _); clear c0; have c0 : w1.cell? ⟨bA, off, none⟩ = some (.string ⟨h.toArray⟩) := (b0.cell (p := ⟨bA, off, none⟩) hbA).trans hc0; clear g0) | (refine wpList_insW (k := wDirty) (n := 0) rfl rfl rfl m0 (by omega) (by decide) (by omega) ?_; clear m0; intro w1 m0 g0; have b0 := b0.grown g0 b0.size (fun k e => by cases e; exact Nat.le_refl _); clear c0; have c0 : w1.cell? ⟨bA, off, none⟩ = some (.string ⟨h.toArray⟩) := (b0.cell (p := ⟨bA, off, none⟩) hbA).trans hc0; clear g0) | (refine wpList_insW (k := wClean) (n := 1) rfl rfl rfl m0 (by omega) (by decide) (by omega) ?_; clear m0; intro w1 m0 g0; have b0 := b0.grown g0 b0.size (fun k e => by cases e; exact Nat.le_refl _); clear c0; have c0 : w1.cell? ⟨bA, off, none⟩ = some (.string ⟨h.toArray⟩) := (b0.cell (p := ⟨bA, off, none⟩) hbA).trans hc0; clear g0) | (refine wpList_lookW (h := h) rfl rfl rfl rfl m0 hl ?_; rw [want_eq, hwl]; simp only [Option.getD_some, Option.isSome_some]))
  go_loopw [9, 44] (fun v i wr => ∃ k : Nat, k ≤ m ∧ i = .int .i64 k ∧ wr.ownsRow w.heap.size 3 1 v k (((t.take k).map num7).map (Value.int .i64)) ∧ Below w.heap.size w wr) (fun _ i _ => m - (intOf i).toNat)
  case atStart => exact ⟨0, by omega, rfl, World.ownsRow_nil _ _ _ _, b0⟩
  case round =>
    obtain ⟨k, hk, rfl, hown, hbel⟩ := hrel
    have hsz := hbel.size
    by_cases hlt : k < m
    · obtain ⟨x, hx⟩ : ∃ x, t[k]? = some x := ⟨_, List.getElem?_eq_getElem (by rw [Hm.out]; exact hlt)⟩
      have hxg : (strs t)[k]? = some (.string ⟨x.toArray⟩) := by unfold strs; rw [List.getElem?_map, hx]; rfl
      obtain ⟨bT, offT, rfl, hbT, hcT⟩ := (HrT.out.below hbel) k _ hxg
      have hts : (t.take (k + 1)).map num7 = (t.take k).map num7 ++ [num7 x] := by rw [List.take_add_one, hx]; simp
      obtain ⟨Av, cv, rfl⟩ := own_form hown
      have Hown := Lib.hid hown; clear hown
      have Hts := Lib.hid hts; clear hts
      have Hx := Lib.hid hx; clear hx
      have Hxg := Lib.hid hxg; clear hxg
      go_wp2_with fail
      refine (scriptNumber_any x _).mono ?_
      rintro e w4 ⟨rfl, b4⟩
      have hr4 := own_ext Hown.out b4
      have B4 := hbel.trans (b4.mono hbel.size)
      have sz4 := B4.size
      have Hr4 := Lib.hid hr4; clear hr4
      go_wp2_with (at_builtin; refine wpList_append_own _ rfl _ _ 32 rfl w.heap.size 3 i0 (.int .i64 0) 1 8 (by kernel_rfl) hi hz0 hz1 hz2 rfl (by decide) _ k _ rfl (Hr4.out.alloc _) ⟨w4.heap.size, 0, none⟩ 1 1 [.int .i64 (num7 x)] rfl rfl (cell_one_new _ _ _) (by simp [Value.oneCell']) (by unfold maxLen; omega) (by omega) (by simp; omega) ?_; intro v' w7 hown' hgrow _; obtain ⟨g', cap', rfl⟩ := ownsRow_succ hown')
      have B7 := (B4.alloc sz4 _).grown hgrow (by simp; omega) fun j hj => (own_lt Hr4.out hj).1
      have Hown' := Lib.hid hown'; clear hown'
      have hidX := Lib.hid B7; clear B7; have B7 := hidX; clear hidX
      clear hgrow
      go_wp2_with fail
      go_roundw
      case measure => simp [intOf]; omega
      case rel => exact ⟨k + 1, by omega, by go_num, by rw [Hts.out, List.map_append]; exact Hown'.out, B7.out⟩
    · obtain rfl : k = m := by omega
      rw [List.take_of_length_le (by rw [Hm.out]; exact Nat.le_refl _)] at hown
      obtain ⟨Av, cv, rfl⟩ := own_form hown
      have c0 : wr.cell? ⟨bA, off, none⟩ = some (.string ⟨h.toArray⟩) := (hbel.cell (p := ⟨bA, off, none⟩) hbA).trans hc0
      have Hown := Lib.hid hown; clear hown
      go_wp2_with fail
      obtain rfl : 2 = k := Hm2.out
      have hnum := Rd.of_own Hown.out
      rw [← Ht.out] at hnum
      obtain ⟨bN, oN, rfl, hbN, n0⟩ := hnum 0 _ rfl
      obtain ⟨bN2, oN2, e2, _, n1⟩ := hnum 1 _ rfl
      obtain ⟨rfl, rfl⟩ : bN = bN2 ∧ oN = oN2 := by injection e2 with e2; injection e2 with e3 e4; exact ⟨e3, e4⟩
      have hIw : IsS B0 S s wr := (hI.ext hbel)
      have f0 : ∀ w', Below wr.heap.size wr w' → w'.cell? ⟨bN, oN + 0 * 1, none⟩ = some (.int .i64 (num7 t0)) := fun w' h => (h.cell (p := ⟨bN, oN + 0, none⟩) hbN).trans n0
      have f1 : ∀ w', Below wr.heap.size wr w' → w'.cell? ⟨bN, oN + 1 * 1, none⟩ = some (.int .i64 (num7 t1)) := fun w' h => (h.cell (p := ⟨bN, oN + 1, none⟩) hbN).trans n1
      clear hnum n0 n1
      obtain ⟨x, hx⟩ : ∃ x, num7 t0 = x := ⟨_, rfl⟩
      obtain ⟨y, hy⟩ : ∃ y, num7 t1 = y := ⟨_, rfl⟩
      rw [hx] at f0
      rw [hy] at f1
      have Hx := Lib.hid hx; clear hx
      have Hy := Lib.hid hy; clear hy
      refine wp_region_N [8, 9, 10] [8, 9, 10] (by kernel_rfl) (by kernel_rfl) ?_
      refine wpStill_go (v := .pointer (some ⟨S, 0, none⟩)) rfl rfl (stays_run fun w' h => ex_move rfl rfl) ?_
      simp only [Act.put, List.setIfInBounds_toArray, List.set_cons_succ, List.set_cons_zero]
      refine wpStill_go (v := .slice (some ⟨bN, oN, none⟩) 2 cv) rfl rfl (stays_run fun w' h => ex_move rfl rfl) ?_
      simp only [Act.put, List.setIfInBounds_toArray, List.set_cons_succ, List.set_cons_zero]
      refine wpStill_go (v := .pointer (some ⟨bN, oN + 0 * 1, none⟩)) rfl rfl (stays_run fun w' h => ex_index rfl (by kernel_rfl) (by kernel_rfl) rfl rfl ((by decide : 0 < 2))) ?_
      simp only [Act.put, List.setIfInBounds_toArray, List.set_cons_succ, List.set_cons_zero]
      refine wpStill_go (v := .int .i64 x) rfl rfl (stays_run fun w' h => ex_load rfl rfl (ld_one (by kernel_rfl) (f0 w' h))) ?_
      simp only [Act.put, List.setIfInBounds_toArray, List.set_cons_succ, List.set_cons_zero]
      refine wpStill_go (v := .slice (some ⟨bN, oN, none⟩) 2 cv) rfl rfl (stays_run fun w' h => ex_move rfl rfl) ?_
      simp only [Act.put, List.setIfInBounds_toArray, List.set_cons_succ, List.set_cons_zero]
      refine wpStill_go (v := .pointer (some ⟨bN, oN + 1 * 1, none⟩)) rfl rfl (stays_run fun w' h => ex_index rfl (by kernel_rfl) (by kernel_rfl) rfl rfl ((by decide : 1 < 2))) ?_
      simp only [Act.put, List.setIfInBounds_toArray, List.set_cons_succ, List.set_cons_zero]
      refine wpStill_go (v := .int .i64 y) rfl rfl (stays_run fun w' h => ex_load rfl rfl (ld_one (by kernel_rfl) (f1 w' h))) ?_
      simp only [Act.put, List.setIfInBounds_toArray, List.set_cons_succ, List.set_cons_zero]
      refine wpStill_go (v := .agg #[.int .i64 x, .int .i64 y]) rfl rfl (stays_run fun w' h => by simp [go_sem]) ?_
      simp only [Act.put, List.setIfInBounds_toArray, List.set_cons_succ, List.set_cons_zero]
      refine wpStill_skip rfl (wpStill_skip rfl (wpStill_skip rfl (wpStill_nil ?_)))
      repeat (refine wpMark_skip rfl ?_)
      refine wpMark_go rfl fun w2 h2 K hK => ?_
      have B2 := hbel.trans (((Below.refl _ wr).drew.trans h2).mono hbel.size)
      obtain ⟨hBS, Aa, ca, Bs, cs, hRow, hAnts, hSky⟩ := hI.ext B2
      cases hok : addOk s.1 (x, y)
      · go_wp2_with fail
        refine (addAnt_no S Aa s.1.length ca s.1 _ (x, y) w2 rfl hO.len hok hRow (Rd.of_own hAnts)).mono ?_
        rintro e w3 ⟨rfl, b3⟩
        have B3 := B2.trans (b3.mono B2.size)
        clear b3 h2
        go_wp2_with fail
        refine hK _ _ (fun h => by cases h) ?_
        clear hK
        refine wpMark_go rfl fun w4 h4 K hK => ?_
        go_wp2_with fail
        refine hK _ _ (fun h => by cases h) ?_
        clear hK
        refine wpMark_go rfl fun w5 h5 K hK => ?_
        go_wp2_with fail
        refine hK _ _ (fun h => by cases h) ?_
        clear hK
        refine wpMark_nil fun w6 h6 => ?_
        have E6 : Below w3.heap.size w3 w6 := (Ext.trans (Ext.trans h4 h5) h6)
        simp only [onlyN, Exit.then]
        clear h4 h5 h6
        go_wp2_with fail
        go_ret2
        have B6 := B3.trans (E6.mono B3.size)
        exact ⟨oOk, false, rfl, by unfold antR; rw [Hx.out, Hy.out, hok]; rfl, by unfold antR; rw [Hx.out, Hy.out, hok]; exact hI.ext B6, .of_below B6⟩
      · go_wp2_with fail
        have hsz2 : B0 ≤ w2.heap.size := by have := hRow.lt; omega
        refine (addAnt_yes S B0 Aa s.1.length ca s.1 _ (x, y) w2 rfl hO.len hok hRow hsz2 hAnts).mono ?_
        rintro e w3 ⟨rfl, A', c', r3, o3, g3⟩
        have hSky3 := own_keep hSky (w' := w3) fun j hj => g3.block j (own_lt hSky hj).2.1 (own_neS hSky hRow (by decide) j hj) (own_apartT hSky hAnts (by decide) j hj)
        have K3 := (SKept.of_below B2).trans (SKept.of_grown hBS g3 hAnts)
        have O3 := Lib.hid o3; clear o3
        have HSky3 := Lib.hid hSky3; clear hSky3
        have HAnts := Lib.hid hAnts; clear hAnts
        have HSky := Lib.hid hSky; clear hSky
        clear h2 g3 hRow
        go_wp2_with fail
        refine hK _ _ (fun h => by cases h) ?_
        clear hK
        refine wpMark_go rfl fun w4 h4 K hK => ?_
        go_wp2_with fail
        refine hK _ _ (fun h => by cases h) ?_
        clear hK
        refine wpMark_go rfl fun w5 h5 K hK => ?_
        go_wp2_with fail
        refine hK _ _ (fun h => by cases h) ?_
        clear hK
        refine wpMark_nil fun w6 h6 => ?_
        have E6 : Below w3.heap.size w3 w6 := (Ext.trans (Ext.trans h4 h5) h6)
        simp only [onlyN, Exit.then]
        clear h4 h5 h6
        go_wp2_with fail
        go_ret2
        refine ⟨oOk, true, rfl, by unfold antR; rw [Hx.out, Hy.out, hok]; rfl, ?_, K3.trans (.of_below E6)⟩
        unfold antR
        rw [Hx.out, Hy.out, hok]
        refine ⟨hBS, A', c', Bs, cs, ?_, ?_, own_ext HSky3.out E6⟩
        · have := r3.kept E6
          simpa using this
        · have := own_ext O3.out E6
          simpa using this
end Go.Proofs.YtipgpafgampfbaaGreatDoor
