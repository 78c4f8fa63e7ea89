/- A line of the script: cells. -/
import Derived.Test.YtipgpafgampfbaaGreatDoorB6
namespace Go.Proofs.YtipgpafgampfbaaGreatDoor
open Go.RowKit Go.Maps

theorem isSide_any (x : Int) (w : World) : Calls Tryz.prog 92 #[.int .i64 x] w fun e w' => e = .returned (.bool (inR x 0 3)) ∧ w = w' := by
  by_cases h0 : 0 ≤ x
  · by_cases h1 : x < 4
    · rw [inR_iff.2 (show 0 ≤ x ∧ x ≤ 3 by omega)]
      go_enter Tryz.func92, Tryz.ntmps92
      go_wp2_with fail
      go_ret
      exact ⟨rfl, rfl⟩
    · rw [inR_no.2 (show ¬ (0 ≤ x ∧ x ≤ 3) by omega)]
      go_enter Tryz.func92, Tryz.ntmps92
      go_wp2_with fail
      go_ret
      exact ⟨rfl, rfl⟩
  · rw [inR_no.2 (show ¬ (0 ≤ x ∧ x ≤ 3) by omega)]
    go_enter Tryz.func92, Tryz.ntmps92
    go_wp2_with fail
    go_ret
    exact ⟨rfl, rfl⟩
set_option maxRecDepth 100000 in
set_option maxHeartbeats 1000000 in
theorem execute_cell (B0 S n cap : Nat) (A : Option Addr) (t0 t1 t2 : Word) (s : St) (w : World) (hn : n = 4) (hc : n ≤ cap) (hI : IsS B0 S s w) (hO : StOk s) (hr : Rd w w.heap.size A (strs [wCell, t0, t1, t2])) :
    Calls Tryz.prog 53 #[.pointer (some ⟨S, 0, none⟩), .slice A n cap] w fun e w' => LineOf B0 S (cellR s (num7 t0) (num7 t1) (num7 t2)) w e w' := by
  obtain ⟨i0, hi, hz0, hz1, hz2⟩ := info_parts intInfo
  obtain ⟨h, hh⟩ : ∃ h, wCell = h := ⟨_, rfl⟩
  rw [hh] at hr
  have hl : h.length ≤ 1000 := by rw [← hh]; decide
  have hwl : wantL h = some 3 := by rw [← hh]; decide
  have e1 : (h == [97, 110, 116]) = false := by rw [← hh]; decide
  have e2 : (h == [99, 101, 108, 108]) = true := by rw [← hh]; decide
  obtain ⟨m, hm2⟩ : ∃ m, 3 = m := ⟨_, rfl⟩
  obtain ⟨t, ht⟩ : ∃ t, [t0, t1, t2] = t := ⟨_, rfl⟩
  have hm : t.length = m := by rw [← ht, ← hm2]; rfl
  rw [ht] at hr
  rw [hm2] at hwl
  obtain ⟨AT, hS, hrT⟩ := tail_fact (P := Tryz.prog) (t := 72) (e := 9) (show Rd w w.heap.size A (.string ⟨h.toArray⟩ :: strs t) from hr) (by kernel_rfl) (by kernel_rfl) n cap (by rw [strs_len, hm]; omega) hc
  rw [strs_len, hm] at hS
  have hmm := @run_makeMap Tryz.prog
  have m0 := mapAt_new w
  have b0 : Below w.heap.size w (w.alloc (.map #[] 0)) := bA1
  obtain ⟨bA, off, rfl, hbA, hc0⟩ := hr 0 _ (strs_get (ls := h :: t) (k := 0) (by simp))
  simp only [List.getD_cons_zero, Nat.add_zero] at hc0
  have c0 := hc0
  have hn1 : (0 : Int) < n := by omega
  have hwr : IntKind.i64.wrap ((n : Int) - 1) = m := by rw [IntWalk.i64_in _ (by omega)]; omega
  have h7 : m ≤ 7 := by omega
  have Hn := Lib.hid hn; clear hn
  have Hm := Lib.hid hm; clear hm
  have HrT := Lib.hid hrT; clear hrT
  have Hh := Lib.hid hh; clear hh
  have Ht := Lib.hid ht; clear ht
  have Hm2 := Lib.hid hm2; clear hm2
  go_enter Tryz.func53, Tryz.ntmps53
  go_wp2_with (first | (refine wpList_insW (k := wAnt) (n := 2) rfl rfl rfl m0 (by omega) (by decide) (by omega) ?_; clear m0; intro w1 m0 g0; have b0 := b0.grown g0 b0.size (fun k e => by cases e; exact Nat.le_refl _); clear c0; have c0 : w1.cell? ⟨bA, off, none⟩ = some (.string ⟨h.toArray⟩) := (b0.cell (p := ⟨bA, off, none⟩) hbA).trans hc0; clear g0) | (refine wpList_insW (k := wCell) (n := 3) rfl rfl rfl m0 (by omega) (by decide) (by omega) ?_; clear m0; intro w1 m0 g0; have b0 := b0.grown g0 b0.size (fun k e => by cases e; exact Nat.le_refl _); clear c0; have c0 : w1.cell? ⟨bA, off, none⟩ = some (.string ⟨h.toArray⟩) := (b0.cell (p := ⟨bA, off, none⟩) hbA).trans hc0; clear g0) | (refine wpList_insW (k := wBases) (n := 0) rfl rfl rfl m0 (by omega) (by decide) (by omega) ?_; clear m0; intro w1 m0 g0; have b0 := b0.grown g0 b0.size (fun k e => by cases e; exact Nat.le_refl _); clear c0; have c0 : w1.cell? ⟨bA, off, none⟩ = some (.string ⟨h.toArray⟩) := (b0.cell (p := ⟨bA, off, none⟩) hbA).trans hc0; clear g0) | (refine wpList_insW (k := wCover) (n := 0) rfl rfl rfl m0 (by omega) (by decide) (by omega) ?_; clear m0; intro w1 m0 g0; have b0 := b0.grown g0 b0.size (fun k e => by cases e; exact Nat.le_refl _); clear c0; have c0 : w1.cell? ⟨bA, off, none⟩ = some (.string ⟨h.toArray⟩) := (b0.cell (p := ⟨bA, off, none⟩) hbA).trans hc0; clear g0) | (refine wpList_insW (k := wBeam) (n := 0) rfl rfl rfl m0 (by omega) (by decide) (by omega) ?_; clear m0; intro w1 m0 g0; have b0 := b0.grown g0 b0.size (fun k e => by cases e; exact Nat.le_refl _); clear c0; have c0 : w1.cell? ⟨bA, off, none⟩ = some (.string ⟨h.toArray⟩) := (b0.cell (p := ⟨bA, off, none⟩) hbA).trans hc0; clear g0) | (refine wpList_insW (k := wPoint) (n := 2) rfl rfl rfl m0 (by omega) (by decide) (by omega) ?_; clear m0; intro w1 m0 g0; have b0 := b0.grown g0 b0.size (fun k e => by cases e; exact Nat.le_refl _); clear c0; have c0 : w1.cell? ⟨bA, off, none⟩ = some (.string ⟨h.toArray⟩) := (b0.cell (p := ⟨bA, off, none⟩) hbA).trans hc0; clear g0) | (refine wpList_insW (k := wDirty) (n := 0) rfl rfl rfl m0 (by omega) (by decide) (by omega) ?_; clear m0; intro w1 m0 g0; have b0 := b0.grown g0 b0.size (fun k e => by cases e; exact Nat.le_refl _); clear c0; have c0 : w1.cell? ⟨bA, off, none⟩ = some (.string ⟨h.toArray⟩) := (b0.cell (p := ⟨bA, off, none⟩) hbA).trans hc0; clear g0) | (refine wpList_insW (k := wClean) (n := 1) rfl rfl rfl m0 (by omega) (by decide) (by omega) ?_; clear m0; intro w1 m0 g0; have b0 := b0.grown g0 b0.size (fun k e => by cases e; exact Nat.le_refl _); clear c0; have c0 : w1.cell? ⟨bA, off, none⟩ = some (.string ⟨h.toArray⟩) := (b0.cell (p := ⟨bA, off, none⟩) hbA).trans hc0; clear g0) | (refine wpList_lookW (h := h) rfl rfl rfl rfl m0 hl ?_; rw [want_eq, hwl]; simp only [Option.getD_some, Option.isSome_some]))
  go_loopw [9, 44] (fun v i wr => ∃ k : Nat, k ≤ m ∧ i = .int .i64 k ∧ wr.ownsRow w.heap.size 3 1 v k (((t.take k).map num7).map (Value.int .i64)) ∧ Below w.heap.size w wr) (fun _ i _ => m - (intOf i).toNat)
  case atStart => exact ⟨0, by omega, rfl, World.ownsRow_nil _ _ _ _, b0⟩
  case round =>
    obtain ⟨k, hk, rfl, hown, hbel⟩ := hrel
    have hsz := hbel.size
    by_cases hlt : k < m
    · obtain ⟨x, hx⟩ : ∃ x, t[k]? = some x := ⟨_, List.getElem?_eq_getElem (by rw [Hm.out]; exact hlt)⟩
      have hxg : (strs t)[k]? = some (.string ⟨x.toArray⟩) := by unfold strs; rw [List.getElem?_map, hx]; rfl
      obtain ⟨bT, offT, rfl, hbT, hcT⟩ := (HrT.out.below hbel) k _ hxg
      have hts : (t.take (k + 1)).map num7 = (t.take k).map num7 ++ [num7 x] := by rw [List.take_add_one, hx]; simp
      obtain ⟨Av, cv, rfl⟩ := own_form hown
      have Hown := Lib.hid hown; clear hown
      have Hts := Lib.hid hts; clear hts
      have Hx := Lib.hid hx; clear hx
      have Hxg := Lib.hid hxg; clear hxg
      go_wp2_with fail
      refine (scriptNumber_any x _).mono ?_
      rintro e w4 ⟨rfl, b4⟩
      have hr4 := own_ext Hown.out b4
      have B4 := hbel.trans (b4.mono hbel.size)
      have sz4 := B4.size
      have Hr4 := Lib.hid hr4; clear hr4
      go_wp2_with (at_builtin; refine wpList_append_own _ rfl _ _ 32 rfl w.heap.size 3 i0 (.int .i64 0) 1 8 (by kernel_rfl) hi hz0 hz1 hz2 rfl (by decide) _ k _ rfl (Hr4.out.alloc _) ⟨w4.heap.size, 0, none⟩ 1 1 [.int .i64 (num7 x)] rfl rfl (cell_one_new _ _ _) (by simp [Value.oneCell']) (by unfold maxLen; omega) (by omega) (by simp; omega) ?_; intro v' w7 hown' hgrow _; obtain ⟨g', cap', rfl⟩ := ownsRow_succ hown')
      have B7 := (B4.alloc sz4 _).grown hgrow (by simp; omega) fun j hj => (own_lt Hr4.out hj).1
      have Hown' := Lib.hid hown'; clear hown'
      have hidX := Lib.hid B7; clear B7; have B7 := hidX; clear hidX
      clear hgrow
      go_wp2_with fail
      go_roundw
      case measure => simp [intOf]; omega
      case rel => exact ⟨k + 1, by omega, by go_num, by rw [Hts.out, List.map_append]; exact Hown'.out, B7.out⟩
    · obtain rfl : k = m := by omega
      rw [List.take_of_length_le (by rw [Hm.out]; exact Nat.le_refl _)] at hown
      obtain ⟨Av, cv, rfl⟩ := own_form hown
      have c0 : wr.cell? ⟨bA, off, none⟩ = some (.string ⟨h.toArray⟩) := (hbel.cell (p := ⟨bA, off, none⟩) hbA).trans hc0
      have Hown := Lib.hid hown; clear hown
      obtain rfl : 3 = k := Hm2.out
      have hnum := Rd.of_own Hown.out
      rw [← Ht.out] at hnum
      obtain ⟨bN, oN, rfl, hbN, n0⟩ := hnum 0 _ rfl
      obtain ⟨bN2, oN2, p2, _, n1⟩ := hnum 1 _ rfl
      obtain ⟨rfl, rfl⟩ : bN = bN2 ∧ oN = oN2 := by injection p2 with p2; injection p2 with e3 e4; exact ⟨e3, e4⟩
      obtain ⟨bN3, oN3, p3, _, n2⟩ := hnum 2 _ rfl
      obtain ⟨rfl, rfl⟩ : bN = bN3 ∧ oN = oN3 := by injection p3 with p3; injection p3 with e3 e4; exact ⟨e3, e4⟩
      have f0 : ∀ w', Below wr.heap.size wr w' → w'.cell? ⟨bN, oN, none⟩ = some (.int .i64 (num7 t0)) := fun w' h => (h.cell (p := ⟨bN, oN + 0, none⟩) hbN).trans n0
      have f1 : ∀ w', Below wr.heap.size wr w' → w'.cell? ⟨bN, oN + 1, none⟩ = some (.int .i64 (num7 t1)) := fun w' h => (h.cell (p := ⟨bN, oN + 1, none⟩) hbN).trans n1
      have f2 : ∀ w', Below wr.heap.size wr w' → w'.cell? ⟨bN, oN + 2, none⟩ = some (.int .i64 (num7 t2)) := fun w' h => (h.cell (p := ⟨bN, oN + 2, none⟩) hbN).trans n2
      clear hnum n0 n1 n2
      obtain ⟨x, hx⟩ : ∃ x, num7 t0 = x := ⟨_, rfl⟩
      obtain ⟨y, hy⟩ : ∃ y, num7 t1 = y := ⟨_, rfl⟩
      obtain ⟨z, hz⟩ : ∃ z, num7 t2 = z := ⟨_, rfl⟩
      rw [hx] at f0
      rw [hy] at f1
      rw [hz] at f2
      have Hx := Lib.hid hx; clear hx
      have Hy := Lib.hid hy; clear hy
      have Hz := Lib.hid hz; clear hz
      have c1 := f0 wr (Below.refl _ _)
      have c2 := f1 wr (Below.refl _ _)
      have c3 := f2 wr (Below.refl _ _)
      have hR : ∀ (b : Bool), (inR x 0 3 && (inR y 0 3 && inR z (-100000) 100000)) = b → cellR s (num7 t0) (num7 t1) (num7 t2) = if b then ((s.1, s.2.set (4 * y + x).toNat z), oOk) else (s, oNo) := fun b hb => by rw [Hx.out, Hy.out, Hz.out]; unfold cellR cellOk; rw [hb]
      have HR := Lib.hid hR; clear hR
      go_wp2_with fail
      refine (isSide_any x _).mono ?_
      rintro e w2 ⟨rfl, rfl⟩
      cases v1 : inR x 0 3
      · go_wp2_with fail
        go_ret2
        refine ⟨[], false, rfl, ?_, ?_, ?_⟩
        · rw [HR.out false (by rw [v1]; rfl)]; rfl
        · rw [HR.out false (by rw [v1]; rfl)]; exact hI.ext hbel
        · exact .of_below hbel
      · go_wp2_with fail
        refine (isSide_any y _).mono ?_
        rintro e w2 ⟨rfl, rfl⟩
        cases v2 : inR y 0 3
        · go_wp2_with fail
          go_ret2
          refine ⟨[], false, rfl, ?_, ?_, ?_⟩
          · rw [HR.out false (by rw [v1, v2]; rfl)]; rfl
          · rw [HR.out false (by rw [v1, v2]; rfl)]; exact hI.ext hbel
          · exact .of_below hbel
        · go_wp2_with fail
          refine (inRange_any z 100000 _ (by omega) (by omega)).mono ?_
          rintro e w2 ⟨rfl, rfl⟩
          cases v3 : inR z (-100000) 100000
          · go_wp2_with fail
            go_ret2
            refine ⟨[], false, rfl, ?_, ?_, ?_⟩
            · rw [HR.out false (by rw [v1, v2, v3]; rfl)]; rfl
            · rw [HR.out false (by rw [v1, v2, v3]; rfl)]; exact hI.ext hbel
            · exact .of_below hbel
          · have hRR := HR.out true (by rw [v1, v2, v3]; rfl)
            obtain ⟨hx0, hx3⟩ := inR_iff.1 v1
            obtain ⟨hy0, hy3⟩ := inR_iff.1 v2
            obtain ⟨c, hcc⟩ : ∃ c : Nat, 4 * y + x = c := ⟨(4 * y + x).toNat, by omega⟩
            have hci : cellI x y = c := by unfold cellI; rw [Int.emod_eq_of_lt (by omega) (by omega), Int.emod_eq_of_lt (by omega) (by omega)]; exact hcc
            have hc16 : c < 16 := by omega
            rw [show (4 * y + x).toNat = c by omega] at hRR
            obtain ⟨hBS, Aa, ca, Bs, cs, hRow, hAnts, hSky⟩ := hI.ext hbel
            have hl16 : s.2.length = 16 := skyV_len hO.sky
            have HRR := Lib.hid hRR; clear hRR
            have V1 := Lib.hid v1; clear v1
            have V2 := Lib.hid v2; clear v2
            have V3 := Lib.hid v3; clear v3
            have Hci := Lib.hid hci; clear hci
            have HAnts := Lib.hid hAnts; clear hAnts
            have HSky := Lib.hid hSky; clear hSky
            clear hcc
            go_wp2_with fail
            have fS : ∀ w', Below wr.heap.size wr w' → w'.cell? ⟨S, 1, none⟩ = some (.slice Bs 16 cs) := fun w' h => (hRow.kept h).cell 1
            obtain ⟨u, hu⟩ : ∃ u, (s.2.map (Value.int .i64))[c]? = some u := ⟨_, List.getElem?_eq_getElem (by rw [List.length_map, hl16]; exact hc16)⟩
            obtain ⟨g, eg, hBg, hob, hcg, hfg, hset⟩ := own_set HSky.out (i := c) hu
            cases eg
            refine wp_region_N [15] [15] (by kernel_rfl) (by kernel_rfl) ?_
            refine wpStill_go (v := .pointer (some ⟨S, 0, none⟩)) rfl rfl (stays_run fun w' h => ex_move rfl rfl) ?_
            simp only [Act.put, List.setIfInBounds_toArray, List.set_cons_succ, List.set_cons_zero]
            refine wpStill_go (v := .pointer (some ⟨S, 0, none⟩)) rfl rfl (stays_run fun w' h => by simp [go_sem]) ?_
            simp only [Act.put, List.setIfInBounds_toArray, List.set_cons_succ, List.set_cons_zero]
            refine wpStill_go (v := .pointer (some ⟨S, 1, none⟩)) rfl rfl (stays_run fun w' h => by simp [go_sem]) ?_
            simp only [Act.put, List.setIfInBounds_toArray, List.set_cons_succ, List.set_cons_zero]
            refine wpStill_go (v := .slice (some ⟨g, 0, none⟩) 16 cs) rfl rfl (stays_run fun w' h => ex_load rfl rfl (ld_one (by kernel_rfl) (fS w' h))) ?_
            simp only [Act.put, List.setIfInBounds_toArray, List.set_cons_succ, List.set_cons_zero]
            refine wpStill_go (v := .slice (some ⟨bN, oN, none⟩) 3 cv) rfl rfl (stays_run fun w' h => ex_move rfl rfl) ?_
            simp only [Act.put, List.setIfInBounds_toArray, List.set_cons_succ, List.set_cons_zero]
            refine wpStill_go (v := .pointer (some ⟨bN, oN + 0 * 1, none⟩)) rfl rfl (stays_run fun w' h => ex_index rfl (by kernel_rfl) (by kernel_rfl) rfl rfl ((by decide : 0 < 3))) ?_
            simp only [Act.put, List.setIfInBounds_toArray, List.set_cons_succ, List.set_cons_zero]
            refine wpStill_go (v := .int .i64 x) rfl rfl (stays_run fun w' h => ex_load rfl rfl (ld_one (by kernel_rfl) (f0 w' h))) ?_
            simp only [Act.put, List.setIfInBounds_toArray, List.set_cons_succ, List.set_cons_zero]
            refine wpStill_go (v := .slice (some ⟨bN, oN, none⟩) 3 cv) rfl rfl (stays_run fun w' h => ex_move rfl rfl) ?_
            simp only [Act.put, List.setIfInBounds_toArray, List.set_cons_succ, List.set_cons_zero]
            refine wpStill_go (v := .pointer (some ⟨bN, oN + 1 * 1, none⟩)) rfl rfl (stays_run fun w' h => ex_index rfl (by kernel_rfl) (by kernel_rfl) rfl rfl ((by decide : 1 < 3))) ?_
            simp only [Act.put, List.setIfInBounds_toArray, List.set_cons_succ, List.set_cons_zero]
            refine wpStill_go (v := .int .i64 y) rfl rfl (stays_run fun w' h => ex_load rfl rfl (ld_one (by kernel_rfl) (f1 w' h))) ?_
            simp only [Act.put, List.setIfInBounds_toArray, List.set_cons_succ, List.set_cons_zero]
            refine wpStill_go (v := .int .i64 c) rfl rfl (stays_call (f := 94) (args := #[.int .i64 x, .int .i64 y]) (fun w' h => by simp [go_sem]) (fun w' _ => by rw [← Hci.out]; exact (cellAt_any x y w').mono fun e w'' ⟨h, h2⟩ => ⟨h, h2 ▸ Below.refl _ _⟩)) ?_
            simp only [Act.put, List.setIfInBounds_toArray, List.set_cons_succ, List.set_cons_zero]
            refine wpStill_go (v := .slice (some ⟨bN, oN, none⟩) 3 cv) rfl rfl (stays_run fun w' h => ex_move rfl rfl) ?_
            simp only [Act.put, List.setIfInBounds_toArray, List.set_cons_succ, List.set_cons_zero]
            refine wpStill_go (v := .pointer (some ⟨bN, oN + 2 * 1, none⟩)) rfl rfl (stays_run fun w' h => ex_index rfl (by kernel_rfl) (by kernel_rfl) rfl rfl ((by decide : 2 < 3))) ?_
            simp only [Act.put, List.setIfInBounds_toArray, List.set_cons_succ, List.set_cons_zero]
            refine wpStill_go (v := .int .i64 z) rfl rfl (stays_run fun w' h => ex_load rfl rfl (ld_one (by kernel_rfl) (f2 w' h))) ?_
            simp only [Act.put, List.setIfInBounds_toArray, List.set_cons_succ, List.set_cons_zero]
            refine wpStill_go (v := .pointer (some ⟨g, 0 + c * 1, none⟩)) rfl rfl (stays_run fun w' h => ex_index rfl (by kernel_rfl) (by kernel_rfl) rfl rfl (hc16)) ?_
            simp only [Act.put, List.setIfInBounds_toArray, List.set_cons_succ, List.set_cons_zero]
            refine wpStill_skip rfl (wpStill_nil ?_)
            repeat (refine wpMark_skip rfl ?_)
            refine wpMark_go rfl fun w5 h5 K hK => ?_
            have B5 : Below wr.heap.size wr w5 := (Below.refl _ wr).drew.trans h5
            have o5 := own_ext HSky.out B5
            obtain ⟨g2, eg2, _, _, hcg5, hfg5, hset5⟩ := own_set o5 (i := c) hu
            cases eg2
            have a5 := own_ext HAnts.out B5
            have r5 := hRow.kept B5
            have e0 : (⟨g, 0 + c * 1, none⟩ : Addr) = ⟨g, c, none⟩ := by simp
            rw [e0]
            have hne : S ≠ g := Ne.symm (own_neS o5 r5 (by decide) g rfl)
            have hs6 := hset5 (.int .i64 z)
            have a6 := own_over a5 (grown_set w5 g c (.int .i64 z)) fun j hj e => by
              have := own_apartT a5 o5 (by decide) j hj
              exact this (by rw [← e]; rfl)
            have r6 := r5.far (p := ⟨g, c, none⟩) hne (.int .i64 z)
            have K6 : SKept B0 S wr (w5.setCell ⟨g, c, none⟩ (.int .i64 z)) := (SKept.of_below B5).trans (by
              have q := grown_set w5 g c (.int .i64 z)
              refine ⟨q.os, q.tape, q.output, q.size, fun j o hj h1 h2 h3 => (q.block j (Array.getElem?_eq_some_iff.1 hj).1 fun e => ?_).trans hj⟩
              cases e
              obtain ⟨_, _, cs2, fr, h4⟩ := own_lt o5 (j := g) rfl
              rw [hj] at h4
              injection h4 with h4
              have := h3 _ _ h4
              omega)
            have Hs6 := Lib.hid hs6; clear hs6
            have A6 := Lib.hid a6; clear a6
            have O5 := Lib.hid o5; clear o5
            have A5 := Lib.hid a5; clear a5
            clear hset hset5 h5
            go_wp2_with fail
            refine hK _ _ (fun h => by cases h) ?_
            clear hK
            refine wpMark_nil fun w6 h6 => ?_
            simp only [onlyN, Exit.then]
            have K7 := K6.trans (.of_below h6)
            have r7 := r6.kept h6
            have a7 := own_ext A6.out h6
            have s7 := own_ext Hs6.out h6
            have A7 := Lib.hid a7; clear a7
            have S7 := Lib.hid s7; clear s7
            have hidX := Lib.hid K7; clear K7; have K7 := hidX; clear hidX
            clear K6 h6
            go_wp2_with fail
            go_ret2
            refine ⟨oOk, true, rfl, by rw [HRR.out]; rfl, ?_, (SKept.of_below hbel).trans K7.out⟩
            rw [HRR.out]
            refine ⟨hBS, Aa, ca, _, cs, r7, A7.out, ?_⟩
            simp only [if_true]
            rw [List.map_set]
            exact S7.out
end Go.Proofs.YtipgpafgampfbaaGreatDoor
