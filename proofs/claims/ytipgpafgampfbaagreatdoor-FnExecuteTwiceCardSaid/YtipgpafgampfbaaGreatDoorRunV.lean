/- A line of the script that asks: a point source. -/
import Derived.Test.YtipgpafgampfbaaGreatDoorB6
import Derived.Test.YtipgpafgampfbaaGreatDoorCovB
import Derived.Test.YtipgpafgampfbaaGreatDoorB1
import Derived.Test.YtipgpafgampfbaaGreatDoorB4
import Derived.Test.YtipgpafgampfbaaGreatDoorB5
import Derived.Test.YtipgpafgampfbaaGreatDoorPointI
import Derived.Test.YtipgpafgampfbaaGreatDoorRunC
namespace Go.Proofs.YtipgpafgampfbaaGreatDoor
open Go.RowKit Go.Maps

theorem pt_vis {xs : List (Int × Int)} {d : Int × Int} (h : ptV xs d 1 = true) : visV (xs.length : Int) (ptL xs d 1 (pairsN xs.length)) = true := by
  unfold ptV at h
  rw [Bool.and_eq_true, Bool.and_eq_true] at h
  have hl := arrV_len h.1
  have hb := bm_pairs xs.length (by omega) (by omega)
  refine visV_iff.2 ⟨by omega, by rw [ptL_len]; omega, fun g hg => ?_⟩
  obtain ⟨p, _, rfl⟩ := List.mem_map.1 hg
  exact visOk_iff.2 ⟨by simp, by dsimp only; omega⟩
set_option maxRecDepth 100000 in
set_option maxHeartbeats 1000000 in
theorem execute_point (B0 S n m cap : Nat) (A : Option Addr) (h t0 t1 : Word) (t : List Word) (s : St) (w : World) (hn : n = m + 1) (hm : t.length = m) (hm2 : 2 = m) (htt : [t0, t1] = t) (hh : h = wPoint) (hwl : wantL h = some m) (h7 : m ≤ 7) (hc : n ≤ cap) (hl : h.length ≤ 1000) (hI : IsS B0 S s w) (hO : StOk s) (hv : arrV s.1 = true) (hr : Rd w w.heap.size A (strs (h :: t))) (ht : Tab w) :
    Calls Tryz.prog 53 #[.pointer (some ⟨S, 0, none⟩), .slice A n cap] w fun e w' => LineOf B0 S (s, pointB s.1 (num7 t0) (num7 t1)) w e w' := by
  have e1 : (h == [97, 110, 116]) = false := by rw [hh]; decide
  have e2 : (h == [99, 101, 108, 108]) = false := by rw [hh]; decide
  have p0 : (h == [98, 97, 115, 101, 115]) = false := by rw [hh]; decide
  have p1 : (h == [99, 111, 118, 101, 114]) = false := by rw [hh]; decide
  have p2 : (h == [98, 101, 97, 109]) = false := by rw [hh]; decide
  have p3 : (h == [112, 111, 105, 110, 116]) = true := by rw [hh]; decide
  have Hh := Lib.hid hh; clear hh
  have Hm2 := Lib.hid hm2; clear hm2
  have Htt := Lib.hid htt; clear htt
  obtain ⟨i0, hi, hz0, hz1, hz2⟩ := info_parts intInfo
  obtain ⟨AT, hS, hrT⟩ := tail_fact (P := Tryz.prog) (t := 72) (e := 9) (show Rd w w.heap.size A (.string ⟨h.toArray⟩ :: strs t) from hr) (by kernel_rfl) (by kernel_rfl) n cap (by rw [strs_len, hm]; omega) hc
  rw [strs_len, hm] at hS
  have hmm := @run_makeMap Tryz.prog
  have m0 := mapAt_new w
  have b0 : Below w.heap.size w (w.alloc (.map #[] 0)) := bA1
  obtain ⟨bA, off, rfl, hbA, hc0⟩ := hr 0 _ (strs_get (ls := h :: t) (k := 0) (by simp))
  simp only [List.getD_cons_zero, Nat.add_zero] at hc0
  have c0 := hc0
  have hn1 : (0 : Int) < n := by omega
  have hwr : IntKind.i64.wrap ((n : Int) - 1) = m := by rw [IntWalk.i64_in _ (by omega)]; omega
  have Hn := Lib.hid hn; clear hn
  have Hm := Lib.hid hm; clear hm
  have HrT := Lib.hid hrT; clear hrT
  go_enter Tryz.func53, Tryz.ntmps53
  go_wp2_with (first | (refine wpList_insW (k := wAnt) (n := 2) rfl rfl rfl m0 (by omega) (by decide) (by omega) ?_; clear m0; intro w1 m0 g0; have b0 := b0.grown g0 b0.size (fun k e => by cases e; exact Nat.le_refl _); clear c0; have c0 : w1.cell? ⟨bA, off, none⟩ = some (.string ⟨h.toArray⟩) := (b0.cell (p := ⟨bA, off, none⟩) hbA).trans hc0; clear g0) | (refine wpList_insW (k := wCell) (n := 3) rfl rfl rfl m0 (by omega) (by decide) (by omega) ?_; clear m0; intro w1 m0 g0; have b0 := b0.grown g0 b0.size (fun k e => by cases e; exact Nat.le_refl _); clear c0; have c0 : w1.cell? ⟨bA, off, none⟩ = some (.string ⟨h.toArray⟩) := (b0.cell (p := ⟨bA, off, none⟩) hbA).trans hc0; clear g0) | (refine wpList_insW (k := wBases) (n := 0) rfl rfl rfl m0 (by omega) (by decide) (by omega) ?_; clear m0; intro w1 m0 g0; have b0 := b0.grown g0 b0.size (fun k e => by cases e; exact Nat.le_refl _); clear c0; have c0 : w1.cell? ⟨bA, off, none⟩ = some (.string ⟨h.toArray⟩) := (b0.cell (p := ⟨bA, off, none⟩) hbA).trans hc0; clear g0) | (refine wpList_insW (k := wCover) (n := 0) rfl rfl rfl m0 (by omega) (by decide) (by omega) ?_; clear m0; intro w1 m0 g0; have b0 := b0.grown g0 b0.size (fun k e => by cases e; exact Nat.le_refl _); clear c0; have c0 : w1.cell? ⟨bA, off, none⟩ = some (.string ⟨h.toArray⟩) := (b0.cell (p := ⟨bA, off, none⟩) hbA).trans hc0; clear g0) | (refine wpList_insW (k := wBeam) (n := 0) rfl rfl rfl m0 (by omega) (by decide) (by omega) ?_; clear m0; intro w1 m0 g0; have b0 := b0.grown g0 b0.size (fun k e => by cases e; exact Nat.le_refl _); clear c0; have c0 : w1.cell? ⟨bA, off, none⟩ = some (.string ⟨h.toArray⟩) := (b0.cell (p := ⟨bA, off, none⟩) hbA).trans hc0; clear g0) | (refine wpList_insW (k := wPoint) (n := 2) rfl rfl rfl m0 (by omega) (by decide) (by omega) ?_; clear m0; intro w1 m0 g0; have b0 := b0.grown g0 b0.size (fun k e => by cases e; exact Nat.le_refl _); clear c0; have c0 : w1.cell? ⟨bA, off, none⟩ = some (.string ⟨h.toArray⟩) := (b0.cell (p := ⟨bA, off, none⟩) hbA).trans hc0; clear g0) | (refine wpList_insW (k := wDirty) (n := 0) rfl rfl rfl m0 (by omega) (by decide) (by omega) ?_; clear m0; intro w1 m0 g0; have b0 := b0.grown g0 b0.size (fun k e => by cases e; exact Nat.le_refl _); clear c0; have c0 : w1.cell? ⟨bA, off, none⟩ = some (.string ⟨h.toArray⟩) := (b0.cell (p := ⟨bA, off, none⟩) hbA).trans hc0; clear g0) | (refine wpList_insW (k := wClean) (n := 1) rfl rfl rfl m0 (by omega) (by decide) (by omega) ?_; clear m0; intro w1 m0 g0; have b0 := b0.grown g0 b0.size (fun k e => by cases e; exact Nat.le_refl _); clear c0; have c0 : w1.cell? ⟨bA, off, none⟩ = some (.string ⟨h.toArray⟩) := (b0.cell (p := ⟨bA, off, none⟩) hbA).trans hc0; clear g0) | (refine wpList_lookW (h := h) rfl rfl rfl rfl m0 hl ?_; rw [want_eq, hwl]; simp only [Option.getD_some, Option.isSome_some]))
  go_loopw [9, 44] (fun v i wr => ∃ k : Nat, k ≤ m ∧ i = .int .i64 k ∧ wr.ownsRow w.heap.size 3 1 v k (((t.take k).map num7).map (Value.int .i64)) ∧ Below w.heap.size w wr) (fun _ i _ => m - (intOf i).toNat)
  case atStart => exact ⟨0, by omega, rfl, World.ownsRow_nil _ _ _ _, b0⟩
  case round =>
    obtain ⟨k, hk, rfl, hown, hbel⟩ := hrel
    have hsz := hbel.size
    by_cases hlt : k < m
    · obtain ⟨x, hx⟩ : ∃ x, t[k]? = some x := ⟨_, List.getElem?_eq_getElem (by rw [Hm.out]; exact hlt)⟩
      have hxg : (strs t)[k]? = some (.string ⟨x.toArray⟩) := by unfold strs; rw [List.getElem?_map, hx]; rfl
      obtain ⟨bT, offT, rfl, hbT, hcT⟩ := (HrT.out.below hbel) k _ hxg
      have hts : (t.take (k + 1)).map num7 = (t.take k).map num7 ++ [num7 x] := by rw [List.take_add_one, hx]; simp
      obtain ⟨Av, cv, rfl⟩ := own_form hown
      have Hown := Lib.hid hown; clear hown
      have Hts := Lib.hid hts; clear hts
      have Hx := Lib.hid hx; clear hx
      have Hxg := Lib.hid hxg; clear hxg
      go_wp2_with fail
      refine (scriptNumber_any x _).mono ?_
      rintro e w4 ⟨rfl, b4⟩
      have hr4 := own_ext Hown.out b4
      have B4 := hbel.trans (b4.mono hbel.size)
      have sz4 := B4.size
      have Hr4 := Lib.hid hr4; clear hr4
      go_wp2_with (at_builtin; refine wpList_append_own _ rfl _ _ 32 rfl w.heap.size 3 i0 (.int .i64 0) 1 8 (by kernel_rfl) hi hz0 hz1 hz2 rfl (by decide) _ k _ rfl (Hr4.out.alloc _) ⟨w4.heap.size, 0, none⟩ 1 1 [.int .i64 (num7 x)] rfl rfl (cell_one_new _ _ _) (by simp [Value.oneCell']) (by unfold maxLen; omega) (by omega) (by simp; omega) ?_; intro v' w7 hown' hgrow _; obtain ⟨g', cap', rfl⟩ := ownsRow_succ hown')
      have B7 := (B4.alloc sz4 _).grown hgrow (by simp; omega) fun j hj => (own_lt Hr4.out hj).1
      have Hown' := Lib.hid hown'; clear hown'
      have hidX := Lib.hid B7; clear B7; have B7 := hidX; clear hidX
      clear hgrow
      go_wp2_with fail
      go_roundw
      case measure => simp [intOf]; omega
      case rel => exact ⟨k + 1, by omega, by go_num, by rw [Hts.out, List.map_append]; exact Hown'.out, B7.out⟩
    · obtain rfl : k = m := by omega
      rw [List.take_of_length_le (by rw [Hm.out]; exact Nat.le_refl _)] at hown
      obtain ⟨Av, cv, rfl⟩ := own_form hown
      have c0 : wr.cell? ⟨bA, off, none⟩ = some (.string ⟨h.toArray⟩) := (hbel.cell (p := ⟨bA, off, none⟩) hbA).trans hc0
      have Hown := Lib.hid hown; clear hown
      obtain ⟨hBS, Aa, ca, Bs, cs, hRow, hAnts, hSky⟩ := hI.ext hbel
      have y0 := hRow.cell 0
      simp only [List.getElem?_cons_zero] at y0
      have hl16 : s.2.length = 16 := skyV_len hO.sky
      have hn7 := hO.len
      have hcap := own_cap hAnts
      have hcov := coverOf_yes Aa s.1.length ca s.1 wr rfl hcap hv (Rd.of_own hAnts)
      have HAnts := Lib.hid hAnts; clear hAnts
      have HSky := Lib.hid hSky; clear hSky
      have Hl16 := Lib.hid hl16; clear hl16
      go_wp2_with fail
      refine hcov.mono ?_
      rintro e w2 ⟨gc, rfl, hgc, rC, b2⟩
      have B2 := hbel.trans (b2.mono hbel.size)
      have hbeam := beamOf_any (some ⟨gc, 0, none⟩) 16 16 (covL s.1) w2 (covL_len _) rC.rd
      rw [covV_cov, beamR_yes (covV_cov _), beamL_len] at hbeam
      have aN := own_ext HAnts.out b2
      have oN := own_ext Hown.out b2
      have aS := own_ext HSky.out b2
      have hRow := hRow.kept b2
      clear b2 y0 hcov
      have AN := Lib.hid aN; clear aN
      have AS := Lib.hid aS; clear aS
      have ON := Lib.hid oN; clear oN
      go_wp2_with fail
      refine hbeam.mono ?_
      rintro e w3 ⟨v, rfl, oB, b3⟩
      obtain ⟨Ab, cb, rfl⟩ := own_form oB
      have B3 := B2.trans (b3.mono B2.size)
      have oB := oB.mono B2.size
      have aN := own_ext AN.out b3
      have oN := own_ext ON.out b3
      have aS := own_ext AS.out b3
      have hRow := hRow.kept b3
      have rC := rC.kept b3
      have y1 := hRow.cell 1
      simp only [List.getElem?_cons_succ, List.getElem?_cons_zero] at y1
      have hdirty := dirtyOf_any Bs (some ⟨gc, 0, none⟩) 16 16 cs 16 s.2 (covL s.1) w3 Hl16.out (covL_len _) (by omega) (Rd.of_own aS) rC.rd
      clear b3 hbeam
      have OB := Lib.hid oB; clear oB
      have AN := Lib.hid aN; clear aN
      have AS := Lib.hid aS; clear aS
      have ON := Lib.hid oN; clear oN
      go_wp2_with fail
      refine hdirty.mono ?_
      rintro e w4 ⟨vD, rfl, oD, b4⟩
      have B4 := B3.trans (b4.mono B3.size)
      obtain ⟨Ad, cd, rfl⟩ := own_form oD
      have oD := oD.mono B3.size
      have oB := own_ext OB.out b4
      have aN := own_ext AN.out b4
      have aS := own_ext AS.out b4
      have hRow := hRow.kept b4
      have rC := rC.kept b4
      have y0 := hRow.cell 0
      simp only [List.getElem?_cons_zero] at y0
      have c0 : w4.cell? ⟨bA, off, none⟩ = some (.string ⟨h.toArray⟩) := (B4.cell (p := ⟨bA, off, none⟩) hbA).trans hc0
      have oN := own_ext ON.out b4
      clear b4 y1 hdirty
      have ON := Lib.hid oN; clear oN
      have OD := Lib.hid oD; clear oD
      have OB := Lib.hid oB; clear oB
      have AN := Lib.hid aN; clear aN
      have AS := Lib.hid aS; clear aS
      obtain rfl : 2 = k := Hm2.out
      have hnum := Rd.of_own ON.out
      rw [← Htt.out] at hnum
      obtain ⟨bN, oN, rfl, hbN, n0⟩ := hnum 0 _ rfl
      obtain ⟨bN2, oN2, p9, _, n1⟩ := hnum 1 _ rfl
      obtain ⟨rfl, rfl⟩ : bN = bN2 ∧ oN = oN2 := by injection p9 with p9; injection p9 with e3 e4; exact ⟨e3, e4⟩
      have f0 : ∀ w', Below w4.heap.size w4 w' → w'.cell? ⟨bN, oN + 0 * 1, none⟩ = some (.int .i64 (num7 t0)) := fun w' h => (h.cell (p := ⟨bN, oN + 0, none⟩) hbN).trans n0
      have f1 : ∀ w', Below w4.heap.size w4 w' → w'.cell? ⟨bN, oN + 1 * 1, none⟩ = some (.int .i64 (num7 t1)) := fun w' h => (h.cell (p := ⟨bN, oN + 1, none⟩) hbN).trans n1
      clear hnum n0 n1
      obtain ⟨x, hx⟩ : ∃ x, num7 t0 = x := ⟨_, rfl⟩
      obtain ⟨y, hy⟩ : ∃ y, num7 t1 = y := ⟨_, rfl⟩
      rw [hx] at f0
      rw [hy] at f1
      have LS : ∀ w', Below w4.heap.size w4 w' → (Instr.loadAt 26 (.pointer (some ⟨S, 0, none⟩))).run Tryz.prog w' = .ok (.slice Aa s.1.length ca) w' := fun w' h => ld_one (by kernel_rfl) ((hRow.kept h).cell 0)
      have hl2 := arrV_len hv
      have Hx := Lib.hid hx; clear hx
      have Hy := Lib.hid hy; clear hy
      go_wp2_with fail
      cases hpt : ptV s.1 (x, y) 1
      · have Hpt := Lib.hid (show pointB s.1 (num7 t0) (num7 t1) = oNo by rw [Hx.out, Hy.out]; unfold pointB; rw [hpt]; rfl)
        have hvn : visV (s.1.length : Int) [] = false := by
          cases hq : visV (s.1.length : Int) [] with
          | false => rfl
          | true => have := visV_len hq; simp at this
        have Hvn := Lib.hid hvn; clear hvn
        refine wp_region_T [11, 12, 13, 14, 15, 16] [] [true, true, true, true, true, true, true, true, true, true, true, false, false, false, false, false, false] 6 (Below w4.heap.size w4) _ (by kernel_rfl) (by kernel_rfl) (fun _ _ h h' => h.trans (h'.mono h.size)) (Below.refl _ _).drew (fun _ _ h => h) ?_
        refine wpStill_go (v := .pointer (some ⟨S, 0, none⟩)) rfl rfl (stays_run fun w' h => ex_move rfl rfl) ?_
        simp only [Act.put, List.setIfInBounds_toArray, List.set_cons_succ, List.set_cons_zero]
        refine wpStill_go (v := .pointer (some ⟨S, 0, none⟩)) rfl rfl (stays_run fun w' h => by simp [go_sem]) ?_
        simp only [Act.put, List.setIfInBounds_toArray, List.set_cons_succ, List.set_cons_zero]
        refine wpStill_go (v := .pointer (some ⟨S, 0, none⟩)) rfl rfl (stays_run fun w' h => by simp [go_sem]) ?_
        simp only [Act.put, List.setIfInBounds_toArray, List.set_cons_succ, List.set_cons_zero]
        refine wpStill_go (v := .slice Aa s.1.length ca) rfl rfl (stays_run fun w' h => ex_load rfl rfl (LS w' h)) ?_
        simp only [Act.put, List.setIfInBounds_toArray, List.set_cons_succ, List.set_cons_zero]
        refine wpStill_go (v := .slice (some ⟨bN, oN, none⟩) 2 cv) rfl rfl (stays_run fun w' h => ex_move rfl rfl) ?_
        simp only [Act.put, List.setIfInBounds_toArray, List.set_cons_succ, List.set_cons_zero]
        refine wpStill_go (v := .pointer (some ⟨bN, oN + 0 * 1, none⟩)) rfl rfl (stays_run fun w' h => ex_index rfl (by kernel_rfl) (by kernel_rfl) rfl rfl ((by decide : 0 < 2))) ?_
        simp only [Act.put, List.setIfInBounds_toArray, List.set_cons_succ, List.set_cons_zero]
        refine wpStill_go (v := .int .i64 x) rfl rfl (stays_run fun w' h => ex_load rfl rfl (ld_one (by kernel_rfl) (f0 w' h))) ?_
        simp only [Act.put, List.setIfInBounds_toArray, List.set_cons_succ, List.set_cons_zero]
        refine wpStill_go (v := .slice (some ⟨bN, oN, none⟩) 2 cv) rfl rfl (stays_run fun w' h => ex_move rfl rfl) ?_
        simp only [Act.put, List.setIfInBounds_toArray, List.set_cons_succ, List.set_cons_zero]
        refine wpStill_go (v := .pointer (some ⟨bN, oN + 1 * 1, none⟩)) rfl rfl (stays_run fun w' h => ex_index rfl (by kernel_rfl) (by kernel_rfl) rfl rfl ((by decide : 1 < 2))) ?_
        simp only [Act.put, List.setIfInBounds_toArray, List.set_cons_succ, List.set_cons_zero]
        refine wpStill_go (v := .int .i64 y) rfl rfl (stays_run fun w' h => ex_load rfl rfl (ld_one (by kernel_rfl) (f1 w' h))) ?_
        simp only [Act.put, List.setIfInBounds_toArray, List.set_cons_succ, List.set_cons_zero]
        refine wpStill_go (v := .agg #[.int .i64 x, .int .i64 y]) rfl rfl (stays_run fun w' h => by simp [go_sem]) ?_
        simp only [Act.put, List.setIfInBounds_toArray, List.set_cons_succ, List.set_cons_zero]
        refine wpStill_skip rfl (wpStill_skip rfl (wpStill_skip rfl (wpStill_skip rfl (wpStill_skip rfl (wpStill_skip rfl (wpStill_nil ?_))))))
        have E5 : Below w4.heap.size w4 w4.drew := (Below.refl _ _).drew
        refine wpTree_one (i := 11) (by kernel_rfl) rfl rfl (fun w5 h5 K hK => ?_)
        have E5 := E5.trans (h5.mono E5.size)
        go_wp2_with fail
        refine (visPoint_no Aa s.1.length ca s.1 x y 1 w5 rfl hcap (by omega) hpt ((Rd.of_own AN.out).ext E5)).mono ?_
        rintro e w6 ⟨rfl, b6⟩
        have E5 := E5.trans (b6.mono E5.size)
        clear b6
        go_wp2_with fail
        refine hK _ _ (fun _ => E5) ?_
        clear hK
        refine wpTree_one (i := 12) (by kernel_rfl) rfl rfl (fun w5 h5 K hK => ?_)
        have E5 := E5.trans (h5.mono E5.size)
        go_wp2_with fail
        refine hK _ _ (fun _ => E5) ?_
        clear hK
        refine wpTree_two (i := 13) (j := 14) (by kernel_rfl) rfl rfl rfl rfl (fun w5 h5 K hK => ?_) (fun w5 h5 K hK => ?_)
        · have E5 := E5.trans (h5.mono E5.size)
          go_wp2_with fail
          refine hK _ _ (fun _ => E5) ?_
          clear hK
          refine wpTree_two (i := 14) (j := 15) (by kernel_rfl) rfl rfl rfl rfl (fun w5 h5 K hK => ?_) (fun w5 h5 K hK => ?_)
          · have E5 := E5.trans (h5.mono E5.size)
            go_wp2_with fail
            refine hK _ _ (fun _ => E5) ?_
            clear hK
            refine wpTree_one (i := 15) (by kernel_rfl) rfl rfl (fun w5 h5 K hK => ?_)
            have E5 := E5.trans (h5.mono E5.size)
            go_wp2_with fail
            refine hK _ _ (fun _ => E5) ?_
            clear hK
            refine wpTree_one (i := 16) (by kernel_rfl) rfl rfl (fun w5 h5 K hK => ?_)
            have E5 := E5.trans (h5.mono E5.size)
            go_wp2_with fail
            refine hK _ _ (fun _ => E5) ?_
            clear hK
            refine wpTree_nil (by kernel_rfl) fun w9 h9 => ?_
            have E9 := E5.trans (h9.mono E5.size)
            have r9 := hRow.kept E9
            have y9 := r9.cell 0
            simp only [List.getElem?_cons_zero] at y9
            have B9 := B4.trans (E9.mono B4.size)
            simp only [onlyN, Exit.then]
            clear LS f0 f1 h9
            go_wp2_with fail
            refine (visPhases_no s.1.length none 0 0 [] w9 Hvn.out rfl (by omega) (Rd.nil _ _ _)).mono ?_
            rintro e w7 ⟨rfl, b7⟩
            have B7 := B9.trans (b7.mono B9.size)
            clear b7
            go_wp2_with fail
            refine (phasesText_any none 0 0 [] w7 rfl (by omega) (by simp) (Rd.nil _ _ _) (ht.ext B7)).mono ?_
            rintro e w8 ⟨rfl, b8⟩
            have B8 := B7.trans (b8.mono B7.size)
            clear b8
            go_wp2_with fail
            go_ret2
            exact ⟨_, false, rfl, by rw [Hpt.out]; rfl, hI.ext B8, .of_below B8⟩
          · have E5 := E5.trans (h5.mono E5.size)
            go_wp2_with fail
            refine hK _ _ (fun _ => E5) ?_
            clear hK
            refine wpTree_one (i := 14) (by kernel_rfl) rfl rfl (fun w5 h5 K hK => ?_)
            have E5 := E5.trans (h5.mono E5.size)
            go_wp2_with fail
            refine hK _ _ (fun _ => E5) ?_
            clear hK
            refine wpTree_one (i := 16) (by kernel_rfl) rfl rfl (fun w5 h5 K hK => ?_)
            have E5 := E5.trans (h5.mono E5.size)
            go_wp2_with fail
            refine hK _ _ (fun _ => E5) ?_
            clear hK
            refine wpTree_nil (by kernel_rfl) fun w9 h9 => ?_
            have E9 := E5.trans (h9.mono E5.size)
            have r9 := hRow.kept E9
            have y9 := r9.cell 0
            simp only [List.getElem?_cons_zero] at y9
            have B9 := B4.trans (E9.mono B4.size)
            simp only [onlyN, Exit.then]
            clear LS f0 f1 h9
            go_wp2_with fail
            refine (visPhases_no s.1.length none 0 0 [] w9 Hvn.out rfl (by omega) (Rd.nil _ _ _)).mono ?_
            rintro e w7 ⟨rfl, b7⟩
            have B7 := B9.trans (b7.mono B9.size)
            clear b7
            go_wp2_with fail
            refine (phasesText_any none 0 0 [] w7 rfl (by omega) (by simp) (Rd.nil _ _ _) (ht.ext B7)).mono ?_
            rintro e w8 ⟨rfl, b8⟩
            have B8 := B7.trans (b8.mono B7.size)
            clear b8
            go_wp2_with fail
            go_ret2
            exact ⟨_, false, rfl, by rw [Hpt.out]; rfl, hI.ext B8, .of_below B8⟩
        · have E5 := E5.trans (h5.mono E5.size)
          go_wp2_with fail
          refine hK _ _ (fun _ => E5) ?_
          clear hK
          refine wpTree_one (i := 13) (by kernel_rfl) rfl rfl (fun w5 h5 K hK => ?_)
          have E5 := E5.trans (h5.mono E5.size)
          go_wp2_with fail
          refine hK _ _ (fun _ => E5) ?_
          clear hK
          refine wpTree_one (i := 15) (by kernel_rfl) rfl rfl (fun w5 h5 K hK => ?_)
          have E5 := E5.trans (h5.mono E5.size)
          go_wp2_with fail
          refine hK _ _ (fun _ => E5) ?_
          clear hK
          refine wpTree_one (i := 16) (by kernel_rfl) rfl rfl (fun w5 h5 K hK => ?_)
          have E5 := E5.trans (h5.mono E5.size)
          go_wp2_with fail
          refine hK _ _ (fun _ => E5) ?_
          clear hK
          refine wpTree_nil (by kernel_rfl) fun w9 h9 => ?_
          have E9 := E5.trans (h9.mono E5.size)
          have r9 := hRow.kept E9
          have y9 := r9.cell 0
          simp only [List.getElem?_cons_zero] at y9
          have B9 := B4.trans (E9.mono B4.size)
          simp only [onlyN, Exit.then]
          clear LS f0 f1 h9
          go_wp2_with fail
          refine (visPhases_no s.1.length none 0 0 [] w9 Hvn.out rfl (by omega) (Rd.nil _ _ _)).mono ?_
          rintro e w7 ⟨rfl, b7⟩
          have B7 := B9.trans (b7.mono B9.size)
          clear b7
          go_wp2_with fail
          refine (phasesText_any none 0 0 [] w7 rfl (by omega) (by simp) (Rd.nil _ _ _) (ht.ext B7)).mono ?_
          rintro e w8 ⟨rfl, b8⟩
          have B8 := B7.trans (b8.mono B7.size)
          clear b8
          go_wp2_with fail
          go_ret2
          exact ⟨_, false, rfl, by rw [Hpt.out]; rfl, hI.ext B8, .of_below B8⟩
      · have Hpt := Lib.hid (show pointB s.1 (num7 t0) (num7 t1) = phasesB ((ptL s.1 (x, y) 1 (pairsN s.1.length)).map (·.2)) by rw [Hx.out, Hy.out]; unfold pointB; rw [hpt]; rfl)
        have hvis := pt_vis hpt
        have hvl := ptL_len s.1 (x, y) 1 (pairsN s.1.length)
        have hpl := bm_pairs s.1.length (by omega) (by omega)
        have hpl21 := bm_le (s.1.length : Int)
        have hps : ∀ p ∈ (ptL s.1 (x, y) 1 (pairsN s.1.length)).map (·.2), 0 ≤ p ∧ p ≤ 1000000 := fun p hp => by
          obtain ⟨g, hg, rfl⟩ := List.mem_map.1 hp
          have := (visOk_iff.1 ((visV_iff.1 hvis).2.2 g hg)).2
          omega
        have Hvis := Lib.hid hvis; clear hvis
        have Hvl := Lib.hid hvl; clear hvl
        have Hps := Lib.hid hps; clear hps
        refine wp_region_T [11, 12, 13, 14, 15, 16] [] [true, true, true, true, true, true, true, true, true, true, true, false, false, false, false, false, false] 6 (Below w4.heap.size w4) _ (by kernel_rfl) (by kernel_rfl) (fun _ _ h h' => h.trans (h'.mono h.size)) (Below.refl _ _).drew (fun _ _ h => h) ?_
        refine wpStill_go (v := .pointer (some ⟨S, 0, none⟩)) rfl rfl (stays_run fun w' h => ex_move rfl rfl) ?_
        simp only [Act.put, List.setIfInBounds_toArray, List.set_cons_succ, List.set_cons_zero]
        refine wpStill_go (v := .pointer (some ⟨S, 0, none⟩)) rfl rfl (stays_run fun w' h => by simp [go_sem]) ?_
        simp only [Act.put, List.setIfInBounds_toArray, List.set_cons_succ, List.set_cons_zero]
        refine wpStill_go (v := .pointer (some ⟨S, 0, none⟩)) rfl rfl (stays_run fun w' h => by simp [go_sem]) ?_
        simp only [Act.put, List.setIfInBounds_toArray, List.set_cons_succ, List.set_cons_zero]
        refine wpStill_go (v := .slice Aa s.1.length ca) rfl rfl (stays_run fun w' h => ex_load rfl rfl (LS w' h)) ?_
        simp only [Act.put, List.setIfInBounds_toArray, List.set_cons_succ, List.set_cons_zero]
        refine wpStill_go (v := .slice (some ⟨bN, oN, none⟩) 2 cv) rfl rfl (stays_run fun w' h => ex_move rfl rfl) ?_
        simp only [Act.put, List.setIfInBounds_toArray, List.set_cons_succ, List.set_cons_zero]
        refine wpStill_go (v := .pointer (some ⟨bN, oN + 0 * 1, none⟩)) rfl rfl (stays_run fun w' h => ex_index rfl (by kernel_rfl) (by kernel_rfl) rfl rfl ((by decide : 0 < 2))) ?_
        simp only [Act.put, List.setIfInBounds_toArray, List.set_cons_succ, List.set_cons_zero]
        refine wpStill_go (v := .int .i64 x) rfl rfl (stays_run fun w' h => ex_load rfl rfl (ld_one (by kernel_rfl) (f0 w' h))) ?_
        simp only [Act.put, List.setIfInBounds_toArray, List.set_cons_succ, List.set_cons_zero]
        refine wpStill_go (v := .slice (some ⟨bN, oN, none⟩) 2 cv) rfl rfl (stays_run fun w' h => ex_move rfl rfl) ?_
        simp only [Act.put, List.setIfInBounds_toArray, List.set_cons_succ, List.set_cons_zero]
        refine wpStill_go (v := .pointer (some ⟨bN, oN + 1 * 1, none⟩)) rfl rfl (stays_run fun w' h => ex_index rfl (by kernel_rfl) (by kernel_rfl) rfl rfl ((by decide : 1 < 2))) ?_
        simp only [Act.put, List.setIfInBounds_toArray, List.set_cons_succ, List.set_cons_zero]
        refine wpStill_go (v := .int .i64 y) rfl rfl (stays_run fun w' h => ex_load rfl rfl (ld_one (by kernel_rfl) (f1 w' h))) ?_
        simp only [Act.put, List.setIfInBounds_toArray, List.set_cons_succ, List.set_cons_zero]
        refine wpStill_go (v := .agg #[.int .i64 x, .int .i64 y]) rfl rfl (stays_run fun w' h => by simp [go_sem]) ?_
        simp only [Act.put, List.setIfInBounds_toArray, List.set_cons_succ, List.set_cons_zero]
        refine wpStill_skip rfl (wpStill_skip rfl (wpStill_skip rfl (wpStill_skip rfl (wpStill_skip rfl (wpStill_skip rfl (wpStill_nil ?_))))))
        have E5 : Below w4.heap.size w4 w4.drew := (Below.refl _ _).drew
        refine wpTree_one (i := 11) (by kernel_rfl) rfl rfl (fun w5 h5 K hK => ?_)
        have E5 := E5.trans (h5.mono E5.size)
        go_wp2_with fail
        refine (visPoint_yes Aa s.1.length ca s.1 x y 1 w5 rfl hcap hpt ((Rd.of_own AN.out).ext E5)).mono ?_
        rintro e w6 ⟨v6, rfl, o5, b6⟩
        obtain ⟨Av, c9, rfl⟩ := own_form o5
        have E5 := E5.trans (b6.mono E5.size)
        clear b6
        have O5 := Lib.hid o5; clear o5
        go_wp2_with fail
        refine hK _ _ (fun _ => E5) ?_
        clear hK
        refine wpTree_one (i := 12) (by kernel_rfl) rfl rfl (fun w5 h5 K hK => ?_)
        have E5 := E5.trans (h5.mono E5.size)
        have o5 := own_ext O5.out h5
        have O5 := Lib.hid o5; clear o5
        go_wp2_with fail
        refine hK _ _ (fun _ => E5) ?_
        clear hK
        refine wpTree_two (i := 13) (j := 14) (by kernel_rfl) rfl rfl rfl rfl (fun w5 h5 K hK => ?_) (fun w5 h5 K hK => ?_)
        · have E5 := E5.trans (h5.mono E5.size)
          have o5 := own_ext O5.out h5
          have O5 := Lib.hid o5; clear o5
          go_wp2_with fail
          refine hK _ _ (fun _ => E5) ?_
          clear hK
          refine wpTree_two (i := 14) (j := 15) (by kernel_rfl) rfl rfl rfl rfl (fun w5 h5 K hK => ?_) (fun w5 h5 K hK => ?_)
          · have E5 := E5.trans (h5.mono E5.size)
            have o5 := own_ext O5.out h5
            have O5 := Lib.hid o5; clear o5
            go_wp2_with fail
            refine hK _ _ (fun _ => E5) ?_
            clear hK
            refine wpTree_one (i := 15) (by kernel_rfl) rfl rfl (fun w5 h5 K hK => ?_)
            have E5 := E5.trans (h5.mono E5.size)
            have o5 := own_ext O5.out h5
            have O5 := Lib.hid o5; clear o5
            go_wp2_with fail
            refine hK _ _ (fun _ => E5) ?_
            clear hK
            refine wpTree_one (i := 16) (by kernel_rfl) rfl rfl (fun w5 h5 K hK => ?_)
            have E5 := E5.trans (h5.mono E5.size)
            have o5 := own_ext O5.out h5
            have O5 := Lib.hid o5; clear o5
            go_wp2_with fail
            refine hK _ _ (fun _ => E5) ?_
            clear hK
            refine wpTree_nil (by kernel_rfl) fun w9 h9 => ?_
            have E9 := E5.trans (h9.mono E5.size)
            have o9 := own_ext O5.out h9
            have r9 := hRow.kept E9
            have y9 := r9.cell 0
            simp only [List.getElem?_cons_zero] at y9
            have B9 := B4.trans (E9.mono B4.size)
            have O9 := Lib.hid o9; clear o9
            simp only [onlyN, Exit.then]
            clear LS f0 f1 h9
            go_wp2_with fail
            refine (visPhases_yes s.1.length Av _ c9 _ w9 Hvis.out Hvl.out (Rd.of_own O9.out)).mono ?_
            rintro e w7 ⟨u, rfl, o7, b7⟩
            obtain ⟨A7, c7, rfl⟩ := own_form o7
            have B7 := B9.trans (b7.mono B9.size)
            clear b7
            have O7 := Lib.hid o7; clear o7
            go_wp2_with fail
            refine (phasesText_any A7 _ c7 _ w7 (by rw [List.length_map]; exact Hvl.out) (by omega) Hps.out (Rd.of_own O7.out) (ht.ext B7)).mono ?_
            rintro e w8 ⟨rfl, b8⟩
            have B8 := B7.trans (b8.mono B7.size)
            clear b8
            go_wp2_with fail
            go_ret2
            exact ⟨_, true, rfl, by rw [Hpt.out]; rfl, hI.ext B8, .of_below B8⟩
          · have E5 := E5.trans (h5.mono E5.size)
            have o5 := own_ext O5.out h5
            have O5 := Lib.hid o5; clear o5
            go_wp2_with fail
            refine hK _ _ (fun _ => E5) ?_
            clear hK
            refine wpTree_one (i := 14) (by kernel_rfl) rfl rfl (fun w5 h5 K hK => ?_)
            have E5 := E5.trans (h5.mono E5.size)
            have o5 := own_ext O5.out h5
            have O5 := Lib.hid o5; clear o5
            go_wp2_with fail
            refine hK _ _ (fun _ => E5) ?_
            clear hK
            refine wpTree_one (i := 16) (by kernel_rfl) rfl rfl (fun w5 h5 K hK => ?_)
            have E5 := E5.trans (h5.mono E5.size)
            have o5 := own_ext O5.out h5
            have O5 := Lib.hid o5; clear o5
            go_wp2_with fail
            refine hK _ _ (fun _ => E5) ?_
            clear hK
            refine wpTree_nil (by kernel_rfl) fun w9 h9 => ?_
            have E9 := E5.trans (h9.mono E5.size)
            have o9 := own_ext O5.out h9
            have r9 := hRow.kept E9
            have y9 := r9.cell 0
            simp only [List.getElem?_cons_zero] at y9
            have B9 := B4.trans (E9.mono B4.size)
            have O9 := Lib.hid o9; clear o9
            simp only [onlyN, Exit.then]
            clear LS f0 f1 h9
            go_wp2_with fail
            refine (visPhases_yes s.1.length Av _ c9 _ w9 Hvis.out Hvl.out (Rd.of_own O9.out)).mono ?_
            rintro e w7 ⟨u, rfl, o7, b7⟩
            obtain ⟨A7, c7, rfl⟩ := own_form o7
            have B7 := B9.trans (b7.mono B9.size)
            clear b7
            have O7 := Lib.hid o7; clear o7
            go_wp2_with fail
            refine (phasesText_any A7 _ c7 _ w7 (by rw [List.length_map]; exact Hvl.out) (by omega) Hps.out (Rd.of_own O7.out) (ht.ext B7)).mono ?_
            rintro e w8 ⟨rfl, b8⟩
            have B8 := B7.trans (b8.mono B7.size)
            clear b8
            go_wp2_with fail
            go_ret2
            exact ⟨_, true, rfl, by rw [Hpt.out]; rfl, hI.ext B8, .of_below B8⟩
        · have E5 := E5.trans (h5.mono E5.size)
          have o5 := own_ext O5.out h5
          have O5 := Lib.hid o5; clear o5
          go_wp2_with fail
          refine hK _ _ (fun _ => E5) ?_
          clear hK
          refine wpTree_one (i := 13) (by kernel_rfl) rfl rfl (fun w5 h5 K hK => ?_)
          have E5 := E5.trans (h5.mono E5.size)
          have o5 := own_ext O5.out h5
          have O5 := Lib.hid o5; clear o5
          go_wp2_with fail
          refine hK _ _ (fun _ => E5) ?_
          clear hK
          refine wpTree_one (i := 15) (by kernel_rfl) rfl rfl (fun w5 h5 K hK => ?_)
          have E5 := E5.trans (h5.mono E5.size)
          have o5 := own_ext O5.out h5
          have O5 := Lib.hid o5; clear o5
          go_wp2_with fail
          refine hK _ _ (fun _ => E5) ?_
          clear hK
          refine wpTree_one (i := 16) (by kernel_rfl) rfl rfl (fun w5 h5 K hK => ?_)
          have E5 := E5.trans (h5.mono E5.size)
          have o5 := own_ext O5.out h5
          have O5 := Lib.hid o5; clear o5
          go_wp2_with fail
          refine hK _ _ (fun _ => E5) ?_
          clear hK
          refine wpTree_nil (by kernel_rfl) fun w9 h9 => ?_
          have E9 := E5.trans (h9.mono E5.size)
          have o9 := own_ext O5.out h9
          have r9 := hRow.kept E9
          have y9 := r9.cell 0
          simp only [List.getElem?_cons_zero] at y9
          have B9 := B4.trans (E9.mono B4.size)
          have O9 := Lib.hid o9; clear o9
          simp only [onlyN, Exit.then]
          clear LS f0 f1 h9
          go_wp2_with fail
          refine (visPhases_yes s.1.length Av _ c9 _ w9 Hvis.out Hvl.out (Rd.of_own O9.out)).mono ?_
          rintro e w7 ⟨u, rfl, o7, b7⟩
          obtain ⟨A7, c7, rfl⟩ := own_form o7
          have B7 := B9.trans (b7.mono B9.size)
          clear b7
          have O7 := Lib.hid o7; clear o7
          go_wp2_with fail
          refine (phasesText_any A7 _ c7 _ w7 (by rw [List.length_map]; exact Hvl.out) (by omega) Hps.out (Rd.of_own O7.out) (ht.ext B7)).mono ?_
          rintro e w8 ⟨rfl, b8⟩
          have B8 := B7.trans (b8.mono B7.size)
          clear b8
          go_wp2_with fail
          go_ret2
          exact ⟨_, true, rfl, by rw [Hpt.out]; rfl, hI.ext B8, .of_below B8⟩
end Go.Proofs.YtipgpafgampfbaaGreatDoor
