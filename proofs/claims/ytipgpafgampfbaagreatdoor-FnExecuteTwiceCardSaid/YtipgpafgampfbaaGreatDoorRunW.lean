/- A line of the script that asks: a cleaning. -/
import Derived.Test.YtipgpafgampfbaaGreatDoorB6
import Derived.Test.YtipgpafgampfbaaGreatDoorCovB
import Derived.Test.YtipgpafgampfbaaGreatDoorB1
import Derived.Test.YtipgpafgampfbaaGreatDoorB4
import Derived.Test.YtipgpafgampfbaaGreatDoorRunC
namespace Go.Proofs.YtipgpafgampfbaaGreatDoor
open Go.RowKit Go.Maps

set_option maxRecDepth 100000 in
set_option maxHeartbeats 1000000 in
theorem execute_clean (B0 S n m cap : Nat) (A : Option Addr) (h t0 : Word) (t : List Word) (s : St) (w : World) (hn : n = m + 1) (hm : t.length = m) (hm2 : 1 = m) (htt : [t0] = t) (hh : h = wClean) (hwl : wantL h = some m) (h7 : m ≤ 7) (hc : n ≤ cap) (hl : h.length ≤ 1000) (hI : IsS B0 S s w) (hO : StOk s) (hv : arrV s.1 = true) (hr : Rd w w.heap.size A (strs (h :: t))) (ht : Tab w) :
    Calls Tryz.prog 53 #[.pointer (some ⟨S, 0, none⟩), .slice A n cap] w fun e w' => LineOf B0 S (s, cleanB s (num7 t0)) w e w' := by
  have e1 : (h == [97, 110, 116]) = false := by rw [hh]; decide
  have e2 : (h == [99, 101, 108, 108]) = false := by rw [hh]; decide
  have p0 : (h == [98, 97, 115, 101, 115]) = false := by rw [hh]; decide
  have p1 : (h == [99, 111, 118, 101, 114]) = false := by rw [hh]; decide
  have p2 : (h == [98, 101, 97, 109]) = false := by rw [hh]; decide
  have p3 : (h == [112, 111, 105, 110, 116]) = false := by rw [hh]; decide
  have p4 : (h == [100, 105, 114, 116, 121]) = false := by rw [hh]; decide
  have Hh := Lib.hid hh; clear hh
  have Hm2 := Lib.hid hm2; clear hm2
  have Htt := Lib.hid htt; clear htt
  obtain ⟨i0, hi, hz0, hz1, hz2⟩ := info_parts intInfo
  obtain ⟨AT, hS, hrT⟩ := tail_fact (P := Tryz.prog) (t := 72) (e := 9) (show Rd w w.heap.size A (.string ⟨h.toArray⟩ :: strs t) from hr) (by kernel_rfl) (by kernel_rfl) n cap (by rw [strs_len, hm]; omega) hc
  rw [strs_len, hm] at hS
  have hmm := @run_makeMap Tryz.prog
  have m0 := mapAt_new w
  have b0 : Below w.heap.size w (w.alloc (.map #[] 0)) := bA1
  obtain ⟨bA, off, rfl, hbA, hc0⟩ := hr 0 _ (strs_get (ls := h :: t) (k := 0) (by simp))
  simp only [List.getD_cons_zero, Nat.add_zero] at hc0
  have c0 := hc0
  have hn1 : (0 : Int) < n := by omega
  have hwr : IntKind.i64.wrap ((n : Int) - 1) = m := by rw [IntWalk.i64_in _ (by omega)]; omega
  have Hn := Lib.hid hn; clear hn
  have Hm := Lib.hid hm; clear hm
  have HrT := Lib.hid hrT; clear hrT
  go_enter Tryz.func53, Tryz.ntmps53
  go_wp2_with (first | (refine wpList_insW (k := wAnt) (n := 2) rfl rfl rfl m0 (by omega) (by decide) (by omega) ?_; clear m0; intro w1 m0 g0; have b0 := b0.grown g0 b0.size (fun k e => by cases e; exact Nat.le_refl _); clear c0; have c0 : w1.cell? ⟨bA, off, none⟩ = some (.string ⟨h.toArray⟩) := (b0.cell (p := ⟨bA, off, none⟩) hbA).trans hc0; clear g0) | (refine wpList_insW (k := wCell) (n := 3) rfl rfl rfl m0 (by omega) (by decide) (by omega) ?_; clear m0; intro w1 m0 g0; have b0 := b0.grown g0 b0.size (fun k e => by cases e; exact Nat.le_refl _); clear c0; have c0 : w1.cell? ⟨bA, off, none⟩ = some (.string ⟨h.toArray⟩) := (b0.cell (p := ⟨bA, off, none⟩) hbA).trans hc0; clear g0) | (refine wpList_insW (k := wBases) (n := 0) rfl rfl rfl m0 (by omega) (by decide) (by omega) ?_; clear m0; intro w1 m0 g0; have b0 := b0.grown g0 b0.size (fun k e => by cases e; exact Nat.le_refl _); clear c0; have c0 : w1.cell? ⟨bA, off, none⟩ = some (.string ⟨h.toArray⟩) := (b0.cell (p := ⟨bA, off, none⟩) hbA).trans hc0; clear g0) | (refine wpList_insW (k := wCover) (n := 0) rfl rfl rfl m0 (by omega) (by decide) (by omega) ?_; clear m0; intro w1 m0 g0; have b0 := b0.grown g0 b0.size (fun k e => by cases e; exact Nat.le_refl _); clear c0; have c0 : w1.cell? ⟨bA, off, none⟩ = some (.string ⟨h.toArray⟩) := (b0.cell (p := ⟨bA, off, none⟩) hbA).trans hc0; clear g0) | (refine wpList_insW (k := wBeam) (n := 0) rfl rfl rfl m0 (by omega) (by decide) (by omega) ?_; clear m0; intro w1 m0 g0; have b0 := b0.grown g0 b0.size (fun k e => by cases e; exact Nat.le_refl _); clear c0; have c0 : w1.cell? ⟨bA, off, none⟩ = some (.string ⟨h.toArray⟩) := (b0.cell (p := ⟨bA, off, none⟩) hbA).trans hc0; clear g0) | (refine wpList_insW (k := wPoint) (n := 2) rfl rfl rfl m0 (by omega) (by decide) (by omega) ?_; clear m0; intro w1 m0 g0; have b0 := b0.grown g0 b0.size (fun k e => by cases e; exact Nat.le_refl _); clear c0; have c0 : w1.cell? ⟨bA, off, none⟩ = some (.string ⟨h.toArray⟩) := (b0.cell (p := ⟨bA, off, none⟩) hbA).trans hc0; clear g0) | (refine wpList_insW (k := wDirty) (n := 0) rfl rfl rfl m0 (by omega) (by decide) (by omega) ?_; clear m0; intro w1 m0 g0; have b0 := b0.grown g0 b0.size (fun k e => by cases e; exact Nat.le_refl _); clear c0; have c0 : w1.cell? ⟨bA, off, none⟩ = some (.string ⟨h.toArray⟩) := (b0.cell (p := ⟨bA, off, none⟩) hbA).trans hc0; clear g0) | (refine wpList_insW (k := wClean) (n := 1) rfl rfl rfl m0 (by omega) (by decide) (by omega) ?_; clear m0; intro w1 m0 g0; have b0 := b0.grown g0 b0.size (fun k e => by cases e; exact Nat.le_refl _); clear c0; have c0 : w1.cell? ⟨bA, off, none⟩ = some (.string ⟨h.toArray⟩) := (b0.cell (p := ⟨bA, off, none⟩) hbA).trans hc0; clear g0) | (refine wpList_lookW (h := h) rfl rfl rfl rfl m0 hl ?_; rw [want_eq, hwl]; simp only [Option.getD_some, Option.isSome_some]))
  go_loopw [9, 44] (fun v i wr => ∃ k : Nat, k ≤ m ∧ i = .int .i64 k ∧ wr.ownsRow w.heap.size 3 1 v k (((t.take k).map num7).map (Value.int .i64)) ∧ Below w.heap.size w wr) (fun _ i _ => m - (intOf i).toNat)
  case atStart => exact ⟨0, by omega, rfl, World.ownsRow_nil _ _ _ _, b0⟩
  case round =>
    obtain ⟨k, hk, rfl, hown, hbel⟩ := hrel
    have hsz := hbel.size
    by_cases hlt : k < m
    · obtain ⟨x, hx⟩ : ∃ x, t[k]? = some x := ⟨_, List.getElem?_eq_getElem (by rw [Hm.out]; exact hlt)⟩
      have hxg : (strs t)[k]? = some (.string ⟨x.toArray⟩) := by unfold strs; rw [List.getElem?_map, hx]; rfl
      obtain ⟨bT, offT, rfl, hbT, hcT⟩ := (HrT.out.below hbel) k _ hxg
      have hts : (t.take (k + 1)).map num7 = (t.take k).map num7 ++ [num7 x] := by rw [List.take_add_one, hx]; simp
      obtain ⟨Av, cv, rfl⟩ := own_form hown
      have Hown := Lib.hid hown; clear hown
      have Hts := Lib.hid hts; clear hts
      have Hx := Lib.hid hx; clear hx
      have Hxg := Lib.hid hxg; clear hxg
      go_wp2_with fail
      refine (scriptNumber_any x _).mono ?_
      rintro e w4 ⟨rfl, b4⟩
      have hr4 := own_ext Hown.out b4
      have B4 := hbel.trans (b4.mono hbel.size)
      have sz4 := B4.size
      have Hr4 := Lib.hid hr4; clear hr4
      go_wp2_with (at_builtin; refine wpList_append_own _ rfl _ _ 32 rfl w.heap.size 3 i0 (.int .i64 0) 1 8 (by kernel_rfl) hi hz0 hz1 hz2 rfl (by decide) _ k _ rfl (Hr4.out.alloc _) ⟨w4.heap.size, 0, none⟩ 1 1 [.int .i64 (num7 x)] rfl rfl (cell_one_new _ _ _) (by simp [Value.oneCell']) (by unfold maxLen; omega) (by omega) (by simp; omega) ?_; intro v' w7 hown' hgrow _; obtain ⟨g', cap', rfl⟩ := ownsRow_succ hown')
      have B7 := (B4.alloc sz4 _).grown hgrow (by simp; omega) fun j hj => (own_lt Hr4.out hj).1
      have Hown' := Lib.hid hown'; clear hown'
      have hidX := Lib.hid B7; clear B7; have B7 := hidX; clear hidX
      clear hgrow
      go_wp2_with fail
      go_roundw
      case measure => simp [intOf]; omega
      case rel => exact ⟨k + 1, by omega, by go_num, by rw [Hts.out, List.map_append]; exact Hown'.out, B7.out⟩
    · obtain rfl : k = m := by omega
      rw [List.take_of_length_le (by rw [Hm.out]; exact Nat.le_refl _)] at hown
      obtain ⟨Av, cv, rfl⟩ := own_form hown
      have c0 : wr.cell? ⟨bA, off, none⟩ = some (.string ⟨h.toArray⟩) := (hbel.cell (p := ⟨bA, off, none⟩) hbA).trans hc0
      have Hown := Lib.hid hown; clear hown
      obtain ⟨hBS, Aa, ca, Bs, cs, hRow, hAnts, hSky⟩ := hI.ext hbel
      have y0 := hRow.cell 0
      simp only [List.getElem?_cons_zero] at y0
      have hl16 : s.2.length = 16 := skyV_len hO.sky
      have hn7 := hO.len
      have hcap := own_cap hAnts
      have hcov := coverOf_yes Aa s.1.length ca s.1 wr rfl hcap hv (Rd.of_own hAnts)
      have HAnts := Lib.hid hAnts; clear hAnts
      have HSky := Lib.hid hSky; clear hSky
      have Hl16 := Lib.hid hl16; clear hl16
      go_wp2_with fail
      refine hcov.mono ?_
      rintro e w2 ⟨gc, rfl, hgc, rC, b2⟩
      have B2 := hbel.trans (b2.mono hbel.size)
      have hbeam := beamOf_any (some ⟨gc, 0, none⟩) 16 16 (covL s.1) w2 (covL_len _) rC.rd
      rw [covV_cov, beamR_yes (covV_cov _), beamL_len] at hbeam
      have aN := own_ext HAnts.out b2
      have oN := own_ext Hown.out b2
      have aS := own_ext HSky.out b2
      have hRow := hRow.kept b2
      clear b2 y0 hcov
      have AN := Lib.hid aN; clear aN
      have AS := Lib.hid aS; clear aS
      have ON := Lib.hid oN; clear oN
      go_wp2_with fail
      refine hbeam.mono ?_
      rintro e w3 ⟨v, rfl, oB, b3⟩
      obtain ⟨Ab, cb, rfl⟩ := own_form oB
      have B3 := B2.trans (b3.mono B2.size)
      have oB := oB.mono B2.size
      have aN := own_ext AN.out b3
      have oN := own_ext ON.out b3
      have aS := own_ext AS.out b3
      have hRow := hRow.kept b3
      have rC := rC.kept b3
      have y1 := hRow.cell 1
      simp only [List.getElem?_cons_succ, List.getElem?_cons_zero] at y1
      have hdirty := dirtyOf_any Bs (some ⟨gc, 0, none⟩) 16 16 cs 16 s.2 (covL s.1) w3 Hl16.out (covL_len _) (by omega) (Rd.of_own aS) rC.rd
      clear b3 hbeam
      have OB := Lib.hid oB; clear oB
      have AN := Lib.hid aN; clear aN
      have AS := Lib.hid aS; clear aS
      have ON := Lib.hid oN; clear oN
      go_wp2_with fail
      refine hdirty.mono ?_
      rintro e w4 ⟨vD, rfl, oD, b4⟩
      have B4 := B3.trans (b4.mono B3.size)
      obtain ⟨Ad, cd, rfl⟩ := own_form oD
      have oD := oD.mono B3.size
      have oB := own_ext OB.out b4
      have aN := own_ext AN.out b4
      have aS := own_ext AS.out b4
      have hRow := hRow.kept b4
      have rC := rC.kept b4
      have y0 := hRow.cell 0
      simp only [List.getElem?_cons_zero] at y0
      have c0 : w4.cell? ⟨bA, off, none⟩ = some (.string ⟨h.toArray⟩) := (B4.cell (p := ⟨bA, off, none⟩) hbA).trans hc0
      have oN := own_ext ON.out b4
      clear b4 y1 hdirty
      have ON := Lib.hid oN; clear oN
      have OD := Lib.hid oD; clear oD
      have OB := Lib.hid oB; clear oB
      have AN := Lib.hid aN; clear aN
      have AS := Lib.hid aS; clear aS
      obtain rfl : 1 = k := Hm2.out
      have hnum := Rd.of_own ON.out
      rw [← Htt.out] at hnum
      obtain ⟨bN, oN, rfl, hbN, n0⟩ := hnum 0 _ rfl
      have f0 : ∀ w', Below w4.heap.size w4 w' → w'.cell? ⟨bN, oN + 0 * 1, none⟩ = some (.int .i64 (num7 t0)) := fun w' h => (h.cell (p := ⟨bN, oN + 0, none⟩) hbN).trans n0
      clear hnum n0
      obtain ⟨x, hx⟩ : ∃ x, num7 t0 = x := ⟨_, rfl⟩
      rw [hx] at f0
      have hl2 := arrV_len hv
      have hbs := skyV_beam (covV_cov s.1)
      have hbd := cleanX_bd (beamL (covL s.1)) (dirtyR s.2 (covL s.1)) x
      have hC : cleanB s (num7 t0) = if (cleanX (beamL (covL s.1)) (dirtyR s.2 (covL s.1)) x).2 then ((skyStr (cleanX (beamL (covL s.1)) (dirtyR s.2 (covL s.1)) x).1.1 ++ oSteps) ++ Lib.itoa ((cleanX (beamL (covL s.1)) (dirtyR s.2 (covL s.1)) x).1.2 : Nat)) ++ [10] else oNo := by
        rw [hx]
        unfold cleanB cleanX
        cases dirtyR s.2 (covL s.1) with
        | none => rfl
        | some d => cases inR x 0 200 <;> simp
      have hpair := cleanPair Ad Ab cd cb (beamL (covL s.1)) (dirtyR s.2 (covL s.1)) x w4 hbs (fun d hd => (dirtyR_some hd).1) (Rd.of_own OD.out) (Rd.of_own OB.out)
      obtain ⟨X3, hX3⟩ : ∃ X3, cleanX (beamL (covL s.1)) (dirtyR s.2 (covL s.1)) x = X3 := ⟨_, rfl⟩
      rw [hX3] at hC hbd hpair
      obtain ⟨⟨X, KS⟩, OK⟩ := X3
      dsimp only at hC hbd hpair
      have hst := skyStr_small X
      have hit := itoa_small (n := (KS : Int)) (by omega)
      have HC := Lib.hid hC; clear hC
      have Hx := Lib.hid hx; clear hx
      have HX3 := Lib.hid hX3; clear hX3
      go_wp2_with fail
      refine hpair.mono ?_
      rintro e w5 ⟨U1, l1, c1, U2, l2, c2, okN, rfl, b5, hrun⟩
      clear hpair
      have B5 := B4.trans (b5.mono B4.size)
      have z0 := Row.new w5 43 [.slice none 0 0, .slice none 0 0]
      have a0 := bA1 (w := w5) (o := .cells #[.slice none 0 0, .slice none 0 0] 43)
      obtain ⟨q0, q1, q2, q3⟩ := z0.two
      go_wp2_with fail
      have zC := Row.new w5 43 [.slice U1 l1 c1, .slice U2 l2 c2]
      have aC := bA1 (w := w5) (o := .cells #[.slice U1 l1 c1, .slice U2 l2 c2] 43)
      have f0 : ∀ w', Below w5.heap.size w5 w' → w'.cell? ⟨bN, oN + 0 * 1, none⟩ = some (.int .i64 x) := fun w' h => f0 w' (b5.trans (h.mono b5.size))
      have B6 := B5.trans (aC.mono B5.size)
      have lN0 := (Rd.of_own OB.out).ext (b5.trans (aC.mono b5.size))
      obtain ⟨W6, hW6⟩ : ∃ W6, w5.alloc (.cells #[.slice U1 l1 c1, .slice U2 l2 c2] 43) = W6 := ⟨_, rfl⟩
      obtain ⟨g, hg⟩ : ∃ g, w5.heap.size = g := ⟨_, rfl⟩
      have hwg : w.heap.size ≤ g := by rw [← hg]; exact B5.size
      rw [hW6] at zC aC B6 lN0 ⊢
      rw [hg] at zC
      simp only [hg]
      have fN : ∀ w', Below W6.heap.size W6 w' → w'.cell? ⟨bN, oN + 0 * 1, none⟩ = some (.int .i64 x) := fun w' h => f0 w' (aC.trans (h.mono aC.size))
      have hrun2 : ∀ w', Below W6.heap.size W6 w' → _ := fun w' h => hrun w' (aC.trans (h.mono aC.size))
      clear hrun z0 a0 q0 q1 q2 q3 hW6 b5 f0 lN0
      have Hg := Lib.hid hg; clear hg
      refine wp_region_T [5, 6, 7, 8, 9, 10, 11, 12] [8, 9, 10, 11, 12] [true, true, true, true, true, false, false, false, false, false, false, false, false] 8 (Below W6.heap.size W6) _ (by kernel_rfl) (by kernel_rfl) (fun _ _ h h' => h.trans (h'.mono h.size)) (Below.refl _ _).drew (fun _ _ h => h) ?_
      refine wpStill_go (v := .agg #[.slice U1 l1 c1, .slice U2 l2 c2]) rfl rfl (stays_run fun w' h => ex_load rfl rfl (ld_two (by kernel_rfl) (by kernel_rfl) ((zC.kept h).cell 0) ((zC.kept h).cell 1))) ?_
      simp only [Act.put, List.setIfInBounds_toArray, List.set_cons_succ, List.set_cons_zero]
      refine wpStill_go (v := .slice Ab 16 cb) rfl rfl (stays_run fun w' h => ex_move rfl rfl) ?_
      simp only [Act.put, List.setIfInBounds_toArray, List.set_cons_succ, List.set_cons_zero]
      refine wpStill_go (v := .slice (some ⟨bN, oN, none⟩) 1 cv) rfl rfl (stays_run fun w' h => ex_move rfl rfl) ?_
      simp only [Act.put, List.setIfInBounds_toArray, List.set_cons_succ, List.set_cons_zero]
      refine wpStill_go (v := .pointer (some ⟨bN, oN + 0 * 1, none⟩)) rfl rfl (stays_run fun w' h => ex_index rfl (by kernel_rfl) (by kernel_rfl) rfl rfl ((by decide : 0 < 1))) ?_
      simp only [Act.put, List.setIfInBounds_toArray, List.set_cons_succ, List.set_cons_zero]
      refine wpStill_go (v := .int .i64 x) rfl rfl (stays_run fun w' h => ex_load rfl rfl (ld_one (by kernel_rfl) (fN w' h))) ?_
      simp only [Act.put, List.setIfInBounds_toArray, List.set_cons_succ, List.set_cons_zero]
      refine wpStill_skip rfl (wpStill_skip rfl (wpStill_skip rfl (wpStill_skip rfl (wpStill_skip rfl (wpStill_skip rfl (wpStill_skip rfl (wpStill_skip rfl (wpStill_nil ?_))))))))
      have E5 : Below W6.heap.size W6 W6.drew := (Below.refl _ _).drew
      refine wpTree_one (i := 5) (by kernel_rfl) rfl rfl (fun w5 h5 K hK => ?_)
      have E5 := E5.trans (h5.mono E5.size)
      go_wp2_with fail
      refine (hrun2 _ E5).mono ?_
      rintro e w6 ⟨Ar, cr, Ar2, lr2, cr2, rfl, oX, b6⟩
      have hgW : g < w5.heap.size := (zC.kept E5).lt
      have E5 := E5.trans (b6.mono E5.size)
      have BX := B6.trans (E5.mono B6.size)
      have rG := zC.kept E5
      clear b6 hrun2
      have OX := Lib.hid oX; clear oX
      go_wp2_with fail
      refine hK _ _ (fun _ => E5) ?_
      clear hK
      refine wpTree_one (i := 6) (by kernel_rfl) rfl rfl (fun w5 h5 K hK => ?_)
      have rG := rG.kept h5
      have oX := own_ext OX.out h5
      have BX := BX.trans (h5.mono BX.size)
      have E5 := E5.trans (h5.mono E5.size)
      have OX := Lib.hid oX; clear oX
      go_wp2_with fail
      refine hK _ _ (fun h => E5) ?_
      clear hK
      refine wpTree_three (i := 7) (j := 8) (k := 9) (by kernel_rfl) rfl rfl rfl rfl rfl rfl (fun w5 h5 K hK => ?_) (fun w5 h5 K hK => ?_) (fun w5 h5 K hK => ?_)
      · have rG := rG.kept h5
        have oX := own_ext OX.out h5
        have BX := BX.trans (h5.mono BX.size)
        have E5 := E5.trans (h5.mono E5.size)
        have OX := Lib.hid oX; clear oX
        go_wp2_with fail
        refine hK _ _ (fun h => E5) ?_
        clear hK
        refine wpTree_three (i := 8) (j := 9) (k := 10) (by kernel_rfl) rfl rfl rfl rfl rfl rfl (fun w5 h5 K hK => ?_) (fun w5 h5 K hK => ?_) (fun w5 h5 K hK => ?_)
        · have rG := rG.kept h5
          have oX := own_ext OX.out h5
          have BX := BX.trans (h5.mono BX.size)
          have E5 := E5.trans (h5.mono E5.size)
          have OX := Lib.hid oX; clear oX
          go_wp2_with fail
          refine hK _ _ (fun h => by cases h) ?_
          clear hK
          refine wpTree_two (i := 9) (j := 10) (by kernel_rfl) rfl rfl rfl rfl (fun w5 h5 K hK => ?_) (fun w5 h5 K hK => ?_)
          · have rG := rG.kept h5
            have oX := own_ext OX.out h5
            have BX := BX.trans (h5.mono BX.size)
            have E5 := E5.trans (h5.mono E5.size)
            have OX := Lib.hid oX; clear oX
            go_wp2_with fail
            refine hK _ _ (fun h => by cases h) ?_
            clear hK
            refine wpTree_one (i := 10) (by kernel_rfl) rfl rfl (fun w5 h5 K hK => ?_)
            have rG := rG.kept h5
            have oX := own_ext OX.out h5
            have BX := BX.trans (h5.mono BX.size)
            have E5 := E5.trans (h5.mono E5.size)
            obtain ⟨q0, q1, q2, q3⟩ := rG.two
            have oX := own_over (own_over oX (grown_set w5 g 0 (.slice Ar X.length cr)) (fun jj hj e => by have := (own_lt oX hj).1; cases e; omega)) (grown_set _ g 1 (.slice Ar2 lr2 cr2)) (fun jj hj e => by have := (own_lt oX hj).1; cases e; omega)
            have BX := (BX.setCell (p := ⟨g, 0, none⟩) hwg (.slice Ar X.length cr)).setCell (p := ⟨g, 1, none⟩) hwg (.slice Ar2 lr2 cr2)
            have rG := (rG.set_ 0 (.slice Ar X.length cr)).set_ 1 (.slice Ar2 lr2 cr2)
            simp only [List.set_cons_zero, List.set_cons_succ] at rG
            have OX := Lib.hid oX; clear oX
            go_wp2_with fail
            refine hK _ _ (fun h => by cases h) ?_
            clear q0 q1 q2 q3
            clear hK
            refine wpTree_one (i := 11) (by kernel_rfl) rfl rfl (fun w5 h5 K hK => ?_)
            have rG := rG.kept h5
            have oX := own_ext OX.out h5
            have BX := BX.trans (h5.mono BX.size)
            have OX := Lib.hid oX; clear oX
            go_wp2_with fail
            refine hK _ _ (fun h => by cases h) ?_
            clear hK
            refine wpTree_one (i := 12) (by kernel_rfl) rfl rfl (fun w5 h5 K hK => ?_)
            have rG := rG.kept h5
            have oX := own_ext OX.out h5
            have BX := BX.trans (h5.mono BX.size)
            have OX := Lib.hid oX; clear oX
            go_wp2_with fail
            refine hK _ _ (fun h => by cases h) ?_
            clear hK
            refine wpTree_nil (by kernel_rfl) fun w9 h9 => ?_
            have r9 := rG.kept h9
            have o9 := own_ext OX.out h9
            have y9 := r9.cell 0
            simp only [List.getElem?_cons_zero] at y9
            have B9 := BX.trans (h9.mono BX.size)
            have O9 := Lib.hid o9; clear o9
            simp only [onlyN, Exit.then]
            clear h9 fN
            go_wp2_with fail
            refine (skyText_any Ar X.length cr X w9 rfl (by omega) (Rd.of_own O9.out) (ht.ext B9)).mono ?_
            rintro e w7 ⟨rfl, b7⟩
            have B7 := B9.trans (b7.mono B9.size)
            clear b7
            go_wp2_with fail
            refine (itoa_any KS (by omega) w7 (ht.ext B7)).mono ?_
            rintro e w8 ⟨rfl, b8⟩
            have B8 := B7.trans (b8.mono B7.size)
            clear b8
            go_wp2_with fail
            go_ret2
            exact ⟨skyStr X ++ oSteps ++ Lib.itoa KS ++ [10], OK, by rw [← str_app, ← str_app, ← str_app]; rfl, HC.out, hI.ext B8, .of_below B8⟩
          · have rG := rG.kept h5
            have oX := own_ext OX.out h5
            have BX := BX.trans (h5.mono BX.size)
            have E5 := E5.trans (h5.mono E5.size)
            obtain ⟨q0, q1, q2, q3⟩ := rG.two
            have oX := own_over (own_over oX (grown_set w5 g 0 (.slice Ar X.length cr)) (fun jj hj e => by have := (own_lt oX hj).1; cases e; omega)) (grown_set _ g 1 (.slice Ar2 lr2 cr2)) (fun jj hj e => by have := (own_lt oX hj).1; cases e; omega)
            have BX := (BX.setCell (p := ⟨g, 0, none⟩) hwg (.slice Ar X.length cr)).setCell (p := ⟨g, 1, none⟩) hwg (.slice Ar2 lr2 cr2)
            have rG := (rG.set_ 0 (.slice Ar X.length cr)).set_ 1 (.slice Ar2 lr2 cr2)
            simp only [List.set_cons_zero, List.set_cons_succ] at rG
            have OX := Lib.hid oX; clear oX
            go_wp2_with fail
            refine hK _ _ (fun h => by cases h) ?_
            clear q0 q1 q2 q3
            clear hK
            refine wpTree_two (i := 9) (j := 11) (by kernel_rfl) rfl rfl rfl rfl (fun w5 h5 K hK => ?_) (fun w5 h5 K hK => ?_)
            · have rG := rG.kept h5
              have oX := own_ext OX.out h5
              have BX := BX.trans (h5.mono BX.size)
              have OX := Lib.hid oX; clear oX
              go_wp2_with fail
              refine hK _ _ (fun h => by cases h) ?_
              clear hK
              refine wpTree_one (i := 11) (by kernel_rfl) rfl rfl (fun w5 h5 K hK => ?_)
              have rG := rG.kept h5
              have oX := own_ext OX.out h5
              have BX := BX.trans (h5.mono BX.size)
              have OX := Lib.hid oX; clear oX
              go_wp2_with fail
              refine hK _ _ (fun h => by cases h) ?_
              clear hK
              refine wpTree_one (i := 12) (by kernel_rfl) rfl rfl (fun w5 h5 K hK => ?_)
              have rG := rG.kept h5
              have oX := own_ext OX.out h5
              have BX := BX.trans (h5.mono BX.size)
              have OX := Lib.hid oX; clear oX
              go_wp2_with fail
              refine hK _ _ (fun h => by cases h) ?_
              clear hK
              refine wpTree_nil (by kernel_rfl) fun w9 h9 => ?_
              have r9 := rG.kept h9
              have o9 := own_ext OX.out h9
              have y9 := r9.cell 0
              simp only [List.getElem?_cons_zero] at y9
              have B9 := BX.trans (h9.mono BX.size)
              have O9 := Lib.hid o9; clear o9
              simp only [onlyN, Exit.then]
              clear h9 fN
              go_wp2_with fail
              refine (skyText_any Ar X.length cr X w9 rfl (by omega) (Rd.of_own O9.out) (ht.ext B9)).mono ?_
              rintro e w7 ⟨rfl, b7⟩
              have B7 := B9.trans (b7.mono B9.size)
              clear b7
              go_wp2_with fail
              refine (itoa_any KS (by omega) w7 (ht.ext B7)).mono ?_
              rintro e w8 ⟨rfl, b8⟩
              have B8 := B7.trans (b8.mono B7.size)
              clear b8
              go_wp2_with fail
              go_ret2
              exact ⟨skyStr X ++ oSteps ++ Lib.itoa KS ++ [10], OK, by rw [← str_app, ← str_app, ← str_app]; rfl, HC.out, hI.ext B8, .of_below B8⟩
            · have rG := rG.kept h5
              have oX := own_ext OX.out h5
              have BX := BX.trans (h5.mono BX.size)
              have OX := Lib.hid oX; clear oX
              go_wp2_with fail
              refine hK _ _ (fun h => by cases h) ?_
              clear hK
              refine wpTree_one (i := 9) (by kernel_rfl) rfl rfl (fun w5 h5 K hK => ?_)
              have rG := rG.kept h5
              have oX := own_ext OX.out h5
              have BX := BX.trans (h5.mono BX.size)
              have OX := Lib.hid oX; clear oX
              go_wp2_with fail
              refine hK _ _ (fun h => by cases h) ?_
              clear hK
              refine wpTree_one (i := 12) (by kernel_rfl) rfl rfl (fun w5 h5 K hK => ?_)
              have rG := rG.kept h5
              have oX := own_ext OX.out h5
              have BX := BX.trans (h5.mono BX.size)
              have OX := Lib.hid oX; clear oX
              go_wp2_with fail
              refine hK _ _ (fun h => by cases h) ?_
              clear hK
              refine wpTree_nil (by kernel_rfl) fun w9 h9 => ?_
              have r9 := rG.kept h9
              have o9 := own_ext OX.out h9
              have y9 := r9.cell 0
              simp only [List.getElem?_cons_zero] at y9
              have B9 := BX.trans (h9.mono BX.size)
              have O9 := Lib.hid o9; clear o9
              simp only [onlyN, Exit.then]
              clear h9 fN
              go_wp2_with fail
              refine (skyText_any Ar X.length cr X w9 rfl (by omega) (Rd.of_own O9.out) (ht.ext B9)).mono ?_
              rintro e w7 ⟨rfl, b7⟩
              have B7 := B9.trans (b7.mono B9.size)
              clear b7
              go_wp2_with fail
              refine (itoa_any KS (by omega) w7 (ht.ext B7)).mono ?_
              rintro e w8 ⟨rfl, b8⟩
              have B8 := B7.trans (b8.mono B7.size)
              clear b8
              go_wp2_with fail
              go_ret2
              exact ⟨skyStr X ++ oSteps ++ Lib.itoa KS ++ [10], OK, by rw [← str_app, ← str_app, ← str_app]; rfl, HC.out, hI.ext B8, .of_below B8⟩
        · have rG := rG.kept h5
          have oX := own_ext OX.out h5
          have BX := BX.trans (h5.mono BX.size)
          have E5 := E5.trans (h5.mono E5.size)
          have OX := Lib.hid oX; clear oX
          go_wp2_with fail
          refine hK _ _ (fun h => by cases h) ?_
          clear hK
          refine wpTree_two (i := 8) (j := 10) (by kernel_rfl) rfl rfl rfl rfl (fun w5 h5 K hK => ?_) (fun w5 h5 K hK => ?_)
          · have rG := rG.kept h5
            have oX := own_ext OX.out h5
            have BX := BX.trans (h5.mono BX.size)
            have E5 := E5.trans (h5.mono E5.size)
            have OX := Lib.hid oX; clear oX
            go_wp2_with fail
            refine hK _ _ (fun h => by cases h) ?_
            clear hK
            refine wpTree_one (i := 10) (by kernel_rfl) rfl rfl (fun w5 h5 K hK => ?_)
            have rG := rG.kept h5
            have oX := own_ext OX.out h5
            have BX := BX.trans (h5.mono BX.size)
            have E5 := E5.trans (h5.mono E5.size)
            obtain ⟨q0, q1, q2, q3⟩ := rG.two
            have oX := own_over (own_over oX (grown_set w5 g 0 (.slice Ar X.length cr)) (fun jj hj e => by have := (own_lt oX hj).1; cases e; omega)) (grown_set _ g 1 (.slice Ar2 lr2 cr2)) (fun jj hj e => by have := (own_lt oX hj).1; cases e; omega)
            have BX := (BX.setCell (p := ⟨g, 0, none⟩) hwg (.slice Ar X.length cr)).setCell (p := ⟨g, 1, none⟩) hwg (.slice Ar2 lr2 cr2)
            have rG := (rG.set_ 0 (.slice Ar X.length cr)).set_ 1 (.slice Ar2 lr2 cr2)
            simp only [List.set_cons_zero, List.set_cons_succ] at rG
            have OX := Lib.hid oX; clear oX
            go_wp2_with fail
            refine hK _ _ (fun h => by cases h) ?_
            clear q0 q1 q2 q3
            clear hK
            refine wpTree_one (i := 11) (by kernel_rfl) rfl rfl (fun w5 h5 K hK => ?_)
            have rG := rG.kept h5
            have oX := own_ext OX.out h5
            have BX := BX.trans (h5.mono BX.size)
            have OX := Lib.hid oX; clear oX
            go_wp2_with fail
            refine hK _ _ (fun h => by cases h) ?_
            clear hK
            refine wpTree_one (i := 12) (by kernel_rfl) rfl rfl (fun w5 h5 K hK => ?_)
            have rG := rG.kept h5
            have oX := own_ext OX.out h5
            have BX := BX.trans (h5.mono BX.size)
            have OX := Lib.hid oX; clear oX
            go_wp2_with fail
            refine hK _ _ (fun h => by cases h) ?_
            clear hK
            refine wpTree_nil (by kernel_rfl) fun w9 h9 => ?_
            have r9 := rG.kept h9
            have o9 := own_ext OX.out h9
            have y9 := r9.cell 0
            simp only [List.getElem?_cons_zero] at y9
            have B9 := BX.trans (h9.mono BX.size)
            have O9 := Lib.hid o9; clear o9
            simp only [onlyN, Exit.then]
            clear h9 fN
            go_wp2_with fail
            refine (skyText_any Ar X.length cr X w9 rfl (by omega) (Rd.of_own O9.out) (ht.ext B9)).mono ?_
            rintro e w7 ⟨rfl, b7⟩
            have B7 := B9.trans (b7.mono B9.size)
            clear b7
            go_wp2_with fail
            refine (itoa_any KS (by omega) w7 (ht.ext B7)).mono ?_
            rintro e w8 ⟨rfl, b8⟩
            have B8 := B7.trans (b8.mono B7.size)
            clear b8
            go_wp2_with fail
            go_ret2
            exact ⟨skyStr X ++ oSteps ++ Lib.itoa KS ++ [10], OK, by rw [← str_app, ← str_app, ← str_app]; rfl, HC.out, hI.ext B8, .of_below B8⟩
          · have rG := rG.kept h5
            have oX := own_ext OX.out h5
            have BX := BX.trans (h5.mono BX.size)
            have E5 := E5.trans (h5.mono E5.size)
            obtain ⟨q0, q1, q2, q3⟩ := rG.two
            have oX := own_over (own_over oX (grown_set w5 g 0 (.slice Ar X.length cr)) (fun jj hj e => by have := (own_lt oX hj).1; cases e; omega)) (grown_set _ g 1 (.slice Ar2 lr2 cr2)) (fun jj hj e => by have := (own_lt oX hj).1; cases e; omega)
            have BX := (BX.setCell (p := ⟨g, 0, none⟩) hwg (.slice Ar X.length cr)).setCell (p := ⟨g, 1, none⟩) hwg (.slice Ar2 lr2 cr2)
            have rG := (rG.set_ 0 (.slice Ar X.length cr)).set_ 1 (.slice Ar2 lr2 cr2)
            simp only [List.set_cons_zero, List.set_cons_succ] at rG
            have OX := Lib.hid oX; clear oX
            go_wp2_with fail
            refine hK _ _ (fun h => by cases h) ?_
            clear q0 q1 q2 q3
            clear hK
            refine wpTree_one (i := 8) (by kernel_rfl) rfl rfl (fun w5 h5 K hK => ?_)
            have rG := rG.kept h5
            have oX := own_ext OX.out h5
            have BX := BX.trans (h5.mono BX.size)
            have OX := Lib.hid oX; clear oX
            go_wp2_with fail
            refine hK _ _ (fun h => by cases h) ?_
            clear hK
            refine wpTree_one (i := 11) (by kernel_rfl) rfl rfl (fun w5 h5 K hK => ?_)
            have rG := rG.kept h5
            have oX := own_ext OX.out h5
            have BX := BX.trans (h5.mono BX.size)
            have OX := Lib.hid oX; clear oX
            go_wp2_with fail
            refine hK _ _ (fun h => by cases h) ?_
            clear hK
            refine wpTree_one (i := 12) (by kernel_rfl) rfl rfl (fun w5 h5 K hK => ?_)
            have rG := rG.kept h5
            have oX := own_ext OX.out h5
            have BX := BX.trans (h5.mono BX.size)
            have OX := Lib.hid oX; clear oX
            go_wp2_with fail
            refine hK _ _ (fun h => by cases h) ?_
            clear hK
            refine wpTree_nil (by kernel_rfl) fun w9 h9 => ?_
            have r9 := rG.kept h9
            have o9 := own_ext OX.out h9
            have y9 := r9.cell 0
            simp only [List.getElem?_cons_zero] at y9
            have B9 := BX.trans (h9.mono BX.size)
            have O9 := Lib.hid o9; clear o9
            simp only [onlyN, Exit.then]
            clear h9 fN
            go_wp2_with fail
            refine (skyText_any Ar X.length cr X w9 rfl (by omega) (Rd.of_own O9.out) (ht.ext B9)).mono ?_
            rintro e w7 ⟨rfl, b7⟩
            have B7 := B9.trans (b7.mono B9.size)
            clear b7
            go_wp2_with fail
            refine (itoa_any KS (by omega) w7 (ht.ext B7)).mono ?_
            rintro e w8 ⟨rfl, b8⟩
            have B8 := B7.trans (b8.mono B7.size)
            clear b8
            go_wp2_with fail
            go_ret2
            exact ⟨skyStr X ++ oSteps ++ Lib.itoa KS ++ [10], OK, by rw [← str_app, ← str_app, ← str_app]; rfl, HC.out, hI.ext B8, .of_below B8⟩
        · have rG := rG.kept h5
          have oX := own_ext OX.out h5
          have BX := BX.trans (h5.mono BX.size)
          have E5 := E5.trans (h5.mono E5.size)
          obtain ⟨q0, q1, q2, q3⟩ := rG.two
          have oX := own_over (own_over oX (grown_set w5 g 0 (.slice Ar X.length cr)) (fun jj hj e => by have := (own_lt oX hj).1; cases e; omega)) (grown_set _ g 1 (.slice Ar2 lr2 cr2)) (fun jj hj e => by have := (own_lt oX hj).1; cases e; omega)
          have BX := (BX.setCell (p := ⟨g, 0, none⟩) hwg (.slice Ar X.length cr)).setCell (p := ⟨g, 1, none⟩) hwg (.slice Ar2 lr2 cr2)
          have rG := (rG.set_ 0 (.slice Ar X.length cr)).set_ 1 (.slice Ar2 lr2 cr2)
          simp only [List.set_cons_zero, List.set_cons_succ] at rG
          have OX := Lib.hid oX; clear oX
          go_wp2_with fail
          refine hK _ _ (fun h => by cases h) ?_
          clear q0 q1 q2 q3
          clear hK
          refine wpTree_two (i := 8) (j := 9) (by kernel_rfl) rfl rfl rfl rfl (fun w5 h5 K hK => ?_) (fun w5 h5 K hK => ?_)
          · have rG := rG.kept h5
            have oX := own_ext OX.out h5
            have BX := BX.trans (h5.mono BX.size)
            have OX := Lib.hid oX; clear oX
            go_wp2_with fail
            refine hK _ _ (fun h => by cases h) ?_
            clear hK
            refine wpTree_two (i := 9) (j := 11) (by kernel_rfl) rfl rfl rfl rfl (fun w5 h5 K hK => ?_) (fun w5 h5 K hK => ?_)
            · have rG := rG.kept h5
              have oX := own_ext OX.out h5
              have BX := BX.trans (h5.mono BX.size)
              have OX := Lib.hid oX; clear oX
              go_wp2_with fail
              refine hK _ _ (fun h => by cases h) ?_
              clear hK
              refine wpTree_one (i := 11) (by kernel_rfl) rfl rfl (fun w5 h5 K hK => ?_)
              have rG := rG.kept h5
              have oX := own_ext OX.out h5
              have BX := BX.trans (h5.mono BX.size)
              have OX := Lib.hid oX; clear oX
              go_wp2_with fail
              refine hK _ _ (fun h => by cases h) ?_
              clear hK
              refine wpTree_one (i := 12) (by kernel_rfl) rfl rfl (fun w5 h5 K hK => ?_)
              have rG := rG.kept h5
              have oX := own_ext OX.out h5
              have BX := BX.trans (h5.mono BX.size)
              have OX := Lib.hid oX; clear oX
              go_wp2_with fail
              refine hK _ _ (fun h => by cases h) ?_
              clear hK
              refine wpTree_nil (by kernel_rfl) fun w9 h9 => ?_
              have r9 := rG.kept h9
              have o9 := own_ext OX.out h9
              have y9 := r9.cell 0
              simp only [List.getElem?_cons_zero] at y9
              have B9 := BX.trans (h9.mono BX.size)
              have O9 := Lib.hid o9; clear o9
              simp only [onlyN, Exit.then]
              clear h9 fN
              go_wp2_with fail
              refine (skyText_any Ar X.length cr X w9 rfl (by omega) (Rd.of_own O9.out) (ht.ext B9)).mono ?_
              rintro e w7 ⟨rfl, b7⟩
              have B7 := B9.trans (b7.mono B9.size)
              clear b7
              go_wp2_with fail
              refine (itoa_any KS (by omega) w7 (ht.ext B7)).mono ?_
              rintro e w8 ⟨rfl, b8⟩
              have B8 := B7.trans (b8.mono B7.size)
              clear b8
              go_wp2_with fail
              go_ret2
              exact ⟨skyStr X ++ oSteps ++ Lib.itoa KS ++ [10], OK, by rw [← str_app, ← str_app, ← str_app]; rfl, HC.out, hI.ext B8, .of_below B8⟩
            · have rG := rG.kept h5
              have oX := own_ext OX.out h5
              have BX := BX.trans (h5.mono BX.size)
              have OX := Lib.hid oX; clear oX
              go_wp2_with fail
              refine hK _ _ (fun h => by cases h) ?_
              clear hK
              refine wpTree_one (i := 9) (by kernel_rfl) rfl rfl (fun w5 h5 K hK => ?_)
              have rG := rG.kept h5
              have oX := own_ext OX.out h5
              have BX := BX.trans (h5.mono BX.size)
              have OX := Lib.hid oX; clear oX
              go_wp2_with fail
              refine hK _ _ (fun h => by cases h) ?_
              clear hK
              refine wpTree_one (i := 12) (by kernel_rfl) rfl rfl (fun w5 h5 K hK => ?_)
              have rG := rG.kept h5
              have oX := own_ext OX.out h5
              have BX := BX.trans (h5.mono BX.size)
              have OX := Lib.hid oX; clear oX
              go_wp2_with fail
              refine hK _ _ (fun h => by cases h) ?_
              clear hK
              refine wpTree_nil (by kernel_rfl) fun w9 h9 => ?_
              have r9 := rG.kept h9
              have o9 := own_ext OX.out h9
              have y9 := r9.cell 0
              simp only [List.getElem?_cons_zero] at y9
              have B9 := BX.trans (h9.mono BX.size)
              have O9 := Lib.hid o9; clear o9
              simp only [onlyN, Exit.then]
              clear h9 fN
              go_wp2_with fail
              refine (skyText_any Ar X.length cr X w9 rfl (by omega) (Rd.of_own O9.out) (ht.ext B9)).mono ?_
              rintro e w7 ⟨rfl, b7⟩
              have B7 := B9.trans (b7.mono B9.size)
              clear b7
              go_wp2_with fail
              refine (itoa_any KS (by omega) w7 (ht.ext B7)).mono ?_
              rintro e w8 ⟨rfl, b8⟩
              have B8 := B7.trans (b8.mono B7.size)
              clear b8
              go_wp2_with fail
              go_ret2
              exact ⟨skyStr X ++ oSteps ++ Lib.itoa KS ++ [10], OK, by rw [← str_app, ← str_app, ← str_app]; rfl, HC.out, hI.ext B8, .of_below B8⟩
          · have rG := rG.kept h5
            have oX := own_ext OX.out h5
            have BX := BX.trans (h5.mono BX.size)
            have OX := Lib.hid oX; clear oX
            go_wp2_with fail
            refine hK _ _ (fun h => by cases h) ?_
            clear hK
            refine wpTree_one (i := 8) (by kernel_rfl) rfl rfl (fun w5 h5 K hK => ?_)
            have rG := rG.kept h5
            have oX := own_ext OX.out h5
            have BX := BX.trans (h5.mono BX.size)
            have OX := Lib.hid oX; clear oX
            go_wp2_with fail
            refine hK _ _ (fun h => by cases h) ?_
            clear hK
            refine wpTree_one (i := 11) (by kernel_rfl) rfl rfl (fun w5 h5 K hK => ?_)
            have rG := rG.kept h5
            have oX := own_ext OX.out h5
            have BX := BX.trans (h5.mono BX.size)
            have OX := Lib.hid oX; clear oX
            go_wp2_with fail
            refine hK _ _ (fun h => by cases h) ?_
            clear hK
            refine wpTree_one (i := 12) (by kernel_rfl) rfl rfl (fun w5 h5 K hK => ?_)
            have rG := rG.kept h5
            have oX := own_ext OX.out h5
            have BX := BX.trans (h5.mono BX.size)
            have OX := Lib.hid oX; clear oX
            go_wp2_with fail
            refine hK _ _ (fun h => by cases h) ?_
            clear hK
            refine wpTree_nil (by kernel_rfl) fun w9 h9 => ?_
            have r9 := rG.kept h9
            have o9 := own_ext OX.out h9
            have y9 := r9.cell 0
            simp only [List.getElem?_cons_zero] at y9
            have B9 := BX.trans (h9.mono BX.size)
            have O9 := Lib.hid o9; clear o9
            simp only [onlyN, Exit.then]
            clear h9 fN
            go_wp2_with fail
            refine (skyText_any Ar X.length cr X w9 rfl (by omega) (Rd.of_own O9.out) (ht.ext B9)).mono ?_
            rintro e w7 ⟨rfl, b7⟩
            have B7 := B9.trans (b7.mono B9.size)
            clear b7
            go_wp2_with fail
            refine (itoa_any KS (by omega) w7 (ht.ext B7)).mono ?_
            rintro e w8 ⟨rfl, b8⟩
            have B8 := B7.trans (b8.mono B7.size)
            clear b8
            go_wp2_with fail
            go_ret2
            exact ⟨skyStr X ++ oSteps ++ Lib.itoa KS ++ [10], OK, by rw [← str_app, ← str_app, ← str_app]; rfl, HC.out, hI.ext B8, .of_below B8⟩
      · have rG := rG.kept h5
        have oX := own_ext OX.out h5
        have BX := BX.trans (h5.mono BX.size)
        have E5 := E5.trans (h5.mono E5.size)
        have OX := Lib.hid oX; clear oX
        go_wp2_with fail
        refine hK _ _ (fun h => by cases h) ?_
        clear hK
        refine wpTree_two (i := 7) (j := 9) (by kernel_rfl) rfl rfl rfl rfl (fun w5 h5 K hK => ?_) (fun w5 h5 K hK => ?_)
        · have rG := rG.kept h5
          have oX := own_ext OX.out h5
          have BX := BX.trans (h5.mono BX.size)
          have E5 := E5.trans (h5.mono E5.size)
          have OX := Lib.hid oX; clear oX
          go_wp2_with fail
          refine hK _ _ (fun h => E5) ?_
          clear hK
          refine wpTree_two (i := 9) (j := 10) (by kernel_rfl) rfl rfl rfl rfl (fun w5 h5 K hK => ?_) (fun w5 h5 K hK => ?_)
          · have rG := rG.kept h5
            have oX := own_ext OX.out h5
            have BX := BX.trans (h5.mono BX.size)
            have E5 := E5.trans (h5.mono E5.size)
            have OX := Lib.hid oX; clear oX
            go_wp2_with fail
            refine hK _ _ (fun h => by cases h) ?_
            clear hK
            refine wpTree_one (i := 10) (by kernel_rfl) rfl rfl (fun w5 h5 K hK => ?_)
            have rG := rG.kept h5
            have oX := own_ext OX.out h5
            have BX := BX.trans (h5.mono BX.size)
            have E5 := E5.trans (h5.mono E5.size)
            obtain ⟨q0, q1, q2, q3⟩ := rG.two
            have oX := own_over (own_over oX (grown_set w5 g 0 (.slice Ar X.length cr)) (fun jj hj e => by have := (own_lt oX hj).1; cases e; omega)) (grown_set _ g 1 (.slice Ar2 lr2 cr2)) (fun jj hj e => by have := (own_lt oX hj).1; cases e; omega)
            have BX := (BX.setCell (p := ⟨g, 0, none⟩) hwg (.slice Ar X.length cr)).setCell (p := ⟨g, 1, none⟩) hwg (.slice Ar2 lr2 cr2)
            have rG := (rG.set_ 0 (.slice Ar X.length cr)).set_ 1 (.slice Ar2 lr2 cr2)
            simp only [List.set_cons_zero, List.set_cons_succ] at rG
            have OX := Lib.hid oX; clear oX
            go_wp2_with fail
            refine hK _ _ (fun h => by cases h) ?_
            clear q0 q1 q2 q3
            clear hK
            refine wpTree_one (i := 11) (by kernel_rfl) rfl rfl (fun w5 h5 K hK => ?_)
            have rG := rG.kept h5
            have oX := own_ext OX.out h5
            have BX := BX.trans (h5.mono BX.size)
            have OX := Lib.hid oX; clear oX
            go_wp2_with fail
            refine hK _ _ (fun h => by cases h) ?_
            clear hK
            refine wpTree_one (i := 12) (by kernel_rfl) rfl rfl (fun w5 h5 K hK => ?_)
            have rG := rG.kept h5
            have oX := own_ext OX.out h5
            have BX := BX.trans (h5.mono BX.size)
            have OX := Lib.hid oX; clear oX
            go_wp2_with fail
            refine hK _ _ (fun h => by cases h) ?_
            clear hK
            refine wpTree_nil (by kernel_rfl) fun w9 h9 => ?_
            have r9 := rG.kept h9
            have o9 := own_ext OX.out h9
            have y9 := r9.cell 0
            simp only [List.getElem?_cons_zero] at y9
            have B9 := BX.trans (h9.mono BX.size)
            have O9 := Lib.hid o9; clear o9
            simp only [onlyN, Exit.then]
            clear h9 fN
            go_wp2_with fail
            refine (skyText_any Ar X.length cr X w9 rfl (by omega) (Rd.of_own O9.out) (ht.ext B9)).mono ?_
            rintro e w7 ⟨rfl, b7⟩
            have B7 := B9.trans (b7.mono B9.size)
            clear b7
            go_wp2_with fail
            refine (itoa_any KS (by omega) w7 (ht.ext B7)).mono ?_
            rintro e w8 ⟨rfl, b8⟩
            have B8 := B7.trans (b8.mono B7.size)
            clear b8
            go_wp2_with fail
            go_ret2
            exact ⟨skyStr X ++ oSteps ++ Lib.itoa KS ++ [10], OK, by rw [← str_app, ← str_app, ← str_app]; rfl, HC.out, hI.ext B8, .of_below B8⟩
          · have rG := rG.kept h5
            have oX := own_ext OX.out h5
            have BX := BX.trans (h5.mono BX.size)
            have E5 := E5.trans (h5.mono E5.size)
            obtain ⟨q0, q1, q2, q3⟩ := rG.two
            have oX := own_over (own_over oX (grown_set w5 g 0 (.slice Ar X.length cr)) (fun jj hj e => by have := (own_lt oX hj).1; cases e; omega)) (grown_set _ g 1 (.slice Ar2 lr2 cr2)) (fun jj hj e => by have := (own_lt oX hj).1; cases e; omega)
            have BX := (BX.setCell (p := ⟨g, 0, none⟩) hwg (.slice Ar X.length cr)).setCell (p := ⟨g, 1, none⟩) hwg (.slice Ar2 lr2 cr2)
            have rG := (rG.set_ 0 (.slice Ar X.length cr)).set_ 1 (.slice Ar2 lr2 cr2)
            simp only [List.set_cons_zero, List.set_cons_succ] at rG
            have OX := Lib.hid oX; clear oX
            go_wp2_with fail
            refine hK _ _ (fun h => by cases h) ?_
            clear q0 q1 q2 q3
            clear hK
            refine wpTree_two (i := 9) (j := 11) (by kernel_rfl) rfl rfl rfl rfl (fun w5 h5 K hK => ?_) (fun w5 h5 K hK => ?_)
            · have rG := rG.kept h5
              have oX := own_ext OX.out h5
              have BX := BX.trans (h5.mono BX.size)
              have OX := Lib.hid oX; clear oX
              go_wp2_with fail
              refine hK _ _ (fun h => by cases h) ?_
              clear hK
              refine wpTree_one (i := 11) (by kernel_rfl) rfl rfl (fun w5 h5 K hK => ?_)
              have rG := rG.kept h5
              have oX := own_ext OX.out h5
              have BX := BX.trans (h5.mono BX.size)
              have OX := Lib.hid oX; clear oX
              go_wp2_with fail
              refine hK _ _ (fun h => by cases h) ?_
              clear hK
              refine wpTree_one (i := 12) (by kernel_rfl) rfl rfl (fun w5 h5 K hK => ?_)
              have rG := rG.kept h5
              have oX := own_ext OX.out h5
              have BX := BX.trans (h5.mono BX.size)
              have OX := Lib.hid oX; clear oX
              go_wp2_with fail
              refine hK _ _ (fun h => by cases h) ?_
              clear hK
              refine wpTree_nil (by kernel_rfl) fun w9 h9 => ?_
              have r9 := rG.kept h9
              have o9 := own_ext OX.out h9
              have y9 := r9.cell 0
              simp only [List.getElem?_cons_zero] at y9
              have B9 := BX.trans (h9.mono BX.size)
              have O9 := Lib.hid o9; clear o9
              simp only [onlyN, Exit.then]
              clear h9 fN
              go_wp2_with fail
              refine (skyText_any Ar X.length cr X w9 rfl (by omega) (Rd.of_own O9.out) (ht.ext B9)).mono ?_
              rintro e w7 ⟨rfl, b7⟩
              have B7 := B9.trans (b7.mono B9.size)
              clear b7
              go_wp2_with fail
              refine (itoa_any KS (by omega) w7 (ht.ext B7)).mono ?_
              rintro e w8 ⟨rfl, b8⟩
              have B8 := B7.trans (b8.mono B7.size)
              clear b8
              go_wp2_with fail
              go_ret2
              exact ⟨skyStr X ++ oSteps ++ Lib.itoa KS ++ [10], OK, by rw [← str_app, ← str_app, ← str_app]; rfl, HC.out, hI.ext B8, .of_below B8⟩
            · have rG := rG.kept h5
              have oX := own_ext OX.out h5
              have BX := BX.trans (h5.mono BX.size)
              have OX := Lib.hid oX; clear oX
              go_wp2_with fail
              refine hK _ _ (fun h => by cases h) ?_
              clear hK
              refine wpTree_one (i := 9) (by kernel_rfl) rfl rfl (fun w5 h5 K hK => ?_)
              have rG := rG.kept h5
              have oX := own_ext OX.out h5
              have BX := BX.trans (h5.mono BX.size)
              have OX := Lib.hid oX; clear oX
              go_wp2_with fail
              refine hK _ _ (fun h => by cases h) ?_
              clear hK
              refine wpTree_one (i := 12) (by kernel_rfl) rfl rfl (fun w5 h5 K hK => ?_)
              have rG := rG.kept h5
              have oX := own_ext OX.out h5
              have BX := BX.trans (h5.mono BX.size)
              have OX := Lib.hid oX; clear oX
              go_wp2_with fail
              refine hK _ _ (fun h => by cases h) ?_
              clear hK
              refine wpTree_nil (by kernel_rfl) fun w9 h9 => ?_
              have r9 := rG.kept h9
              have o9 := own_ext OX.out h9
              have y9 := r9.cell 0
              simp only [List.getElem?_cons_zero] at y9
              have B9 := BX.trans (h9.mono BX.size)
              have O9 := Lib.hid o9; clear o9
              simp only [onlyN, Exit.then]
              clear h9 fN
              go_wp2_with fail
              refine (skyText_any Ar X.length cr X w9 rfl (by omega) (Rd.of_own O9.out) (ht.ext B9)).mono ?_
              rintro e w7 ⟨rfl, b7⟩
              have B7 := B9.trans (b7.mono B9.size)
              clear b7
              go_wp2_with fail
              refine (itoa_any KS (by omega) w7 (ht.ext B7)).mono ?_
              rintro e w8 ⟨rfl, b8⟩
              have B8 := B7.trans (b8.mono B7.size)
              clear b8
              go_wp2_with fail
              go_ret2
              exact ⟨skyStr X ++ oSteps ++ Lib.itoa KS ++ [10], OK, by rw [← str_app, ← str_app, ← str_app]; rfl, HC.out, hI.ext B8, .of_below B8⟩
        · have rG := rG.kept h5
          have oX := own_ext OX.out h5
          have BX := BX.trans (h5.mono BX.size)
          have E5 := E5.trans (h5.mono E5.size)
          have OX := Lib.hid oX; clear oX
          go_wp2_with fail
          refine hK _ _ (fun h => by cases h) ?_
          clear hK
          refine wpTree_one (i := 7) (by kernel_rfl) rfl rfl (fun w5 h5 K hK => ?_)
          have rG := rG.kept h5
          have oX := own_ext OX.out h5
          have BX := BX.trans (h5.mono BX.size)
          have E5 := E5.trans (h5.mono E5.size)
          have OX := Lib.hid oX; clear oX
          go_wp2_with fail
          refine hK _ _ (fun h => E5) ?_
          clear hK
          refine wpTree_one (i := 10) (by kernel_rfl) rfl rfl (fun w5 h5 K hK => ?_)
          have rG := rG.kept h5
          have oX := own_ext OX.out h5
          have BX := BX.trans (h5.mono BX.size)
          have E5 := E5.trans (h5.mono E5.size)
          obtain ⟨q0, q1, q2, q3⟩ := rG.two
          have oX := own_over (own_over oX (grown_set w5 g 0 (.slice Ar X.length cr)) (fun jj hj e => by have := (own_lt oX hj).1; cases e; omega)) (grown_set _ g 1 (.slice Ar2 lr2 cr2)) (fun jj hj e => by have := (own_lt oX hj).1; cases e; omega)
          have BX := (BX.setCell (p := ⟨g, 0, none⟩) hwg (.slice Ar X.length cr)).setCell (p := ⟨g, 1, none⟩) hwg (.slice Ar2 lr2 cr2)
          have rG := (rG.set_ 0 (.slice Ar X.length cr)).set_ 1 (.slice Ar2 lr2 cr2)
          simp only [List.set_cons_zero, List.set_cons_succ] at rG
          have OX := Lib.hid oX; clear oX
          go_wp2_with fail
          refine hK _ _ (fun h => by cases h) ?_
          clear q0 q1 q2 q3
          clear hK
          refine wpTree_one (i := 11) (by kernel_rfl) rfl rfl (fun w5 h5 K hK => ?_)
          have rG := rG.kept h5
          have oX := own_ext OX.out h5
          have BX := BX.trans (h5.mono BX.size)
          have OX := Lib.hid oX; clear oX
          go_wp2_with fail
          refine hK _ _ (fun h => by cases h) ?_
          clear hK
          refine wpTree_one (i := 12) (by kernel_rfl) rfl rfl (fun w5 h5 K hK => ?_)
          have rG := rG.kept h5
          have oX := own_ext OX.out h5
          have BX := BX.trans (h5.mono BX.size)
          have OX := Lib.hid oX; clear oX
          go_wp2_with fail
          refine hK _ _ (fun h => by cases h) ?_
          clear hK
          refine wpTree_nil (by kernel_rfl) fun w9 h9 => ?_
          have r9 := rG.kept h9
          have o9 := own_ext OX.out h9
          have y9 := r9.cell 0
          simp only [List.getElem?_cons_zero] at y9
          have B9 := BX.trans (h9.mono BX.size)
          have O9 := Lib.hid o9; clear o9
          simp only [onlyN, Exit.then]
          clear h9 fN
          go_wp2_with fail
          refine (skyText_any Ar X.length cr X w9 rfl (by omega) (Rd.of_own O9.out) (ht.ext B9)).mono ?_
          rintro e w7 ⟨rfl, b7⟩
          have B7 := B9.trans (b7.mono B9.size)
          clear b7
          go_wp2_with fail
          refine (itoa_any KS (by omega) w7 (ht.ext B7)).mono ?_
          rintro e w8 ⟨rfl, b8⟩
          have B8 := B7.trans (b8.mono B7.size)
          clear b8
          go_wp2_with fail
          go_ret2
          exact ⟨skyStr X ++ oSteps ++ Lib.itoa KS ++ [10], OK, by rw [← str_app, ← str_app, ← str_app]; rfl, HC.out, hI.ext B8, .of_below B8⟩
      · have rG := rG.kept h5
        have oX := own_ext OX.out h5
        have BX := BX.trans (h5.mono BX.size)
        have E5 := E5.trans (h5.mono E5.size)
        have OX := Lib.hid oX; clear oX
        go_wp2_with fail
        refine hK _ _ (fun h => by cases h) ?_
        clear hK
        refine wpTree_two (i := 7) (j := 8) (by kernel_rfl) rfl rfl rfl rfl (fun w5 h5 K hK => ?_) (fun w5 h5 K hK => ?_)
        · have rG := rG.kept h5
          have oX := own_ext OX.out h5
          have BX := BX.trans (h5.mono BX.size)
          have E5 := E5.trans (h5.mono E5.size)
          have OX := Lib.hid oX; clear oX
          go_wp2_with fail
          refine hK _ _ (fun h => E5) ?_
          clear hK
          refine wpTree_two (i := 8) (j := 10) (by kernel_rfl) rfl rfl rfl rfl (fun w5 h5 K hK => ?_) (fun w5 h5 K hK => ?_)
          · have rG := rG.kept h5
            have oX := own_ext OX.out h5
            have BX := BX.trans (h5.mono BX.size)
            have E5 := E5.trans (h5.mono E5.size)
            have OX := Lib.hid oX; clear oX
            go_wp2_with fail
            refine hK _ _ (fun h => by cases h) ?_
            clear hK
            refine wpTree_one (i := 10) (by kernel_rfl) rfl rfl (fun w5 h5 K hK => ?_)
            have rG := rG.kept h5
            have oX := own_ext OX.out h5
            have BX := BX.trans (h5.mono BX.size)
            have E5 := E5.trans (h5.mono E5.size)
            obtain ⟨q0, q1, q2, q3⟩ := rG.two
            have oX := own_over (own_over oX (grown_set w5 g 0 (.slice Ar X.length cr)) (fun jj hj e => by have := (own_lt oX hj).1; cases e; omega)) (grown_set _ g 1 (.slice Ar2 lr2 cr2)) (fun jj hj e => by have := (own_lt oX hj).1; cases e; omega)
            have BX := (BX.setCell (p := ⟨g, 0, none⟩) hwg (.slice Ar X.length cr)).setCell (p := ⟨g, 1, none⟩) hwg (.slice Ar2 lr2 cr2)
            have rG := (rG.set_ 0 (.slice Ar X.length cr)).set_ 1 (.slice Ar2 lr2 cr2)
            simp only [List.set_cons_zero, List.set_cons_succ] at rG
            have OX := Lib.hid oX; clear oX
            go_wp2_with fail
            refine hK _ _ (fun h => by cases h) ?_
            clear q0 q1 q2 q3
            clear hK
            refine wpTree_one (i := 11) (by kernel_rfl) rfl rfl (fun w5 h5 K hK => ?_)
            have rG := rG.kept h5
            have oX := own_ext OX.out h5
            have BX := BX.trans (h5.mono BX.size)
            have OX := Lib.hid oX; clear oX
            go_wp2_with fail
            refine hK _ _ (fun h => by cases h) ?_
            clear hK
            refine wpTree_one (i := 12) (by kernel_rfl) rfl rfl (fun w5 h5 K hK => ?_)
            have rG := rG.kept h5
            have oX := own_ext OX.out h5
            have BX := BX.trans (h5.mono BX.size)
            have OX := Lib.hid oX; clear oX
            go_wp2_with fail
            refine hK _ _ (fun h => by cases h) ?_
            clear hK
            refine wpTree_nil (by kernel_rfl) fun w9 h9 => ?_
            have r9 := rG.kept h9
            have o9 := own_ext OX.out h9
            have y9 := r9.cell 0
            simp only [List.getElem?_cons_zero] at y9
            have B9 := BX.trans (h9.mono BX.size)
            have O9 := Lib.hid o9; clear o9
            simp only [onlyN, Exit.then]
            clear h9 fN
            go_wp2_with fail
            refine (skyText_any Ar X.length cr X w9 rfl (by omega) (Rd.of_own O9.out) (ht.ext B9)).mono ?_
            rintro e w7 ⟨rfl, b7⟩
            have B7 := B9.trans (b7.mono B9.size)
            clear b7
            go_wp2_with fail
            refine (itoa_any KS (by omega) w7 (ht.ext B7)).mono ?_
            rintro e w8 ⟨rfl, b8⟩
            have B8 := B7.trans (b8.mono B7.size)
            clear b8
            go_wp2_with fail
            go_ret2
            exact ⟨skyStr X ++ oSteps ++ Lib.itoa KS ++ [10], OK, by rw [← str_app, ← str_app, ← str_app]; rfl, HC.out, hI.ext B8, .of_below B8⟩
          · have rG := rG.kept h5
            have oX := own_ext OX.out h5
            have BX := BX.trans (h5.mono BX.size)
            have E5 := E5.trans (h5.mono E5.size)
            obtain ⟨q0, q1, q2, q3⟩ := rG.two
            have oX := own_over (own_over oX (grown_set w5 g 0 (.slice Ar X.length cr)) (fun jj hj e => by have := (own_lt oX hj).1; cases e; omega)) (grown_set _ g 1 (.slice Ar2 lr2 cr2)) (fun jj hj e => by have := (own_lt oX hj).1; cases e; omega)
            have BX := (BX.setCell (p := ⟨g, 0, none⟩) hwg (.slice Ar X.length cr)).setCell (p := ⟨g, 1, none⟩) hwg (.slice Ar2 lr2 cr2)
            have rG := (rG.set_ 0 (.slice Ar X.length cr)).set_ 1 (.slice Ar2 lr2 cr2)
            simp only [List.set_cons_zero, List.set_cons_succ] at rG
            have OX := Lib.hid oX; clear oX
            go_wp2_with fail
            refine hK _ _ (fun h => by cases h) ?_
            clear q0 q1 q2 q3
            clear hK
            refine wpTree_one (i := 8) (by kernel_rfl) rfl rfl (fun w5 h5 K hK => ?_)
            have rG := rG.kept h5
            have oX := own_ext OX.out h5
            have BX := BX.trans (h5.mono BX.size)
            have OX := Lib.hid oX; clear oX
            go_wp2_with fail
            refine hK _ _ (fun h => by cases h) ?_
            clear hK
            refine wpTree_one (i := 11) (by kernel_rfl) rfl rfl (fun w5 h5 K hK => ?_)
            have rG := rG.kept h5
            have oX := own_ext OX.out h5
            have BX := BX.trans (h5.mono BX.size)
            have OX := Lib.hid oX; clear oX
            go_wp2_with fail
            refine hK _ _ (fun h => by cases h) ?_
            clear hK
            refine wpTree_one (i := 12) (by kernel_rfl) rfl rfl (fun w5 h5 K hK => ?_)
            have rG := rG.kept h5
            have oX := own_ext OX.out h5
            have BX := BX.trans (h5.mono BX.size)
            have OX := Lib.hid oX; clear oX
            go_wp2_with fail
            refine hK _ _ (fun h => by cases h) ?_
            clear hK
            refine wpTree_nil (by kernel_rfl) fun w9 h9 => ?_
            have r9 := rG.kept h9
            have o9 := own_ext OX.out h9
            have y9 := r9.cell 0
            simp only [List.getElem?_cons_zero] at y9
            have B9 := BX.trans (h9.mono BX.size)
            have O9 := Lib.hid o9; clear o9
            simp only [onlyN, Exit.then]
            clear h9 fN
            go_wp2_with fail
            refine (skyText_any Ar X.length cr X w9 rfl (by omega) (Rd.of_own O9.out) (ht.ext B9)).mono ?_
            rintro e w7 ⟨rfl, b7⟩
            have B7 := B9.trans (b7.mono B9.size)
            clear b7
            go_wp2_with fail
            refine (itoa_any KS (by omega) w7 (ht.ext B7)).mono ?_
            rintro e w8 ⟨rfl, b8⟩
            have B8 := B7.trans (b8.mono B7.size)
            clear b8
            go_wp2_with fail
            go_ret2
            exact ⟨skyStr X ++ oSteps ++ Lib.itoa KS ++ [10], OK, by rw [← str_app, ← str_app, ← str_app]; rfl, HC.out, hI.ext B8, .of_below B8⟩
        · have rG := rG.kept h5
          have oX := own_ext OX.out h5
          have BX := BX.trans (h5.mono BX.size)
          have E5 := E5.trans (h5.mono E5.size)
          have OX := Lib.hid oX; clear oX
          go_wp2_with fail
          refine hK _ _ (fun h => by cases h) ?_
          clear hK
          refine wpTree_one (i := 7) (by kernel_rfl) rfl rfl (fun w5 h5 K hK => ?_)
          have rG := rG.kept h5
          have oX := own_ext OX.out h5
          have BX := BX.trans (h5.mono BX.size)
          have E5 := E5.trans (h5.mono E5.size)
          have OX := Lib.hid oX; clear oX
          go_wp2_with fail
          refine hK _ _ (fun h => E5) ?_
          clear hK
          refine wpTree_one (i := 10) (by kernel_rfl) rfl rfl (fun w5 h5 K hK => ?_)
          have rG := rG.kept h5
          have oX := own_ext OX.out h5
          have BX := BX.trans (h5.mono BX.size)
          have E5 := E5.trans (h5.mono E5.size)
          obtain ⟨q0, q1, q2, q3⟩ := rG.two
          have oX := own_over (own_over oX (grown_set w5 g 0 (.slice Ar X.length cr)) (fun jj hj e => by have := (own_lt oX hj).1; cases e; omega)) (grown_set _ g 1 (.slice Ar2 lr2 cr2)) (fun jj hj e => by have := (own_lt oX hj).1; cases e; omega)
          have BX := (BX.setCell (p := ⟨g, 0, none⟩) hwg (.slice Ar X.length cr)).setCell (p := ⟨g, 1, none⟩) hwg (.slice Ar2 lr2 cr2)
          have rG := (rG.set_ 0 (.slice Ar X.length cr)).set_ 1 (.slice Ar2 lr2 cr2)
          simp only [List.set_cons_zero, List.set_cons_succ] at rG
          have OX := Lib.hid oX; clear oX
          go_wp2_with fail
          refine hK _ _ (fun h => by cases h) ?_
          clear q0 q1 q2 q3
          clear hK
          refine wpTree_one (i := 11) (by kernel_rfl) rfl rfl (fun w5 h5 K hK => ?_)
          have rG := rG.kept h5
          have oX := own_ext OX.out h5
          have BX := BX.trans (h5.mono BX.size)
          have OX := Lib.hid oX; clear oX
          go_wp2_with fail
          refine hK _ _ (fun h => by cases h) ?_
          clear hK
          refine wpTree_one (i := 12) (by kernel_rfl) rfl rfl (fun w5 h5 K hK => ?_)
          have rG := rG.kept h5
          have oX := own_ext OX.out h5
          have BX := BX.trans (h5.mono BX.size)
          have OX := Lib.hid oX; clear oX
          go_wp2_with fail
          refine hK _ _ (fun h => by cases h) ?_
          clear hK
          refine wpTree_nil (by kernel_rfl) fun w9 h9 => ?_
          have r9 := rG.kept h9
          have o9 := own_ext OX.out h9
          have y9 := r9.cell 0
          simp only [List.getElem?_cons_zero] at y9
          have B9 := BX.trans (h9.mono BX.size)
          have O9 := Lib.hid o9; clear o9
          simp only [onlyN, Exit.then]
          clear h9 fN
          go_wp2_with fail
          refine (skyText_any Ar X.length cr X w9 rfl (by omega) (Rd.of_own O9.out) (ht.ext B9)).mono ?_
          rintro e w7 ⟨rfl, b7⟩
          have B7 := B9.trans (b7.mono B9.size)
          clear b7
          go_wp2_with fail
          refine (itoa_any KS (by omega) w7 (ht.ext B7)).mono ?_
          rintro e w8 ⟨rfl, b8⟩
          have B8 := B7.trans (b8.mono B7.size)
          clear b8
          go_wp2_with fail
          go_ret2
          exact ⟨skyStr X ++ oSteps ++ Lib.itoa KS ++ [10], OK, by rw [← str_app, ← str_app, ← str_app]; rfl, HC.out, hI.ext B8, .of_below B8⟩
end Go.Proofs.YtipgpafgampfbaaGreatDoor
