/- A line of the script that asks: no array. -/
import Derived.Test.YtipgpafgampfbaaGreatDoorB6
namespace Go.Proofs.YtipgpafgampfbaaGreatDoor
open Go.RowKit Go.Maps

set_option maxRecDepth 100000 in
set_option maxHeartbeats 1000000 in
theorem execute_none (B0 S n m cap : Nat) (A : Option Addr) (h : Word) (t : List Word) (s : St) (w : World) (hn : n = m + 1) (hm : t.length = m) (hwl : wantL h = some m) (h7 : m ≤ 7) (e1 : (h == [97, 110, 116]) = false) (e2 : (h == [99, 101, 108, 108]) = false) (hc : n ≤ cap) (hl : h.length ≤ 1000) (hI : IsS B0 S s w) (hO : StOk s) (hv : arrV s.1 = false) (hr : Rd w w.heap.size A (strs (h :: t))) :
    Calls Tryz.prog 53 #[.pointer (some ⟨S, 0, none⟩), .slice A n cap] w fun e w' => LineOf B0 S (s, oNo) w e w' := by
  obtain ⟨i0, hi, hz0, hz1, hz2⟩ := info_parts intInfo
  obtain ⟨AT, hS, hrT⟩ := tail_fact (P := Tryz.prog) (t := 72) (e := 9) (show Rd w w.heap.size A (.string ⟨h.toArray⟩ :: strs t) from hr) (by kernel_rfl) (by kernel_rfl) n cap (by rw [strs_len, hm]; omega) hc
  rw [strs_len, hm] at hS
  have hmm := @run_makeMap Tryz.prog
  have m0 := mapAt_new w
  have b0 : Below w.heap.size w (w.alloc (.map #[] 0)) := bA1
  obtain ⟨bA, off, rfl, hbA, hc0⟩ := hr 0 _ (strs_get (ls := h :: t) (k := 0) (by simp))
  simp only [List.getD_cons_zero, Nat.add_zero] at hc0
  have c0 := hc0
  have hn1 : (0 : Int) < n := by omega
  have hwr : IntKind.i64.wrap ((n : Int) - 1) = m := by rw [IntWalk.i64_in _ (by omega)]; omega
  have Hn := Lib.hid hn; clear hn
  have Hm := Lib.hid hm; clear hm
  have HrT := Lib.hid hrT; clear hrT
  go_enter Tryz.func53, Tryz.ntmps53
  go_wp2_with (first | (refine wpList_insW (k := wAnt) (n := 2) rfl rfl rfl m0 (by omega) (by decide) (by omega) ?_; clear m0; intro w1 m0 g0; have b0 := b0.grown g0 b0.size (fun k e => by cases e; exact Nat.le_refl _); clear c0; have c0 : w1.cell? ⟨bA, off, none⟩ = some (.string ⟨h.toArray⟩) := (b0.cell (p := ⟨bA, off, none⟩) hbA).trans hc0; clear g0) | (refine wpList_insW (k := wCell) (n := 3) rfl rfl rfl m0 (by omega) (by decide) (by omega) ?_; clear m0; intro w1 m0 g0; have b0 := b0.grown g0 b0.size (fun k e => by cases e; exact Nat.le_refl _); clear c0; have c0 : w1.cell? ⟨bA, off, none⟩ = some (.string ⟨h.toArray⟩) := (b0.cell (p := ⟨bA, off, none⟩) hbA).trans hc0; clear g0) | (refine wpList_insW (k := wBases) (n := 0) rfl rfl rfl m0 (by omega) (by decide) (by omega) ?_; clear m0; intro w1 m0 g0; have b0 := b0.grown g0 b0.size (fun k e => by cases e; exact Nat.le_refl _); clear c0; have c0 : w1.cell? ⟨bA, off, none⟩ = some (.string ⟨h.toArray⟩) := (b0.cell (p := ⟨bA, off, none⟩) hbA).trans hc0; clear g0) | (refine wpList_insW (k := wCover) (n := 0) rfl rfl rfl m0 (by omega) (by decide) (by omega) ?_; clear m0; intro w1 m0 g0; have b0 := b0.grown g0 b0.size (fun k e => by cases e; exact Nat.le_refl _); clear c0; have c0 : w1.cell? ⟨bA, off, none⟩ = some (.string ⟨h.toArray⟩) := (b0.cell (p := ⟨bA, off, none⟩) hbA).trans hc0; clear g0) | (refine wpList_insW (k := wBeam) (n := 0) rfl rfl rfl m0 (by omega) (by decide) (by omega) ?_; clear m0; intro w1 m0 g0; have b0 := b0.grown g0 b0.size (fun k e => by cases e; exact Nat.le_refl _); clear c0; have c0 : w1.cell? ⟨bA, off, none⟩ = some (.string ⟨h.toArray⟩) := (b0.cell (p := ⟨bA, off, none⟩) hbA).trans hc0; clear g0) | (refine wpList_insW (k := wPoint) (n := 2) rfl rfl rfl m0 (by omega) (by decide) (by omega) ?_; clear m0; intro w1 m0 g0; have b0 := b0.grown g0 b0.size (fun k e => by cases e; exact Nat.le_refl _); clear c0; have c0 : w1.cell? ⟨bA, off, none⟩ = some (.string ⟨h.toArray⟩) := (b0.cell (p := ⟨bA, off, none⟩) hbA).trans hc0; clear g0) | (refine wpList_insW (k := wDirty) (n := 0) rfl rfl rfl m0 (by omega) (by decide) (by omega) ?_; clear m0; intro w1 m0 g0; have b0 := b0.grown g0 b0.size (fun k e => by cases e; exact Nat.le_refl _); clear c0; have c0 : w1.cell? ⟨bA, off, none⟩ = some (.string ⟨h.toArray⟩) := (b0.cell (p := ⟨bA, off, none⟩) hbA).trans hc0; clear g0) | (refine wpList_insW (k := wClean) (n := 1) rfl rfl rfl m0 (by omega) (by decide) (by omega) ?_; clear m0; intro w1 m0 g0; have b0 := b0.grown g0 b0.size (fun k e => by cases e; exact Nat.le_refl _); clear c0; have c0 : w1.cell? ⟨bA, off, none⟩ = some (.string ⟨h.toArray⟩) := (b0.cell (p := ⟨bA, off, none⟩) hbA).trans hc0; clear g0) | (refine wpList_lookW (h := h) rfl rfl rfl rfl m0 hl ?_; rw [want_eq, hwl]; simp only [Option.getD_some, Option.isSome_some]))
  go_loopw [9, 44] (fun v i wr => ∃ k : Nat, k ≤ m ∧ i = .int .i64 k ∧ wr.ownsRow w.heap.size 3 1 v k (((t.take k).map num7).map (Value.int .i64)) ∧ Below w.heap.size w wr) (fun _ i _ => m - (intOf i).toNat)
  case atStart => exact ⟨0, by omega, rfl, World.ownsRow_nil _ _ _ _, b0⟩
  case round =>
    obtain ⟨k, hk, rfl, hown, hbel⟩ := hrel
    have hsz := hbel.size
    by_cases hlt : k < m
    · obtain ⟨x, hx⟩ : ∃ x, t[k]? = some x := ⟨_, List.getElem?_eq_getElem (by rw [Hm.out]; exact hlt)⟩
      have hxg : (strs t)[k]? = some (.string ⟨x.toArray⟩) := by unfold strs; rw [List.getElem?_map, hx]; rfl
      obtain ⟨bT, offT, rfl, hbT, hcT⟩ := (HrT.out.below hbel) k _ hxg
      have hts : (t.take (k + 1)).map num7 = (t.take k).map num7 ++ [num7 x] := by rw [List.take_add_one, hx]; simp
      obtain ⟨Av, cv, rfl⟩ := own_form hown
      have Hown := Lib.hid hown; clear hown
      have Hts := Lib.hid hts; clear hts
      have Hx := Lib.hid hx; clear hx
      have Hxg := Lib.hid hxg; clear hxg
      go_wp2_with fail
      refine (scriptNumber_any x _).mono ?_
      rintro e w4 ⟨rfl, b4⟩
      have hr4 := own_ext Hown.out b4
      have B4 := hbel.trans (b4.mono hbel.size)
      have sz4 := B4.size
      have Hr4 := Lib.hid hr4; clear hr4
      go_wp2_with (at_builtin; refine wpList_append_own _ rfl _ _ 32 rfl w.heap.size 3 i0 (.int .i64 0) 1 8 (by kernel_rfl) hi hz0 hz1 hz2 rfl (by decide) _ k _ rfl (Hr4.out.alloc _) ⟨w4.heap.size, 0, none⟩ 1 1 [.int .i64 (num7 x)] rfl rfl (cell_one_new _ _ _) (by simp [Value.oneCell']) (by unfold maxLen; omega) (by omega) (by simp; omega) ?_; intro v' w7 hown' hgrow _; obtain ⟨g', cap', rfl⟩ := ownsRow_succ hown')
      have B7 := (B4.alloc sz4 _).grown hgrow (by simp; omega) fun j hj => (own_lt Hr4.out hj).1
      have Hown' := Lib.hid hown'; clear hown'
      have hidX := Lib.hid B7; clear B7; have B7 := hidX; clear hidX
      clear hgrow
      go_wp2_with fail
      go_roundw
      case measure => simp [intOf]; omega
      case rel => exact ⟨k + 1, by omega, by go_num, by rw [Hts.out, List.map_append]; exact Hown'.out, B7.out⟩
    · obtain rfl : k = m := by omega
      rw [List.take_of_length_le (by rw [Hm.out]; exact Nat.le_refl _)] at hown
      obtain ⟨Av, cv, rfl⟩ := own_form hown
      have c0 : wr.cell? ⟨bA, off, none⟩ = some (.string ⟨h.toArray⟩) := (hbel.cell (p := ⟨bA, off, none⟩) hbA).trans hc0
      have Hown := Lib.hid hown; clear hown
      obtain ⟨hBS, Aa, ca, Bs, cs, hRow, hAnts, hSky⟩ := hI.ext hbel
      have y0 := hRow.cell 0
      simp only [List.getElem?_cons_zero] at y0
      have hcov := coverOf_no Aa s.1.length ca s.1 wr rfl (own_cap hAnts) (by have := hO.len; omega) hv (Rd.of_own hAnts)
      have HAnts := Lib.hid hAnts; clear hAnts
      have HSky := Lib.hid hSky; clear hSky
      go_wp2_with fail
      refine hcov.mono ?_
      rintro e w2 ⟨rfl, b2⟩
      have B2 := hbel.trans (b2.mono hbel.size)
      clear b2
      go_wp2_with fail
      go_ret2
      exact ⟨[], false, rfl, rfl, hI.ext B2, .of_below B2⟩
end Go.Proofs.YtipgpafgampfbaaGreatDoor
