/- 'spec.CleanNew' at a valid sky; 'laws.sameClean', 'laws.fullCover'. -/
import Derived.Test.YtipgpafgampfbaaGreatDoorCleanR
namespace Go.Proofs.YtipgpafgampfbaaGreatDoor
open Go.RowKit

theorem rd_add {w : World} {B b o : Nat} {xs : List Value} (h : Rd w B (some ⟨b, o, none⟩) xs) (j : Nat) (u : Value) (hu : xs[j]? = some u) : w.cell? ((⟨b, o, none⟩ : Addr).add j) = some u := by
  have := rd_cells h j u hu
  by_cases h0 : j = 0
  · subst h0; simpa [Addr.add] using this
  · simpa [Addr.add, h0] using this

set_option maxRecDepth 100000 in
set_option maxHeartbeats 2000000 in
theorem sCleanNew_yes (A : Option Addr) (ca : Nat) (s : List Int) (w : World) (hv : skyV s = true) (hr : Rd w w.heap.size A (s.map (Value.int .i64))) :
    Calls Tryz.prog 167 #[.slice A 16 ca] w fun e w' => ∃ G v, e = .returned (.tuple #[.agg #[.slice (some ⟨G, 0, none⟩) 16 16, v], .bool true]) ∧ w.heap.size ≤ G ∧ Row w' G 3 (zeros16.map (Value.int .i64)) ∧ w'.ownsRow w.heap.size 3 1 v 16 (s.map (Value.int .i64)) ∧ Below w.heap.size w w' := by
  obtain ⟨i0, hi, hz0, hz1, hz2⟩ := info_parts intInfo
  obtain ⟨Z, hZ⟩ : ∃ Z, List.replicate 16 (Value.int .i64 0) = Z := ⟨_, rfl⟩
  have hmk : ∀ W : World, (Instr.makeSlice 32 (.int .i64 16) (.int .i64 16)).run Tryz.prog W = .ok (.slice (some ⟨W.heap.size, 0, none⟩) 16 16) (W.alloc (.cells Z.toArray 3)) := fun W => by
    rw [← hZ]; exact run_make1 (P := Tryz.prog) 32 3 (.int .i64 0) 8 Tryz.underlying32 (by kernel_rfl) rfl 16 (by omega) (by omega) W
  have hzz : Z = zeros16.map (Value.int .i64) := by rw [← hZ]; unfold zeros16; rw [List.map_replicate]
  have hl := skyV_len hv
  have Hz2 := Lib.hid hzz
  clear hZ hzz
  obtain ⟨bD, oD, rfl, hbD⟩ := rd_some hr (by rw [List.length_map]; omega)
  have hll : (s.map (Value.int .i64)).length = 16 * 1 := by rw [List.length_map, hl]
  have hone : ∀ u ∈ s.map (Value.int .i64), u.oneCell' = true := fun u hu => by
    obtain ⟨x, _, rfl⟩ := List.mem_map.1 hu
    rfl
  have Hv := Lib.hid hv; clear hv
  have Hl := Lib.hid hl; clear hl
  go_enter Tryz.func167, Tryz.ntmps167
  go_wp2_with fail
  have e0 := Row.new w 43 [.slice none 0 0, .slice none 0 0]
  have b0 := bA1 (w := w) (o := .cells #[.slice none 0 0, .slice none 0 0] 43)
  refine (sSkyValid_any _ 16 ca s _ Hl.out (by omega) (hr.ext b0)).mono ?_
  rintro e w1 ⟨rfl, rfl⟩
  rw [Hv.out]
  go_wp2_with fail
  obtain ⟨W, hW⟩ : ∃ W, w.alloc (.cells #[.slice none 0 0, .slice none 0 0] 43) = W := ⟨_, rfl⟩
  have hr1 := hr.ext b0
  have hWs : W.heap.size = w.heap.size + 1 := by rw [← hW, World.size_alloc]
  rw [hW] at e0 b0 hr1 ⊢
  clear hW hr
  have hWw : w.heap.size ≤ W.heap.size := by omega
  refine wp_region_T [1, 2, 4, 5, 6, 7] [6, 7] [true, false, false, true, false, false, false, false] 6 (Below W.heap.size W)
    (fun a' w' => ∃ G v EE, a' = ⟨#[.slice (some ⟨bD, oD, none⟩) 16 ca, undef, .pointer (some ⟨w.heap.size, 0, none⟩), .bool true, .slice (some ⟨bD, oD, none⟩) 16 ca, .bool true, .bool false, undef, .int .i64 16, .slice (some ⟨G, 0, none⟩) 16 16, .slice (some ⟨EE, 0, none⟩) 0 0, .slice (some ⟨bD, oD, none⟩) 16 ca, v, .agg #[.slice (some ⟨G, 0, none⟩) 16 16, v]], []⟩ ∧ w.heap.size ≤ G ∧
      Row w' G 3 (zeros16.map (Value.int .i64)) ∧ w'.ownsRow w.heap.size 3 1 v 16 (s.map (Value.int .i64)) ∧ Row w' w.heap.size 43 [.slice (some ⟨G, 0, none⟩) 16 16, v] ∧ Below w.heap.size w w')
    (by kernel_rfl) (by kernel_rfl) (fun _ _ h h' => h.trans (h'.mono h.size)) (Below.refl _ _).drew ?next ?walk
  case next =>
    rintro a' V ⟨G, v, EE, rfl, hG, rG, ov, rH, hB⟩
    obtain ⟨q0, q1, _, _⟩ := rH.two
    simp only [Exit.then]
    go_wp2_with fail
    exact bodyPost_ret (v := .tuple #[.agg #[.slice (some ⟨G, 0, none⟩) 16 16, v], .bool true]) (by simp [results, Tryz.results167, go_sem, q0, q1]) rfl ⟨G, v, rfl, hG, rG, ov, hB⟩
  case walk =>
    refine wpStill_go (v := .int .i64 16) rfl rfl (stays_call (f := 57) (args := #[]) (fun w' h => by simp [go_sem]) (fun w' _ => (l21Cells_any w').mono fun e w'' ⟨h, h2⟩ => ⟨h, h2 ▸ Below.refl _ _⟩)) ?_
    simp only [Act.put, List.setIfInBounds_toArray, List.set_cons_succ, List.set_cons_zero]
    refine wpStill_skip rfl (wpStill_skip rfl ?_)
    refine wpStill_go (v := .slice (some ⟨bD, oD, none⟩) 16 ca) rfl rfl (stays_run fun w' h => ex_move rfl rfl) ?_
    simp only [Act.put, List.setIfInBounds_toArray, List.set_cons_succ, List.set_cons_zero]
    refine wpStill_skip rfl (wpStill_skip rfl (wpStill_skip rfl (wpStill_skip rfl (wpStill_nil ?_))))
    have F : Below W.heap.size W W.drew := (Below.refl _ _).drew
    refine wpTree_two (i := 1) (j := 2) (by kernel_rfl) rfl rfl rfl rfl (fun m1 hm1 K hK => ?_) (fun m1 hm1 K hK => ?_)
    · have F := F.trans (hm1.mono F.size)
      go_wp2_with fail
      have lG := F.size
      have rG := Row.new m1 3 Z
      have bv := bA1 (w := m1) (o := .cells Z.toArray 3)
      have F := F.trans (bv.mono F.size)
      refine hK _ _ (fun _ => F) ?_
      clear hK bv
      obtain ⟨G, hB⟩ : ∃ G, m1.heap.size = G := ⟨_, rfl⟩
      obtain ⟨V1, hV⟩ : ∃ V, m1.alloc (.cells Z.toArray 3) = V := ⟨_, rfl⟩
      rw [hV] at rG F ⊢
      rw [Hz2.out] at rG
      rw [hB] at rG lG ⊢
      clear hB hV
      refine wpTree_one (i := 2) (by kernel_rfl) rfl rfl (fun m2 hm2 K hK => ?_)
      have F := F.trans (hm2.mono F.size)
      have rG := rG.kept hm2
      go_wp2_with fail
      have lE := F.size
      have rE := Row.new m2 3 []
      have bv := bA1 (w := m2) (o := .cells #[] 3)
      have lGE := rG.lt
      have F := F.trans (bv.mono F.size)
      have rG := rG.kept bv
      refine hK _ _ (fun _ => F) ?_
      clear hK bv
      obtain ⟨E, hB⟩ : ∃ E, m2.heap.size = E := ⟨_, rfl⟩
      obtain ⟨V2, hV⟩ : ∃ V, m2.alloc (.cells #[] 3) = V := ⟨_, rfl⟩
      rw [hV] at rG rE F ⊢
      rw [hB] at rE lE lGE ⊢
      clear hB hV
      refine wpTree_one (i := 4) (by kernel_rfl) rfl rfl (fun m3 hm3 K hK => ?_)
      have F := F.trans (hm3.mono F.size)
      have rG := rG.kept hm3
      have rE := rE.kept hm3
      have oE := rE.own (base := W.heap.size) (n := 0) (size := 1) lE rfl (by decide)
      have hrm := hr1.ext F
      have hcs : ∀ j u, (s.map (Value.int .i64))[j]? = some u → m3.cell? ((⟨bD, oD, none⟩ : Addr).add j) = some u := fun j u hu => rd_add hrm j u hu
      have sz := F.size
      refine wpList_append_own m3 rfl _ _ 32 rfl W.heap.size 3 i0 (.int .i64 0) 1 8 (by kernel_rfl) hi hz0 hz1 hz2 rfl (by decide) (.slice (some ⟨E, 0, none⟩) 0 0) 0 _ rfl oE ⟨bD, oD, none⟩ 16 ca _ rfl hll hcs hone (by unfold maxLen; omega) (by omega) sz ?_
      intro v' n3 hown' hgrow _
      have F := F.grown hgrow sz fun j hj => (own_lt oE hj).1
      have rG := rG.grown hgrow (fun e => by have e2 : some G = some E := e; injection e2 with e2; omega)
      rw [Nat.zero_add, List.nil_append] at hown'
      have ov := hown'.mono hWw
      obtain ⟨Av, cv, rfl⟩ := own_form ov
      clear hown' hgrow oE rE hcs hrm
      simp only [Act.put, List.getElem_toArray, List.getElem_cons_succ, List.getElem_cons_zero, List.setIfInBounds_toArray, List.set_cons_succ, List.set_cons_zero]
      go_wp2_with fail
      refine hK _ _ (fun _ => F) ?_
      clear hK
      refine wpTree_one (i := 5) (by kernel_rfl) rfl rfl (fun m4 hm4 K hK => ?_)
      have F := F.trans (hm4.mono F.size)
      have rG := rG.kept hm4
      have ov := own_ext ov hm4
      go_wp2_with fail
      refine hK _ _ (fun _ => F) ?_
      clear hK
      refine wpTree_one (i := 6) (by kernel_rfl) rfl rfl (fun m5 hm5 K hK => ?_)
      have F := F.trans (hm5.mono F.size)
      have rG := rG.kept hm5
      have ov := own_ext ov hm5
      have hapv : ∀ j, (Value.slice Av 16 cv).ownBlock = some j → w.heap.size < j := fun j hj => by obtain ⟨h1, h2, cs, fr, hc⟩ := own_lt ov hj; rcases Nat.lt_or_eq_of_le h1 with h | h; exact h; exfalso; rw [← h, show _ = _ from e0.kept F] at hc; injection hc with hc; injection hc with _ h3; revert h3; decide
      have rH := e0.kept F
      obtain ⟨q0, q1, q2, q3⟩ := rH.two
      have hHG : G ≠ w.heap.size := by omega
      have ovS := own_over (own_over ov (grown_set m5 w.heap.size 0 (.slice (some ⟨G, 0, none⟩) 16 16)) (fun j hj e => by have := hapv j hj; injection e with e; omega)) (grown_set _ w.heap.size 1 (.slice Av 16 cv)) (fun j hj e => by have := hapv j hj; injection e with e; omega)
      have rGS := (rG.far (p := ⟨w.heap.size, 0, none⟩) hHG (.slice (some ⟨G, 0, none⟩) 16 16)).far (p := ⟨w.heap.size, 1, none⟩) hHG (.slice Av 16 cv)
      have rHS := (rH.set_ 0 (.slice (some ⟨G, 0, none⟩) 16 16)).set_ 1 (.slice Av 16 cv)
      simp only [List.set_cons_zero, List.set_cons_succ] at rHS
      have BS := ((b0.trans (F.mono b0.size)).setCell (p := ⟨w.heap.size, 0, none⟩) (Nat.le_refl _) (.slice (some ⟨G, 0, none⟩) 16 16)).setCell (p := ⟨w.heap.size, 1, none⟩) (Nat.le_refl _) (.slice Av 16 cv)
      have RG := Lib.hid rGS
      have RH := Lib.hid rHS
      have OV := Lib.hid ovS
      have HB := Lib.hid BS
      clear rGS rHS ovS BS rG rH ov F
      go_wp2_with fail
      refine hK _ _ (fun h => absurd h (by decide)) ?_
      clear hK
      refine wpTree_one (i := 7) (by kernel_rfl) rfl rfl (fun m6 hm6 K hK => ?_)
      go_wp2_with fail
      refine hK _ _ (fun h => absurd h (by decide)) (wpTree_nil (by kernel_rfl) fun m9 hm9 => ?_)
      have hx : Ext _ m9 := hm6.trans hm9
      have bb := HB.out
      exact ⟨G, _, _, rfl, by omega, RG.out.kept hx, own_ext OV.out hx, RH.out.kept hx, bb.trans (hx.mono bb.size)⟩
    · have F := F.trans (hm1.mono F.size)
      go_wp2_with fail
      have lE := F.size
      have rE := Row.new m1 3 []
      have bv := bA1 (w := m1) (o := .cells #[] 3)
      have F := F.trans (bv.mono F.size)
      refine hK _ _ (fun _ => F) ?_
      clear hK bv
      obtain ⟨E, hB⟩ : ∃ E, m1.heap.size = E := ⟨_, rfl⟩
      obtain ⟨V1, hV⟩ : ∃ V, m1.alloc (.cells #[] 3) = V := ⟨_, rfl⟩
      rw [hV] at rE F ⊢
      rw [hB] at rE lE ⊢
      clear hB hV
      refine wpTree_two (i := 1) (j := 4) (by kernel_rfl) rfl rfl rfl rfl (fun m2 hm2 K hK => ?_) (fun m2 hm2 K hK => ?_)
      · have F := F.trans (hm2.mono F.size)
        have rE := rE.kept hm2
        go_wp2_with fail
        have lG := F.size
        have rG := Row.new m2 3 Z
        have bv := bA1 (w := m2) (o := .cells Z.toArray 3)
        have lGE := rE.lt
        have F := F.trans (bv.mono F.size)
        have rE := rE.kept bv
        refine hK _ _ (fun _ => F) ?_
        clear hK bv
        obtain ⟨G, hB⟩ : ∃ G, m2.heap.size = G := ⟨_, rfl⟩
        obtain ⟨V2, hV⟩ : ∃ V, m2.alloc (.cells Z.toArray 3) = V := ⟨_, rfl⟩
        rw [hV] at rE rG F ⊢
        rw [Hz2.out] at rG
        rw [hB] at rG lG lGE ⊢
        clear hB hV
        refine wpTree_one (i := 4) (by kernel_rfl) rfl rfl (fun m3 hm3 K hK => ?_)
        have F := F.trans (hm3.mono F.size)
        have rE := rE.kept hm3
        have rG := rG.kept hm3
        have oE := rE.own (base := W.heap.size) (n := 0) (size := 1) lE rfl (by decide)
        have hrm := hr1.ext F
        have hcs : ∀ j u, (s.map (Value.int .i64))[j]? = some u → m3.cell? ((⟨bD, oD, none⟩ : Addr).add j) = some u := fun j u hu => rd_add hrm j u hu
        have sz := F.size
        refine wpList_append_own m3 rfl _ _ 32 rfl W.heap.size 3 i0 (.int .i64 0) 1 8 (by kernel_rfl) hi hz0 hz1 hz2 rfl (by decide) (.slice (some ⟨E, 0, none⟩) 0 0) 0 _ rfl oE ⟨bD, oD, none⟩ 16 ca _ rfl hll hcs hone (by unfold maxLen; omega) (by omega) sz ?_
        intro v' n3 hown' hgrow _
        have F := F.grown hgrow sz fun j hj => (own_lt oE hj).1
        have rG := rG.grown hgrow (fun e => by have e2 : some G = some E := e; injection e2 with e2; omega)
        rw [Nat.zero_add, List.nil_append] at hown'
        have ov := hown'.mono hWw
        obtain ⟨Av, cv, rfl⟩ := own_form ov
        clear hown' hgrow oE rE hcs hrm
        simp only [Act.put, List.getElem_toArray, List.getElem_cons_succ, List.getElem_cons_zero, List.setIfInBounds_toArray, List.set_cons_succ, List.set_cons_zero]
        go_wp2_with fail
        refine hK _ _ (fun _ => F) ?_
        clear hK
        refine wpTree_one (i := 5) (by kernel_rfl) rfl rfl (fun m4 hm4 K hK => ?_)
        have F := F.trans (hm4.mono F.size)
        have rG := rG.kept hm4
        have ov := own_ext ov hm4
        go_wp2_with fail
        refine hK _ _ (fun _ => F) ?_
        clear hK
        refine wpTree_one (i := 6) (by kernel_rfl) rfl rfl (fun m5 hm5 K hK => ?_)
        have F := F.trans (hm5.mono F.size)
        have rG := rG.kept hm5
        have ov := own_ext ov hm5
        have hapv : ∀ j, (Value.slice Av 16 cv).ownBlock = some j → w.heap.size < j := fun j hj => by obtain ⟨h1, h2, cs, fr, hc⟩ := own_lt ov hj; rcases Nat.lt_or_eq_of_le h1 with h | h; exact h; exfalso; rw [← h, show _ = _ from e0.kept F] at hc; injection hc with hc; injection hc with _ h3; revert h3; decide
        have rH := e0.kept F
        obtain ⟨q0, q1, q2, q3⟩ := rH.two
        have hHG : G ≠ w.heap.size := by omega
        have ovS := own_over (own_over ov (grown_set m5 w.heap.size 0 (.slice (some ⟨G, 0, none⟩) 16 16)) (fun j hj e => by have := hapv j hj; injection e with e; omega)) (grown_set _ w.heap.size 1 (.slice Av 16 cv)) (fun j hj e => by have := hapv j hj; injection e with e; omega)
        have rGS := (rG.far (p := ⟨w.heap.size, 0, none⟩) hHG (.slice (some ⟨G, 0, none⟩) 16 16)).far (p := ⟨w.heap.size, 1, none⟩) hHG (.slice Av 16 cv)
        have rHS := (rH.set_ 0 (.slice (some ⟨G, 0, none⟩) 16 16)).set_ 1 (.slice Av 16 cv)
        simp only [List.set_cons_zero, List.set_cons_succ] at rHS
        have BS := ((b0.trans (F.mono b0.size)).setCell (p := ⟨w.heap.size, 0, none⟩) (Nat.le_refl _) (.slice (some ⟨G, 0, none⟩) 16 16)).setCell (p := ⟨w.heap.size, 1, none⟩) (Nat.le_refl _) (.slice Av 16 cv)
        have RG := Lib.hid rGS
        have RH := Lib.hid rHS
        have OV := Lib.hid ovS
        have HB := Lib.hid BS
        clear rGS rHS ovS BS rG rH ov F
        go_wp2_with fail
        refine hK _ _ (fun h => absurd h (by decide)) ?_
        clear hK
        refine wpTree_one (i := 7) (by kernel_rfl) rfl rfl (fun m6 hm6 K hK => ?_)
        go_wp2_with fail
        refine hK _ _ (fun h => absurd h (by decide)) (wpTree_nil (by kernel_rfl) fun m9 hm9 => ?_)
        have hx : Ext _ m9 := hm6.trans hm9
        have bb := HB.out
        exact ⟨G, _, _, rfl, by omega, RG.out.kept hx, own_ext OV.out hx, RH.out.kept hx, bb.trans (hx.mono bb.size)⟩
      · have F := F.trans (hm2.mono F.size)
        have rE := rE.kept hm2
        have oE := rE.own (base := W.heap.size) (n := 0) (size := 1) lE rfl (by decide)
        have hrm := hr1.ext F
        have hcs : ∀ j u, (s.map (Value.int .i64))[j]? = some u → m2.cell? ((⟨bD, oD, none⟩ : Addr).add j) = some u := fun j u hu => rd_add hrm j u hu
        have sz := F.size
        refine wpList_append_own m2 rfl _ _ 32 rfl W.heap.size 3 i0 (.int .i64 0) 1 8 (by kernel_rfl) hi hz0 hz1 hz2 rfl (by decide) (.slice (some ⟨E, 0, none⟩) 0 0) 0 _ rfl oE ⟨bD, oD, none⟩ 16 ca _ rfl hll hcs hone (by unfold maxLen; omega) (by omega) sz ?_
        intro v' n2 hown' hgrow _
        have F := F.grown hgrow sz fun j hj => (own_lt oE hj).1
        rw [Nat.zero_add, List.nil_append] at hown'
        have ov := hown'.mono hWw
        obtain ⟨Av, cv, rfl⟩ := own_form ov
        clear hown' hgrow oE rE hcs hrm
        simp only [Act.put, List.getElem_toArray, List.getElem_cons_succ, List.getElem_cons_zero, List.setIfInBounds_toArray, List.set_cons_succ, List.set_cons_zero]
        go_wp2_with fail
        refine hK _ _ (fun _ => F) ?_
        clear hK
        refine wpTree_one (i := 1) (by kernel_rfl) rfl rfl (fun m3 hm3 K hK => ?_)
        have F := F.trans (hm3.mono F.size)
        have ov := own_ext ov hm3
        go_wp2_with fail
        have lG := F.size
        have rG := Row.new m3 3 Z
        have bv := bA1 (w := m3) (o := .cells Z.toArray 3)
        have F := F.trans (bv.mono F.size)
        have ov := own_ext ov bv
        refine hK _ _ (fun _ => F) ?_
        clear hK bv
        obtain ⟨G, hB⟩ : ∃ G, m3.heap.size = G := ⟨_, rfl⟩
        obtain ⟨V3, hV⟩ : ∃ V, m3.alloc (.cells Z.toArray 3) = V := ⟨_, rfl⟩
        rw [hV] at rG ov F ⊢
        rw [Hz2.out] at rG
        rw [hB] at rG lG ⊢
        clear hB hV
        refine wpTree_one (i := 5) (by kernel_rfl) rfl rfl (fun m4 hm4 K hK => ?_)
        have F := F.trans (hm4.mono F.size)
        have rG := rG.kept hm4
        have ov := own_ext ov hm4
        go_wp2_with fail
        refine hK _ _ (fun _ => F) ?_
        clear hK
        refine wpTree_one (i := 6) (by kernel_rfl) rfl rfl (fun m5 hm5 K hK => ?_)
        have F := F.trans (hm5.mono F.size)
        have rG := rG.kept hm5
        have ov := own_ext ov hm5
        have hapv : ∀ j, (Value.slice Av 16 cv).ownBlock = some j → w.heap.size < j := fun j hj => by obtain ⟨h1, h2, cs, fr, hc⟩ := own_lt ov hj; rcases Nat.lt_or_eq_of_le h1 with h | h; exact h; exfalso; rw [← h, show _ = _ from e0.kept F] at hc; injection hc with hc; injection hc with _ h3; revert h3; decide
        have rH := e0.kept F
        obtain ⟨q0, q1, q2, q3⟩ := rH.two
        have hHG : G ≠ w.heap.size := by omega
        have ovS := own_over (own_over ov (grown_set m5 w.heap.size 0 (.slice (some ⟨G, 0, none⟩) 16 16)) (fun j hj e => by have := hapv j hj; injection e with e; omega)) (grown_set _ w.heap.size 1 (.slice Av 16 cv)) (fun j hj e => by have := hapv j hj; injection e with e; omega)
        have rGS := (rG.far (p := ⟨w.heap.size, 0, none⟩) hHG (.slice (some ⟨G, 0, none⟩) 16 16)).far (p := ⟨w.heap.size, 1, none⟩) hHG (.slice Av 16 cv)
        have rHS := (rH.set_ 0 (.slice (some ⟨G, 0, none⟩) 16 16)).set_ 1 (.slice Av 16 cv)
        simp only [List.set_cons_zero, List.set_cons_succ] at rHS
        have BS := ((b0.trans (F.mono b0.size)).setCell (p := ⟨w.heap.size, 0, none⟩) (Nat.le_refl _) (.slice (some ⟨G, 0, none⟩) 16 16)).setCell (p := ⟨w.heap.size, 1, none⟩) (Nat.le_refl _) (.slice Av 16 cv)
        have RG := Lib.hid rGS
        have RH := Lib.hid rHS
        have OV := Lib.hid ovS
        have HB := Lib.hid BS
        clear rGS rHS ovS BS rG rH ov F
        go_wp2_with fail
        refine hK _ _ (fun h => absurd h (by decide)) ?_
        clear hK
        refine wpTree_one (i := 7) (by kernel_rfl) rfl rfl (fun m6 hm6 K hK => ?_)
        go_wp2_with fail
        refine hK _ _ (fun h => absurd h (by decide)) (wpTree_nil (by kernel_rfl) fun m9 hm9 => ?_)
        have hx : Ext _ m9 := hm6.trans hm9
        have bb := HB.out
        exact ⟨G, _, _, rfl, by omega, RG.out.kept hx, own_ext OV.out hx, RH.out.kept hx, bb.trans (hx.mono bb.size)⟩
end Go.Proofs.YtipgpafgampfbaaGreatDoor
