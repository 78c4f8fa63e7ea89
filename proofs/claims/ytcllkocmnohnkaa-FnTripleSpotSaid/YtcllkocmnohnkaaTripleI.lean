/- 'impl.ObserveTriple' at every input. -/
import Derived.Test.YtcllkocmnohnkaaTripleP
namespace Go.Proofs.Ytcllkocmnohnkaa
open Go.RowKit

theorem tripOK_no {n : Int} {gs : List (Int × Int)} {i j k : Int} (h : tripOK n gs i j k = false) : obsV n gs = false ∨ (obsV n gs = true ∧ (i < 0 ∨ (0 ≤ i ∧ (j ≤ i ∨ (i < j ∧ (k ≤ j ∨ (j < k ∧ n ≤ k))))))) := by
  cases h1 : obsV n gs
  · exact .inl rfl
  · right
    refine ⟨rfl, ?_⟩
    have : ¬ (0 ≤ i ∧ i < j ∧ j < k ∧ k < n) := fun h2 => by rw [tripOK_iff.2 ⟨h1, h2⟩] at h; cases h
    omega

set_option maxHeartbeats 1000000 in
theorem observeTriple_no (n : Int) (A : Option Addr) (m cap : Nat) (gs : List (Int × Int)) (i j k : Int) (w : World) (hn : gs.length = m) (hm : m ≤ 1000000000) (hr : Rd w w.heap.size A (gs.flatMap pairCells)) (h : tripOK n gs i j k = false) :
    Calls Try.prog 80 #[.int .i64 n, .slice A m cap, .int .i64 i, .int .i64 j, .int .i64 k] w fun e w' => e = .returned (.tuple #[.agg #[.int .i64 0, .int .i64 0], .bool false]) ∧ Below w.heap.size w w' := by
  have Hn := Lib.hid hn; clear hn
  have r0 := Row.new w 49 [.int .i64 0, .int .i64 0]
  have hr' := hr.ext (bA1 (o := .cells #[.int .i64 0, .int .i64 0] 49))
  rcases tripOK_no h with h1 | ⟨h1, h2⟩
  · have H := Lib.hid h; clear h
    have H1 := Lib.hid h1; clear h1
    go_enter Try.func80, Try.ntmps80
    go_wp2_with fail
    refine (isObservation_any n A m cap gs _ Hn.out hm hr').mono ?_
    rintro e w1 ⟨rfl, b1⟩
    rw [H1.out]
    obtain ⟨c0, c1, f0, f1⟩ := (r0.kept b1).two
    have B1 := (bA1 (w := w)).trans (b1.mono bA1.size)
    clear b1
    go_wp2_with fail
    exact bodyPost_ret (v := .tuple #[.agg #[.int .i64 0, .int .i64 0], .bool false]) (by simp [results, Try.results80, go_sem, c0, c1]) rfl ⟨rfl, (B1.setCell (p := ⟨w.heap.size, 0, none⟩) (Nat.le_refl _) _).setCell (p := ⟨w.heap.size, 1, none⟩) (Nat.le_refl _) _⟩
  · have H := Lib.hid h; clear h
    have H1 := Lib.hid h1; clear h1
    rcases h2 with h2 | ⟨h2, h3 | ⟨h3, h4 | ⟨h4, h5⟩⟩⟩
    all_goals
      go_enter Try.func80, Try.ntmps80
      go_wp2_with fail
      refine (isObservation_any n A m cap gs _ Hn.out hm hr').mono ?_
      rintro e w1 ⟨rfl, b1⟩
      rw [H1.out]
      obtain ⟨c0, c1, f0, f1⟩ := (r0.kept b1).two
      have B1 := (bA1 (w := w)).trans (b1.mono bA1.size)
      clear b1
      go_wp2_with fail
      exact bodyPost_ret (v := .tuple #[.agg #[.int .i64 0, .int .i64 0], .bool false]) (by simp [results, Try.results80, go_sem, c0, c1]) rfl ⟨rfl, (B1.setCell (p := ⟨w.heap.size, 0, none⟩) (Nat.le_refl _) _).setCell (p := ⟨w.heap.size, 1, none⟩) (Nat.le_refl _) _⟩

set_option maxRecDepth 100000 in
set_option maxHeartbeats 2000000 in
theorem observeTriple_yes (n : Int) (A : Option Addr) (m cap : Nat) (gs : List (Int × Int)) (i j k : Int) (w : World) (hn : gs.length = m) (hm : m ≤ 1000000000) (hr : Rd w w.heap.size A (gs.flatMap pairCells)) (h : tripOK n gs i j k = true) :
    Calls Try.prog 80 #[.int .i64 n, .slice A m cap, .int .i64 i, .int .i64 j, .int .i64 k] w fun e w' => e = .returned (.tuple #[.agg #[.int .i64 (tripV n gs i j k).1.1, .int .i64 (tripV n gs i j k).1.2], .bool (tripV n gs i j k).2]) ∧ Below w.heap.size w w' := by
  rw [tripV_yes h]
  obtain ⟨h1, hi0, hij, hjk, hkn⟩ := tripOK_iff.1 h
  clear h
  obtain ⟨N, rfl, N2, N7, hl, hl21, hv⟩ := obsV_of h1
  have hbm := bm_pairs N N2 N7
  rw [← hl, hn] at hbm
  obtain ⟨p1, q1⟩ := bF_bd N i j (by omega) (by omega) (by omega)
  obtain ⟨p2, q2⟩ := bF_bd N j k (by omega) (by omega) (by omega)
  obtain ⟨p3, q3⟩ := bF_bd N i k (by omega) (by omega) (by omega)
  obtain ⟨x, hx⟩ : ∃ x : Nat, bF N i j = x := ⟨_, (Int.toNat_of_nonneg p1).symm⟩
  obtain ⟨y, hy⟩ : ∃ y : Nat, bF N j k = y := ⟨_, (Int.toNat_of_nonneg p2).symm⟩
  obtain ⟨z, hz⟩ : ∃ z : Nat, bF N i k = z := ⟨_, (Int.toNat_of_nonneg p3).symm⟩
  rw [hx, hy, hz]
  have hxm : x < m := by omega
  have hym : y < m := by omega
  have hzm : z < m := by omega
  simp only [Int.toNat_natCast]
  have k1 : ∀ w, Calls Try.prog 154 #[.int .i64 N, .int .i64 i, .int .i64 j] w fun e w' => e = .returned (.int .i64 x) ∧ w = w' := fun w => by
    have := baseAt_lt N i j w (by omega) (by omega) (by omega); rwa [hx] at this
  have k2 : ∀ w, Calls Try.prog 154 #[.int .i64 N, .int .i64 j, .int .i64 k] w fun e w' => e = .returned (.int .i64 y) ∧ w = w' := fun w => by
    have := baseAt_lt N j k w (by omega) (by omega) (by omega); rwa [hy] at this
  have k3 : ∀ w, Calls Try.prog 154 #[.int .i64 N, .int .i64 i, .int .i64 k] w fun e w' => e = .returned (.int .i64 z) ∧ w = w' := fun w => by
    have := baseAt_lt N i k w (by omega) (by omega) (by omega); rwa [hz] at this
  have r0 := Row.new w 49 [.int .i64 0, .int .i64 0]
  have hr' := hr.ext (bA1 (o := .cells #[.int .i64 0, .int .i64 0] 49))
  have hgz := List.all_eq_true.1 hv _ (List.mem_of_getElem? (getD_of (gs := gs) (k := z) (by omega)))
  have Hgz := Lib.hid (GB.gv hgz).2
  clear hx hy hz p1 p2 p3 q1 q2 q3 hbm hl hgz
  have Hn := Lib.hid hn; clear hn
  have H1 := Lib.hid h1; clear h1
  have Hv := Lib.hid hv; clear hv
  have K1 := Lib.hid k1; clear k1
  have K2 := Lib.hid k2; clear k2
  have K3 := Lib.hid k3; clear k3
  go_enter Try.func80, Try.ntmps80
  go_wp2_with fail
  refine (isObservation_any N A m cap gs _ Hn.out hm hr').mono ?_
  rintro e w1 ⟨rfl, b1⟩
  rw [H1.out]
  have r1 := r0.kept b1
  have B1 := (bA1 (w := w)).trans (b1.mono bA1.size)
  have hr1 := (hr'.below b1).more b1.size
  obtain ⟨b, off, rfl, L1⟩ := ld_pair hr1 (k := x) (by rw [Hn.out]; exact hxm)
  obtain ⟨_, _, e2, L2⟩ := ld_pair hr1 (k := y) (by rw [Hn.out]; exact hym)
  cases e2
  generalize ha : gs.getD x (0, 0) = a at *
  generalize hb : gs.getD y (0, 0) = b' at *
  obtain ⟨M, hM⟩ : ∃ M, gMul a.1 a.2 b'.1 b'.2 = M := ⟨_, rfl⟩
  have Hr1 := Lib.hid hr1
  have Ha := Lib.hid ha; clear ha
  have Hb := Lib.hid hb; clear hb
  clear b1 hr hr' r0 hr1
  go_wp2_with fail
  refine wp_region_N [18, 19, 20] [] (by kernel_rfl) (by kernel_rfl) ?_
  refine wpStill_go (v := .slice (some ⟨b, off, none⟩) m cap) rfl rfl (stays_run fun w' h => ex_move rfl rfl) ?_
  simp only [Act.put, List.setIfInBounds_toArray, List.set_cons_succ, List.set_cons_zero]
  refine wpStill_go (v := .int .i64 N) rfl rfl (stays_run fun w' h => ex_move rfl rfl) ?_
  simp only [Act.put, List.setIfInBounds_toArray, List.set_cons_succ, List.set_cons_zero]
  refine wpStill_go (v := .int .i64 i) rfl rfl (stays_run fun w' h => ex_move rfl rfl) ?_
  simp only [Act.put, List.setIfInBounds_toArray, List.set_cons_succ, List.set_cons_zero]
  refine wpStill_go (v := .int .i64 j) rfl rfl (stays_run fun w' h => ex_move rfl rfl) ?_
  simp only [Act.put, List.setIfInBounds_toArray, List.set_cons_succ, List.set_cons_zero]
  refine wpStill_go (v := .int .i64 x) rfl rfl (stays_call (f := 154) (args := #[.int .i64 N, .int .i64 i, .int .i64 j]) (fun w' h => by simp [go_sem]) (fun w' _ => calls_below (K1.out w'))) ?_
  simp only [Act.put, List.setIfInBounds_toArray, List.set_cons_succ, List.set_cons_zero]
  refine wpStill_go (v := .pointer (some ⟨b, off + x * 2, none⟩)) rfl rfl (stays_run fun w' h => ex_index rfl (by kernel_rfl) (by kernel_rfl) rfl rfl (hxm)) ?_
  simp only [Act.put, List.setIfInBounds_toArray, List.set_cons_succ, List.set_cons_zero]
  refine wpStill_go (v := .agg #[.int .i64 a.1, .int .i64 a.2]) rfl rfl (stays_run fun w' h => ex_load rfl rfl (L1 w' h)) ?_
  simp only [Act.put, List.setIfInBounds_toArray, List.set_cons_succ, List.set_cons_zero]
  refine wpStill_go (v := .slice (some ⟨b, off, none⟩) m cap) rfl rfl (stays_run fun w' h => ex_move rfl rfl) ?_
  simp only [Act.put, List.setIfInBounds_toArray, List.set_cons_succ, List.set_cons_zero]
  refine wpStill_go (v := .int .i64 N) rfl rfl (stays_run fun w' h => ex_move rfl rfl) ?_
  simp only [Act.put, List.setIfInBounds_toArray, List.set_cons_succ, List.set_cons_zero]
  refine wpStill_go (v := .int .i64 j) rfl rfl (stays_run fun w' h => ex_move rfl rfl) ?_
  simp only [Act.put, List.setIfInBounds_toArray, List.set_cons_succ, List.set_cons_zero]
  refine wpStill_go (v := .int .i64 k) rfl rfl (stays_run fun w' h => ex_move rfl rfl) ?_
  simp only [Act.put, List.setIfInBounds_toArray, List.set_cons_succ, List.set_cons_zero]
  refine wpStill_go (v := .int .i64 y) rfl rfl (stays_call (f := 154) (args := #[.int .i64 N, .int .i64 j, .int .i64 k]) (fun w' h => by simp [go_sem]) (fun w' _ => calls_below (K2.out w'))) ?_
  simp only [Act.put, List.setIfInBounds_toArray, List.set_cons_succ, List.set_cons_zero]
  refine wpStill_go (v := .pointer (some ⟨b, off + y * 2, none⟩)) rfl rfl (stays_run fun w' h => ex_index rfl (by kernel_rfl) (by kernel_rfl) rfl rfl (hym)) ?_
  simp only [Act.put, List.setIfInBounds_toArray, List.set_cons_succ, List.set_cons_zero]
  refine wpStill_go (v := .agg #[.int .i64 b'.1, .int .i64 b'.2]) rfl rfl (stays_run fun w' h => ex_load rfl rfl (L2 w' h)) ?_
  simp only [Act.put, List.setIfInBounds_toArray, List.set_cons_succ, List.set_cons_zero]
  refine wpStill_go (v := .tuple #[.agg #[.int .i64 M.1.1, .int .i64 M.1.2], .bool M.2]) rfl rfl (stays_call (f := 81) (args := #[.agg #[.int .i64 a.1, .int .i64 a.2], .agg #[.int .i64 b'.1, .int .i64 b'.2]]) (fun w' h => by simp [go_sem]) (fun w' _ => by rw [← hM]; exact gaussMul_any _ _ _ _ w')) ?_
  simp only [Act.put, List.setIfInBounds_toArray, List.set_cons_succ, List.set_cons_zero]
  refine wpStill_go (v := .tuple #[.agg #[.int .i64 M.1.1, .int .i64 M.1.2], .bool M.2]) rfl rfl (stays_run fun w' h => ex_move rfl rfl) ?_
  simp only [Act.put, List.setIfInBounds_toArray, List.set_cons_succ, List.set_cons_zero]
  refine wpStill_go (v := .agg #[.int .i64 M.1.1, .int .i64 M.1.2]) rfl rfl (stays_run fun w' h => by simp [go_sem]) ?_
  simp only [Act.put, List.setIfInBounds_toArray, List.set_cons_succ, List.set_cons_zero]
  refine wpStill_go (v := .bool M.2) rfl rfl (stays_run fun w' h => by simp [go_sem]) ?_
  simp only [Act.put, List.setIfInBounds_toArray, List.set_cons_succ, List.set_cons_zero]
  refine wpStill_skip rfl ?_
  refine wpStill_skip rfl ?_
  refine wpStill_skip rfl ?_
  refine wpStill_nil ?_
  repeat (refine wpMark_skip rfl ?_)
  refine wpMark_go rfl (fun m1 hm1 K hK => ?_)
  go_wp2_with fail
  have C1 := fun o => ((Below.refl _ _).drew.trans hm1).alloc hm1.size o
  refine hK _ _ (fun _ => C1 _) ?_
  clear hK
  refine wpMark_go rfl (fun m2 hm2 K hK => ?_)
  have e1 := (Row.new m1 49 [.int .i64 0, .int .i64 0]).kept hm2
  obtain ⟨c0, c1, z0, z1⟩ := e1.two
  go_wp2_with fail
  have E2 := (C1 (.cells #[.int .i64 0, .int .i64 0] 49)).trans (hm2.mono (C1 _).size)
  have E3 := (E2.setCell (p := ⟨m1.heap.size, 0, none⟩) hm1.size (.int .i64 M.1.1)).setCell (p := ⟨m1.heap.size, 1, none⟩) hm1.size (.int .i64 M.1.2)
  refine hK _ _ (fun _ => E3) ?_
  clear hK
  refine wpMark_go rfl (fun m3 hm3 K hK => ?_)
  have E4 := E3.trans (hm3.mono E3.size)
  go_wp2_with fail
  refine hK _ _ (fun _ => E4) (wpMark_nil fun m6 hm6 => ?_)
  simp only [onlyN, Exit.then]
  have E6 := E4.trans (hm6.mono E4.size)
  have r2 := (((e1.set_ 0 (.int .i64 M.1.1)).set_ 1 (.int .i64 M.1.2)).kept hm3).kept hm6
  have r1' := r1.kept E6
  have hr6 := Hr1.out.ext E6
  have B6 := B1.trans (E6.mono B1.size)
  simp only [List.set_cons_zero, List.set_cons_succ] at r2
  clear E6 E4 E3 E2 hm6 hm3 hm2 hm1 C1 c0 c1 z0 z1 e1 hK r1 L1 L2
  cases hM2 : M.2
  · have ht : trip3 a b' (gs.getD z (0, 0)) = ((0, 0), false) := by unfold trip3; rw [hM, hM2]; rfl
    obtain ⟨c0, c1, f0, f1⟩ := r1'.two
    have HM := Lib.hid hM; clear hM
    have HM2 := Lib.hid hM2; clear hM2
    have Ht := Lib.hid ht; clear ht
    clear r2
    go_wp2_with fail
    exact bodyPost_ret (v := .tuple #[.agg #[.int .i64 0, .int .i64 0], .bool false]) (by simp [results, Try.results80, go_sem, c0, c1]) rfl ⟨by rw [Ha.out, Hb.out, Ht.out], (B6.setCell (p := ⟨w.heap.size, 0, none⟩) (Nat.le_refl _) _).setCell (p := ⟨w.heap.size, 1, none⟩) (Nat.le_refl _) _⟩
  · obtain ⟨_, _, e2, L3⟩ := ld_pair hr6 (k := z) (by rw [Hn.out]; exact hzm)
    cases e2
    have Hgz := Hgz.out
    generalize hc : gs.getD z (0, 0) = c at *
    have Hc := Lib.hid hc; clear hc
    obtain ⟨R, hR⟩ : ∃ R, gMul M.1.1 M.1.2 c.1 (-c.2) = R := ⟨_, rfl⟩
    have ht : trip3 a b' c = R := by unfold trip3; rw [hM, hM2]; exact hR
    have Hgz := Lib.hid Hgz
    have Ht := Lib.hid ht; clear ht
    have HM := Lib.hid hM; clear hM
    have HM2 := Lib.hid hM2; clear hM2
    have HR := Lib.hid hR; clear hR
    clear hr6 Hr1
    go_wp2_with fail
    refine wp_region_N [12, 13] [12, 13] (by kernel_rfl) (by kernel_rfl) ?_
    have L0 : ∀ w', Below m6.heap.size m6 w' → (Instr.loadAt 49 (.pointer (some ⟨m1.heap.size, 0, none⟩))).run Try.prog w' = .ok (.agg #[.int .i64 M.1.1, .int .i64 M.1.2]) w' := fun w' h => ld_two (by kernel_rfl) (by kernel_rfl) ((r2.kept h).cell 0) ((r2.kept h).cell 1)
    refine wpStill_go (v := .agg #[.int .i64 M.1.1, .int .i64 M.1.2]) rfl rfl (stays_run fun w' h => ex_load rfl rfl (L0 w' h)) ?_
    simp only [Act.put, List.setIfInBounds_toArray, List.set_cons_succ, List.set_cons_zero]
    refine wpStill_go (v := .slice (some ⟨b, off, none⟩) m cap) rfl rfl (stays_run fun w' h => ex_move rfl rfl) ?_
    simp only [Act.put, List.setIfInBounds_toArray, List.set_cons_succ, List.set_cons_zero]
    refine wpStill_go (v := .int .i64 N) rfl rfl (stays_run fun w' h => ex_move rfl rfl) ?_
    simp only [Act.put, List.setIfInBounds_toArray, List.set_cons_succ, List.set_cons_zero]
    refine wpStill_go (v := .int .i64 i) rfl rfl (stays_run fun w' h => ex_move rfl rfl) ?_
    simp only [Act.put, List.setIfInBounds_toArray, List.set_cons_succ, List.set_cons_zero]
    refine wpStill_go (v := .int .i64 k) rfl rfl (stays_run fun w' h => ex_move rfl rfl) ?_
    simp only [Act.put, List.setIfInBounds_toArray, List.set_cons_succ, List.set_cons_zero]
    refine wpStill_go (v := .int .i64 z) rfl rfl (stays_call (f := 154) (args := #[.int .i64 N, .int .i64 i, .int .i64 k]) (fun w' h => by simp [go_sem]) (fun w' _ => calls_below (K3.out w'))) ?_
    simp only [Act.put, List.setIfInBounds_toArray, List.set_cons_succ, List.set_cons_zero]
    refine wpStill_go (v := .pointer (some ⟨b, off + z * 2, none⟩)) rfl rfl (stays_run fun w' h => ex_index rfl (by kernel_rfl) (by kernel_rfl) rfl rfl (hzm)) ?_
    simp only [Act.put, List.setIfInBounds_toArray, List.set_cons_succ, List.set_cons_zero]
    refine wpStill_go (v := .agg #[.int .i64 c.1, .int .i64 c.2]) rfl rfl (stays_run fun w' h => ex_load rfl rfl (L3 w' h)) ?_
    simp only [Act.put, List.setIfInBounds_toArray, List.set_cons_succ, List.set_cons_zero]
    refine wpStill_go (v := .agg #[.int .i64 c.1, .int .i64 (-c.2)]) rfl rfl (stays_call (f := 156) (args := #[.agg #[.int .i64 c.1, .int .i64 c.2]]) (fun w' h => by simp [go_sem]) (fun w' _ => gConj_any _ _ w' Hgz.out)) ?_
    simp only [Act.put, List.setIfInBounds_toArray, List.set_cons_succ, List.set_cons_zero]
    refine wpStill_go (v := .tuple #[.agg #[.int .i64 R.1.1, .int .i64 R.1.2], .bool R.2]) rfl rfl (stays_call (f := 81) (args := #[.agg #[.int .i64 M.1.1, .int .i64 M.1.2], .agg #[.int .i64 c.1, .int .i64 (-c.2)]]) (fun w' h => by simp [go_sem]) (fun w' _ => by rw [← HR.out]; exact gaussMul_any _ _ _ _ w')) ?_
    simp only [Act.put, List.setIfInBounds_toArray, List.set_cons_succ, List.set_cons_zero]
    refine wpStill_go (v := .agg #[.int .i64 R.1.1, .int .i64 R.1.2]) rfl rfl (stays_run fun w' h => by simp [go_sem]) ?_
    simp only [Act.put, List.setIfInBounds_toArray, List.set_cons_succ, List.set_cons_zero]
    refine wpStill_go (v := .bool R.2) rfl rfl (stays_run fun w' h => by simp [go_sem]) ?_
    simp only [Act.put, List.setIfInBounds_toArray, List.set_cons_succ, List.set_cons_zero]
    refine wpStill_skip rfl ?_
    refine wpStill_skip rfl ?_
    refine wpStill_nil ?_
    repeat (refine wpMark_skip rfl ?_)
    refine wpMark_go rfl (fun n1 h1 K hK => ?_)
    have E1 := (Below.refl m6.heap.size m6).drew.trans h1
    obtain ⟨c0, c1, f0, f1⟩ := (r1'.kept E1).two
    go_wp2_with fail
    refine hK _ _ (fun h => absurd h (by decide)) ?_
    clear hK
    refine wpMark_go rfl (fun n2 h2 K hK => ?_)
    go_wp2_with fail
    refine hK _ _ (fun h => absurd h (by decide)) (wpMark_nil fun n6 h6 => ?_)
    simp only [onlyN, Exit.then]
    have r3 := (((((r1'.kept E1).set_ 0 (.int .i64 R.1.1)).set_ 1 (.int .i64 R.1.2)).kept h2).kept h6)
    obtain ⟨d0, d1, _, _⟩ := r3.two
    have B7 := B6.trans (E1.mono B6.size)
    have B8 := (B7.setCell (p := ⟨w.heap.size, 0, none⟩) (Nat.le_refl _) (.int .i64 R.1.1)).setCell (p := ⟨w.heap.size, 1, none⟩) (Nat.le_refl _) (.int .i64 R.1.2)
    have B9 := B8.trans (h2.mono B8.size)
    have B10 := B9.trans (h6.mono B9.size)
    clear h2 h6 h1 E1 L0 L3 c0 c1 f0 f1 B9 B8 B7 r3 r1' r2
    go_wp2_with fail
    exact bodyPost_ret (v := .tuple #[.agg #[.int .i64 R.1.1, .int .i64 R.1.2], .bool R.2]) (by simp [results, Try.results80, go_sem, d0, d1]) rfl ⟨by rw [Ha.out, Hb.out, Hc.out, Ht.out], B10⟩

theorem observeTriple_any (n : Int) (A : Option Addr) (m cap : Nat) (gs : List (Int × Int)) (i j k : Int) (w : World) (hn : gs.length = m) (hm : m ≤ 1000000000) (hr : Rd w w.heap.size A (gs.flatMap pairCells)) :
    Calls Try.prog 80 #[.int .i64 n, .slice A m cap, .int .i64 i, .int .i64 j, .int .i64 k] w fun e w' => e = .returned (.tuple #[.agg #[.int .i64 (tripV n gs i j k).1.1, .int .i64 (tripV n gs i j k).1.2], .bool (tripV n gs i j k).2]) ∧ Below w.heap.size w w' := by
  cases h : tripOK n gs i j k
  · rw [tripV_no h]
    exact observeTriple_no n A m cap gs i j k w hn hm hr h
  · exact observeTriple_yes n A m cap gs i j k w hn hm hr h
end Go.Proofs.Ytcllkocmnohnkaa
