/- 'spec.ObserveTriple' where there is a triple. -/
import Derived.Test.YtklhjofhmcaflaaTripleS
namespace Go.Proofs.Ytklhjofhmcaflaa
open Go.RowKit

set_option maxRecDepth 100000 in
set_option maxHeartbeats 2000000 in
theorem sObserveTriple_yes (n : Int) (A : Option Addr) (m cap : Nat) (gs : List (Int × Int)) (i j k : Int) (w : World) (hn : gs.length = m) (hm : m ≤ 1000000000) (hr : Rd w w.heap.size A (gs.flatMap pairCells)) (h : tripOK n gs i j k = true) :
    Calls Try.prog 21 #[.int .i64 n, .slice A m cap, .int .i64 i, .int .i64 j, .int .i64 k] w fun e w' => e = .returned (.tuple #[.agg #[.int .i64 (tripV n gs i j k).1.1, .int .i64 (tripV n gs i j k).1.2], .bool (tripV n gs i j k).2]) ∧ Below w.heap.size w w' := by
  rw [tripV_yes h]
  obtain ⟨h1, hi0, hij, hjk, hkn⟩ := tripOK_iff.1 h
  have ha := ((tripOK_apart h1).1 h).1
  clear h
  obtain ⟨N, rfl, N2, N7, hl, hl21, hv⟩ := obsV_of h1
  have hbm := bm_pairs N N2 N7
  rw [← hl, hn] at hbm
  obtain ⟨p1, q1⟩ := bF_bd N i j (by omega) (by omega) (by omega)
  obtain ⟨p2, q2⟩ := bF_bd N j k (by omega) (by omega) (by omega)
  obtain ⟨p3, q3⟩ := bF_bd N i k (by omega) (by omega) (by omega)
  obtain ⟨x, hx⟩ : ∃ x : Nat, bF N i j = x := ⟨_, (Int.toNat_of_nonneg p1).symm⟩
  obtain ⟨y, hy⟩ : ∃ y : Nat, bF N j k = y := ⟨_, (Int.toNat_of_nonneg p2).symm⟩
  obtain ⟨z, hz⟩ : ∃ z : Nat, bF N i k = z := ⟨_, (Int.toNat_of_nonneg p3).symm⟩
  rw [hx, hy, hz]
  have hxm : x < m := by omega
  have hym : y < m := by omega
  have hzm : z < m := by omega
  simp only [Int.toNat_natCast]
  have k1 : ∀ w, Calls Try.prog 57 #[.int .i64 N, .int .i64 i, .int .i64 j] w fun e w' => e = .returned (.int .i64 x) ∧ w = w' := fun w => by
    have := sBaseIndex_lt N i j w (by omega) (by omega) (by omega); rwa [hx] at this
  have k2 : ∀ w, Calls Try.prog 57 #[.int .i64 N, .int .i64 j, .int .i64 k] w fun e w' => e = .returned (.int .i64 y) ∧ w = w' := fun w => by
    have := sBaseIndex_lt N j k w (by omega) (by omega) (by omega); rwa [hy] at this
  have k3 : ∀ w, Calls Try.prog 57 #[.int .i64 N, .int .i64 i, .int .i64 k] w fun e w' => e = .returned (.int .i64 z) ∧ w = w' := fun w => by
    have := sBaseIndex_lt N i k w (by omega) (by omega) (by omega); rwa [hz] at this
  have r0 := Row.new w 33 [.int .i64 0, .int .i64 0]
  have hr' := hr.ext (bA1 (o := .cells #[.int .i64 0, .int .i64 0] 33))
  have hgz := List.all_eq_true.1 hv _ (List.mem_of_getElem? (getD_of (gs := gs) (k := z) (by omega)))
  have hij' : ¬ j < i := by omega
  have hjk' : ¬ k < j := by omega
  clear hx hy hz p1 p2 p3 q1 q2 q3 hbm hl
  have Hn := Lib.hid hn; clear hn
  have H1 := Lib.hid h1; clear h1
  have Hv := Lib.hid hv; clear hv
  have K1 := Lib.hid k1; clear k1
  have K2 := Lib.hid k2; clear k2
  have K3 := Lib.hid k3; clear k3
  have Hgz := Lib.hid hgz; clear hgz
  have Ha := Lib.hid ha; clear ha
  go_enter Try.func21, Try.ntmps21
  go_wp2_with fail
  refine (l43Ok_any N A m cap gs _ Hn.out hm hr').mono ?_
  rintro e w0 ⟨rfl, b0⟩
  rw [H1.out]
  have r1 := r0.kept b0
  have bel0 := (bA1 (w := w)).trans (b0.mono bA1.size)
  have hr0 := hr'.ext b0
  have rl := Row.new w0 3 [.int .i64 i, .int .i64 j, .int .i64 k]
  have r1 := r1.alloc (.cells #[.int .i64 i, .int .i64 j, .int .i64 k] 3)
  have bel0 := bel0.alloc bel0.size (.cells #[.int .i64 i, .int .i64 j, .int .i64 k] 3)
  have hr0 := hr0.ext (bA1 (o := .cells #[.int .i64 i, .int .i64 j, .int .i64 k] 3))
  go_wp2_with fail
  refine (l13Apart_any N _ 3 _ [i, j, k] _ (by omega) rfl (by omega) rl.rd).mono ?_
  rintro e w1 ⟨rfl, b1⟩
  rw [Ha.out]
  have r1 := r1.kept b1
  have bel1 := bel0.trans (b1.mono bel0.size)
  have hr1 := hr0.ext b1
  clear b0 b1 hr' hr0 hr r0 bel0
  obtain ⟨b, off, rfl, hb, hcz1, hcz2⟩ := rd_pair hr1 (getD_of (gs := gs) (k := z) (by rw [Hn.out]; exact hzm))
  generalize hc : gs.getD z (0, 0) = c at *
  have R1 := Lib.hid r1; clear r1
  have Bel1 := Lib.hid bel1; clear bel1
  have Hr1 := Lib.hid hr1; clear hr1
  have Hc := Lib.hid hc; clear hc
  go_wp2_with fail
  refine (K3.out _).mono ?_
  rintro e w2 ⟨rfl, rfl⟩
  go_wp2_with fail
  refine (sGaussConj_yes c.1 c.2 _ Hgz.out).mono ?_
  rintro e w2 ⟨rfl, b2⟩
  have rc := Row.new w2 33 [.int .i64 0, .int .i64 0]
  obtain ⟨d0, d1, g0, g1⟩ := rc.two
  have B2 := Lib.hid (Bel1.out.trans (b2.mono Bel1.out.size))
  have R1 := Lib.hid (R1.out.kept b2)
  have Hr1 := Lib.hid (Hr1.out.ext b2)
  clear b2 hcz1 hcz2
  obtain ⟨rs, hrs⟩ : ∃ rs, w2.alloc (.cells #[.int .i64 c.1, .int .i64 (-c.2)] 33) = rs := ⟨_, rfl⟩
  have rc' := Row.new w2 33 [.int .i64 c.1, .int .i64 (-c.2)]
  have E3 := bA1 (w := w2) (o := .cells #[.int .i64 c.1, .int .i64 (-c.2)] 33)
  simp only [hrs] at rc' E3
  have r1 := R1.out.kept E3
  have B3 := B2.out.trans (E3.mono B2.out.size)
  have hr3 := Hr1.out.ext E3
  have Hrs := Lib.hid hrs; clear hrs
  have Rc' := Lib.hid rc'; clear rc'
  have Rc := Lib.hid rc; clear rc
  clear E3 R1 B2 Hr1 d0 d1 g0 g1
  go_wp2_with fail
  rw [Hrs.out]
  obtain ⟨_, _, e2, L1⟩ := ld_pair hr3 (k := x) (by rw [Hn.out]; exact hxm)
  cases e2
  obtain ⟨_, _, e2, L2⟩ := ld_pair hr3 (k := y) (by rw [Hn.out]; exact hym)
  cases e2
  generalize ha : gs.getD x (0, 0) = a at *
  generalize hb' : gs.getD y (0, 0) = b' at *
  obtain ⟨M, hM⟩ : ∃ M, gMul a.1 a.2 b'.1 b'.2 = M := ⟨_, rfl⟩
  have Ha := Lib.hid ha; clear ha
  have Hb' := Lib.hid hb'; clear hb'
  refine wp_region_N [18, 19, 20] [] (by kernel_rfl) (by kernel_rfl) ?_
  refine wpStill_go (v := .slice (some ⟨b, off, none⟩) m cap) rfl rfl (stays_run fun w' h => ex_move rfl rfl) ?_
  simp only [Act.put, List.setIfInBounds_toArray, List.set_cons_succ, List.set_cons_zero]
  refine wpStill_go (v := .int .i64 N) rfl rfl (stays_run fun w' h => ex_move rfl rfl) ?_
  simp only [Act.put, List.setIfInBounds_toArray, List.set_cons_succ, List.set_cons_zero]
  refine wpStill_go (v := .int .i64 i) rfl rfl (stays_run fun w' h => ex_move rfl rfl) ?_
  simp only [Act.put, List.setIfInBounds_toArray, List.set_cons_succ, List.set_cons_zero]
  refine wpStill_go (v := .int .i64 j) rfl rfl (stays_run fun w' h => ex_move rfl rfl) ?_
  simp only [Act.put, List.setIfInBounds_toArray, List.set_cons_succ, List.set_cons_zero]
  refine wpStill_go (v := .int .i64 x) rfl rfl (stays_call (f := 57) (args := #[.int .i64 N, .int .i64 i, .int .i64 j]) (fun w' h => by simp [go_sem]) (fun w' _ => calls_below (K1.out w'))) ?_
  simp only [Act.put, List.setIfInBounds_toArray, List.set_cons_succ, List.set_cons_zero]
  refine wpStill_go (v := .pointer (some ⟨b, off + x * 2, none⟩)) rfl rfl (stays_run fun w' h => ex_index rfl (by kernel_rfl) (by kernel_rfl) rfl rfl (hxm)) ?_
  simp only [Act.put, List.setIfInBounds_toArray, List.set_cons_succ, List.set_cons_zero]
  refine wpStill_go (v := .agg #[.int .i64 a.1, .int .i64 a.2]) rfl rfl (stays_run fun w' h => ex_load rfl rfl (L1 w' h)) ?_
  simp only [Act.put, List.setIfInBounds_toArray, List.set_cons_succ, List.set_cons_zero]
  refine wpStill_go (v := .slice (some ⟨b, off, none⟩) m cap) rfl rfl (stays_run fun w' h => ex_move rfl rfl) ?_
  simp only [Act.put, List.setIfInBounds_toArray, List.set_cons_succ, List.set_cons_zero]
  refine wpStill_go (v := .int .i64 N) rfl rfl (stays_run fun w' h => ex_move rfl rfl) ?_
  simp only [Act.put, List.setIfInBounds_toArray, List.set_cons_succ, List.set_cons_zero]
  refine wpStill_go (v := .int .i64 j) rfl rfl (stays_run fun w' h => ex_move rfl rfl) ?_
  simp only [Act.put, List.setIfInBounds_toArray, List.set_cons_succ, List.set_cons_zero]
  refine wpStill_go (v := .int .i64 k) rfl rfl (stays_run fun w' h => ex_move rfl rfl) ?_
  simp only [Act.put, List.setIfInBounds_toArray, List.set_cons_succ, List.set_cons_zero]
  refine wpStill_go (v := .int .i64 y) rfl rfl (stays_call (f := 57) (args := #[.int .i64 N, .int .i64 j, .int .i64 k]) (fun w' h => by simp [go_sem]) (fun w' _ => calls_below (K2.out w'))) ?_
  simp only [Act.put, List.setIfInBounds_toArray, List.set_cons_succ, List.set_cons_zero]
  refine wpStill_go (v := .pointer (some ⟨b, off + y * 2, none⟩)) rfl rfl (stays_run fun w' h => ex_index rfl (by kernel_rfl) (by kernel_rfl) rfl rfl (hym)) ?_
  simp only [Act.put, List.setIfInBounds_toArray, List.set_cons_succ, List.set_cons_zero]
  refine wpStill_go (v := .agg #[.int .i64 b'.1, .int .i64 b'.2]) rfl rfl (stays_run fun w' h => ex_load rfl rfl (L2 w' h)) ?_
  simp only [Act.put, List.setIfInBounds_toArray, List.set_cons_succ, List.set_cons_zero]
  refine wpStill_go (v := .tuple #[.agg #[.int .i64 M.1.1, .int .i64 M.1.2], .bool M.2]) rfl rfl (stays_call (f := 58) (args := #[.agg #[.int .i64 a.1, .int .i64 a.2], .agg #[.int .i64 b'.1, .int .i64 b'.2]]) (fun w' h => by simp [go_sem]) (fun w' _ => by rw [← hM]; exact sGaussMul_any _ _ _ _ w')) ?_
  simp only [Act.put, List.setIfInBounds_toArray, List.set_cons_succ, List.set_cons_zero]
  refine wpStill_go (v := .tuple #[.agg #[.int .i64 M.1.1, .int .i64 M.1.2], .bool M.2]) rfl rfl (stays_run fun w' h => ex_move rfl rfl) ?_
  simp only [Act.put, List.setIfInBounds_toArray, List.set_cons_succ, List.set_cons_zero]
  refine wpStill_go (v := .agg #[.int .i64 M.1.1, .int .i64 M.1.2]) rfl rfl (stays_run fun w' h => by simp [go_sem]) ?_
  simp only [Act.put, List.setIfInBounds_toArray, List.set_cons_succ, List.set_cons_zero]
  refine wpStill_go (v := .bool M.2) rfl rfl (stays_run fun w' h => by simp [go_sem]) ?_
  simp only [Act.put, List.setIfInBounds_toArray, List.set_cons_succ, List.set_cons_zero]
  refine wpStill_skip rfl ?_
  refine wpStill_skip rfl ?_
  refine wpStill_skip rfl ?_
  refine wpStill_nil ?_
  repeat (refine wpMark_skip rfl ?_)
  refine wpMark_go rfl (fun m1 hm1 K hK => ?_)
  go_wp2_with fail
  have C1 := fun o => ((Below.refl _ _).drew.trans hm1).alloc hm1.size o
  refine hK _ _ (fun _ => C1 _) ?_
  clear hK
  refine wpMark_go rfl (fun m2 hm2 K hK => ?_)
  have e1 := (Row.new m1 33 [.int .i64 0, .int .i64 0]).kept hm2
  obtain ⟨c0, c1, z0, z1⟩ := e1.two
  go_wp2_with fail
  have E2 := (C1 (.cells #[.int .i64 0, .int .i64 0] 33)).trans (hm2.mono (C1 _).size)
  have E3 := (E2.setCell (p := ⟨m1.heap.size, 0, none⟩) hm1.size (.int .i64 M.1.1)).setCell (p := ⟨m1.heap.size, 1, none⟩) hm1.size (.int .i64 M.1.2)
  refine hK _ _ (fun _ => E3) ?_
  clear hK
  refine wpMark_go rfl (fun m3 hm3 K hK => ?_)
  have E4 := E3.trans (hm3.mono E3.size)
  go_wp2_with fail
  refine hK _ _ (fun _ => E4) (wpMark_nil fun m6 hm6 => ?_)
  simp only [onlyN, Exit.then]
  have E6 := E4.trans (hm6.mono E4.size)
  have r2 := (((e1.set_ 0 (.int .i64 M.1.1)).set_ 1 (.int .i64 M.1.2)).kept hm3).kept hm6
  have r1' := r1.kept E6
  have rc' := Rc'.out.kept E6
  have B6 := B3.trans (E6.mono B3.size)
  simp only [List.set_cons_zero, List.set_cons_succ] at r2
  clear E6 E4 E3 E2 hm6 hm3 hm2 hm1 C1 c0 c1 z0 z1 e1 hK r1 L1 L2 Rc' hr3
  cases hM2 : M.2
  · have ht : trip3 a b' c = ((0, 0), false) := by unfold trip3; rw [hM, hM2]; rfl
    obtain ⟨c0, c1, f0, f1⟩ := r1'.two
    have HM := Lib.hid hM; clear hM
    have HM2 := Lib.hid hM2; clear hM2
    have Ht := Lib.hid ht; clear ht
    clear r2 rc'
    go_wp2_with fail
    exact bodyPost_ret (v := .tuple #[.agg #[.int .i64 0, .int .i64 0], .bool false]) (by simp [results, Try.results21, go_sem, c0, c1]) rfl ⟨by rw [Ha.out, Hb'.out, Hc.out, Ht.out], (B6.setCell (p := ⟨w.heap.size, 0, none⟩) (Nat.le_refl _) _).setCell (p := ⟨w.heap.size, 1, none⟩) (Nat.le_refl _) _⟩
  · obtain ⟨R, hR⟩ : ∃ R, gMul M.1.1 M.1.2 c.1 (-c.2) = R := ⟨_, rfl⟩
    have ht : trip3 a b' c = R := by unfold trip3; rw [hM, hM2]; exact hR
    have HM := Lib.hid hM; clear hM
    have HM2 := Lib.hid hM2; clear hM2
    have HR := Lib.hid hR; clear hR
    have Ht := Lib.hid ht; clear ht
    obtain ⟨u0, u1, _, _⟩ := r2.two
    obtain ⟨v0, v1, _, _⟩ := rc'.two
    go_wp2_with fail
    refine (sGaussMul_any M.1.1 M.1.2 c.1 (-c.2) _).mono ?_
    rw [HR.out]
    rintro e n6 ⟨rfl, b6⟩
    obtain ⟨d0, d1, f0, f1⟩ := (r1'.kept b6).two
    have B7 := B6.trans (b6.mono B6.size)
    clear u0 u1 v0 v1 r1' r2 rc' b6
    go_wp2_with fail
    exact bodyPost_ret (v := .tuple #[.agg #[.int .i64 R.1.1, .int .i64 R.1.2], .bool R.2]) (by simp [results, Try.results21, go_sem, d0, d1]) rfl ⟨by rw [Ha.out, Hb'.out, Hc.out, Ht.out], (B7.setCell (p := ⟨w.heap.size, 0, none⟩) (Nat.le_refl _) _).setCell (p := ⟨w.heap.size, 1, none⟩) (Nat.le_refl _) _⟩

theorem sObserveTriple_any (n : Int) (A : Option Addr) (m cap : Nat) (gs : List (Int × Int)) (i j k : Int) (w : World) (hn : gs.length = m) (hm : m ≤ 1000000000) (hr : Rd w w.heap.size A (gs.flatMap pairCells)) :
    Calls Try.prog 21 #[.int .i64 n, .slice A m cap, .int .i64 i, .int .i64 j, .int .i64 k] w fun e w' => e = .returned (.tuple #[.agg #[.int .i64 (tripV n gs i j k).1.1, .int .i64 (tripV n gs i j k).1.2], .bool (tripV n gs i j k).2]) ∧ Below w.heap.size w w' := by
  cases h : tripOK n gs i j k
  · rw [tripV_no h]
    exact sObserveTriple_no n A m cap gs i j k w hn hm hr h
  · exact sObserveTriple_yes n A m cap gs i j k w hn hm hr h
end Go.Proofs.Ytklhjofhmcaflaa
