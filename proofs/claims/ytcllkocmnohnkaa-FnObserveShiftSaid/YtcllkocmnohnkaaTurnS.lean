/- 'spec.ObserveTurn' at every input. -/
import Derived.Test.YtcllkocmnohnkaaTurnI
namespace Go.Proofs.Ytcllkocmnohnkaa
open Go.RowKit

set_option maxRecDepth 100000 in
set_option maxHeartbeats 2000000 in
theorem l43Turn_any (n m capA capB : Nat) (h2 : 2 ≤ n) (h7 : n ≤ 7) (A B : Option Addr) (gs : List (Int × Int)) (q : List Int) (w : World)
    (hm : gs.length = m) (hmn : m = (pairsN n).length) (hm21 : m ≤ 21) (hv : allV gs = true) (hq : q.length = n) (hq3 : ∀ x ∈ q, 0 ≤ x ∧ x ≤ 3)
    (hr : Rd w w.heap.size A (gs.flatMap pairCells)) (hr2 : Rd w w.heap.size B (q.map (Value.int .i64))) :
    Calls Try.prog 111 #[.int .i64 n, .slice A m capA, .slice B n capB] w fun e w' =>
      ∃ v, e = .returned v ∧ w'.ownsRow w.heap.size 49 2 v m ((turnedOf gs q (pairsN n)).flatMap pairCells) ∧ Below w.heap.size w w' := by
  obtain ⟨i0, hi, hz0, hz1, hz2⟩ := info_parts gaussInfo
  have Hm := Lib.hid hm; clear hm
  have Hmn := Lib.hid hmn; clear hmn
  have Hv := Lib.hid hv; clear hv
  have Hq := Lib.hid hq; clear hq
  have Hq3 := Lib.hid hq3; clear hq3
  go_enter Try.func111, Try.ntmps111
  go_wp2_with fail
  go_loopw [7, 8] (fun v i wr => ∃ k : Nat, k ≤ n ∧ i = .int .i64 k ∧ wr.ownsRow w.heap.size 49 2 v (upTo n k).length ((turnedOf gs q (upTo n k)).flatMap pairCells) ∧ Below w.heap.size w wr) (fun _ i _ => n - (intOf i).toNat)
  case atStart =>
    refine ⟨0, by omega, rfl, ?_, (Below.refl _ _).alloc (Nat.le_refl _) _⟩
    exact (Row.new w 49 []).own (Nat.le_refl _) rfl (by decide)
  case round =>
    obtain ⟨i, hin, rfl, hrow, hbel⟩ := hrel
    by_cases hlt : i < n
    · go_wp2_with fail
      go_loopw [7, 9] (fun v j wr => ∃ k : Nat, i < k ∧ k ≤ n ∧ j = .int .i64 k ∧ wr.ownsRow w.heap.size 49 2 v (upTo n i ++ (rowOf n i).take (k - (i + 1))).length ((turnedOf gs q (upTo n i ++ (rowOf n i).take (k - (i + 1)))).flatMap pairCells) ∧ Below w.heap.size w wr) (fun _ j _ => n - (intOf j).toNat)
      case atStart =>
        refine ⟨i + 1, by omega, by omega, rfl, ?_, hbel⟩
        rw [Nat.sub_self, List.take_zero, List.append_nil]
        exact hrow
      case round =>
        obtain ⟨j, hij, hjn, rfl, hrow, hbel⟩ := hrel
        by_cases hlt2 : j < n
        · go_wp2_with fail
          refine (sBaseIndex_lt n i j _ (by omega) (by omega) (by omega)).mono ?_
          rintro e w1 ⟨rfl, rfl⟩
          have hlen : (upTo n i ++ (rowOf n i).take (j - (i + 1))).length < m := by
            have := upTo_len_bF n i j h7 hij hjn
            have h3 := bF_bd n i j (by omega) (by omega) (by omega)
            have h4 := bm_pairs n h2 h7
            rw [Hmn.out]; omega
          have hpos := upTo_len_bF n i j h7 hij hjn
          obtain ⟨p, hp⟩ : ∃ p, (upTo n i ++ (rowOf n i).take (j - (i + 1))).length = p := ⟨_, rfl⟩
          have Hp := Lib.hid hp
          rw [hp] at hlen hpos hrow
          rw [← hpos]
          clear hpos hp
          obtain ⟨gz, hgz⟩ : ∃ gz, gs[p]? = some gz := ⟨_, List.getElem?_eq_getElem (by rw [Hm.out]; exact hlen)⟩
          obtain ⟨b, off, rfl, hb, hc1, hc2⟩ := rd_pair (hr.below hbel) hgz
          have Hrow := Lib.hid hrow; clear hrow
          go_wp2_with fail
          have hg1 : q[i]? = some (q.getD i 0) := by rw [List.getD_eq_getElem?_getD, List.getElem?_eq_getElem (by rw [Hq.out]; omega)]; rfl
          have hg2 : q[j]? = some (q.getD j 0) := by rw [List.getD_eq_getElem?_getD, List.getElem?_eq_getElem (by rw [Hq.out]; omega)]; rfl
          obtain ⟨b2, off2, rfl, hb2, hd1⟩ := (hr2.below hbel) i _ (by rw [List.getElem?_map, hg1]; rfl)
          obtain ⟨_, _, e2, _, hd2⟩ := (hr2.below hbel) j _ (by rw [List.getElem?_map, hg2]; rfl)
          cases e2
          obtain ⟨hgz1, hgz2⟩ : GB gz.1 ∧ GB gz.2 := GB.gv (List.all_eq_true.1 Hv.out _ (List.mem_of_getElem? hgz))
          have hq1 := Hq3.out _ (List.mem_of_getElem? hg1)
          have hq2 := Hq3.out _ (List.mem_of_getElem? hg2)
          obtain ⟨d, hd⟩ : ∃ d, q.getD j 0 - q.getD i 0 = d := ⟨_, rfl⟩
          obtain ⟨W, hW⟩ : ∃ W, W = (wr.alloc (.cells #[.int .i64 gz.1, .int .i64 gz.2] 49)) := ⟨_, rfl⟩
          have hwW : Below wr.heap.size wr W := by rw [hW]; exact (Below.refl _ _).alloc (Nat.le_refl _) _
          have r10 : Row W wr.heap.size 49 [.int .i64 gz.1, .int .i64 gz.2] := by rw [hW]; exact Row.new wr _ _
          rw [← hW]
          have f3 : ∀ w', Below W.heap.size W w' → w'.cell? ⟨b2, off2 + i * 1, none⟩ = some (.int .i64 (q.getD i 0)) := fun w' h => by
            rw [Nat.mul_one]; exact (h.cell (p := ⟨b2, off2 + i, none⟩) (Nat.lt_of_lt_of_le hb2 (Nat.le_trans hbel.size hwW.size))).trans ((hwW.cell (p := ⟨b2, off2 + i, none⟩) (Nat.lt_of_lt_of_le hb2 hbel.size)).trans hd1)
          have f4 : ∀ w', Below W.heap.size W w' → w'.cell? ⟨b2, off2 + j * 1, none⟩ = some (.int .i64 (q.getD j 0)) := fun w' h => by
            rw [Nat.mul_one]; exact (h.cell (p := ⟨b2, off2 + j, none⟩) (Nat.lt_of_lt_of_le hb2 (Nat.le_trans hbel.size hwW.size))).trans ((hwW.cell (p := ⟨b2, off2 + j, none⟩) (Nat.lt_of_lt_of_le hb2 hbel.size)).trans hd2)
          refine wp_region_N [10, 11] [11] (by kernel_rfl) (by kernel_rfl) ?_
          refine wpStill_go (v := .slice (some ⟨b2, off2, none⟩) n capB) rfl rfl (stays_run fun w' h => ex_move rfl rfl) ?_
          simp only [Act.put, List.setIfInBounds_toArray, List.set_cons_succ, List.set_cons_zero]
          refine wpStill_go (v := .int .i64 j) rfl rfl (stays_run fun w' h => ex_move rfl rfl) ?_
          simp only [Act.put, List.setIfInBounds_toArray, List.set_cons_succ, List.set_cons_zero]
          refine wpStill_go (v := .pointer (some ⟨b2, off2 + j * 1, none⟩)) rfl rfl (stays_run fun w' h => ex_index rfl (by kernel_rfl) (by kernel_rfl) rfl rfl hlt2) ?_
          simp only [Act.put, List.setIfInBounds_toArray, List.set_cons_succ, List.set_cons_zero]
          refine wpStill_go (v := .int .i64 (q.getD j 0)) rfl rfl (stays_run fun w' h => ex_load rfl rfl (ld_one (by kernel_rfl) (f4 w' h))) ?_
          simp only [Act.put, List.setIfInBounds_toArray, List.set_cons_succ, List.set_cons_zero]
          refine wpStill_go (v := .slice (some ⟨b2, off2, none⟩) n capB) rfl rfl (stays_run fun w' h => ex_move rfl rfl) ?_
          simp only [Act.put, List.setIfInBounds_toArray, List.set_cons_succ, List.set_cons_zero]
          refine wpStill_go (v := .int .i64 i) rfl rfl (stays_run fun w' h => ex_move rfl rfl) ?_
          simp only [Act.put, List.setIfInBounds_toArray, List.set_cons_succ, List.set_cons_zero]
          refine wpStill_go (v := .pointer (some ⟨b2, off2 + i * 1, none⟩)) rfl rfl (stays_run fun w' h => ex_index rfl (by kernel_rfl) (by kernel_rfl) rfl rfl hlt) ?_
          simp only [Act.put, List.setIfInBounds_toArray, List.set_cons_succ, List.set_cons_zero]
          refine wpStill_go (v := .int .i64 (q.getD i 0)) rfl rfl (stays_run fun w' h => ex_load rfl rfl (ld_one (by kernel_rfl) (f3 w' h))) ?_
          simp only [Act.put, List.setIfInBounds_toArray, List.set_cons_succ, List.set_cons_zero]
          refine wpStill_go (v := .int .i64 d) rfl rfl (stays_run fun w' h => by simp [go_sem]; simp only [List.getD_eq_getElem?_getD] at hd hq1 hq2; rw [hd, IntKind.wrap_i64]; omega) ?_
          simp only [Act.put, List.setIfInBounds_toArray, List.set_cons_succ, List.set_cons_zero]
          refine wpStill_go (v := .agg #[.int .i64 (unit d).1, .int .i64 (unit d).2]) rfl rfl (stays_call (f := 100) (args := #[.int .i64 d]) (fun w' h => by simp [go_sem]) (fun w' _ => sGaussUnit_any d w')) ?_
          simp only [Act.put, List.setIfInBounds_toArray, List.set_cons_succ, List.set_cons_zero]
          refine wpStill_skip rfl (wpStill_skip rfl (wpStill_nil ?_))
          repeat (refine wpMark_skip rfl ?_)
          refine wpMark_go rfl (fun w1 h1 K hK => ?_)
          go_wp2_with fail
          refine hK _ _ (fun _ => ((Below.refl _ _).drew.trans h1).alloc h1.size _) ?_
          clear hK
          refine wpMark_go rfl (fun w2 h2w K hK => ?_)
          have e1 := (Row.new w1 49 [.int .i64 0, .int .i64 0]).kept h2w
          have c0 : w2.cell? ⟨w1.heap.size, 0, none⟩ = some (.int .i64 0) := e1.cell 0
          have c1 : w2.cell? ⟨w1.heap.size, 1, none⟩ = some (.int .i64 0) := e1.cell 1
          have z0 : w2.frozen? ⟨w1.heap.size, 0, none⟩ = false := e1.frozen 0
          have z1 : w2.frozen? ⟨w1.heap.size, 1, none⟩ = false := e1.frozen 1
          go_wp2_with fail
          refine hK _ _ (fun h => absurd h (by decide)) (wpMark_nil fun w6 h6 => ?_)
          simp only [onlyN, Exit.then]
          have hE2 : Below W.heap.size W w2 := (((Below.refl _ _).drew.trans h1).alloc h1.size _).trans (h2w.mono (((Below.refl _ _).drew.trans h1).alloc h1.size _).size)
          have hE5 := (hE2.setCell (p := ⟨w1.heap.size, 0, none⟩) h1.size (.int .i64 (unit d).1)).setCell (p := ⟨w1.heap.size, 1, none⟩) h1.size (.int .i64 (unit d).2)
          have hE6 : Below W.heap.size W w6 := hE5.trans (h6.mono hE5.size)
          have r10' := r10.below hE6 r10.lt
          have r11' : Row w6 w1.heap.size 49 [.int .i64 (unit d).1, .int .i64 (unit d).2] := ((e1.set_ 0 _).set_ 1 _).kept h6
          have hrow6 := own_ext (own_ext Hrow.out hwW) hE6
          have hbel6 : Below w.heap.size w w6 := hbel.trans ((hwW.mono hbel.size).trans (hE6.mono (Nat.le_trans hbel.size hwW.size)))
          have k0 : w6.cell? ⟨wr.heap.size, 0, none⟩ = some (.int .i64 gz.1) := r10'.cell 0
          have k1 : w6.cell? ⟨wr.heap.size, 1, none⟩ = some (.int .i64 gz.2) := r10'.cell 1
          have k2 : w6.cell? ⟨w1.heap.size, 0, none⟩ = some (.int .i64 (unit d).1) := r11'.cell 0
          have k3 : w6.cell? ⟨w1.heap.size, 1, none⟩ = some (.int .i64 (unit d).2) := r11'.cell 1
          obtain ⟨u1, u2⟩ := unit_bd d
          have m1 := mul_bd gz.1 (unit d).1 _ _ hgz1 u1
          have m2 := mul_bd gz.2 (unit d).2 _ _ hgz2 u2
          have m3 := mul_bd gz.1 (unit d).2 _ _ hgz1 u2
          have m4 := mul_bd gz.2 (unit d).1 _ _ hgz2 u1
          simp only [Int.reduceMul, Int.reduceNeg] at m1 m2 m3 m4
          have hn := Row.new w6 49 [.int .i64 (turnAt gz d).1, .int .i64 (turnAt gz d).2]
          have Hd := Lib.hid hd
          clear hd c0 c1 z0 z1 f3 f4 hE5 hc1 hc2 hd1 hd2 hq1 hq2 hW
          go_wp2_with (at_builtin; refine wpList_append_own _ rfl _ _ 38 rfl w.heap.size 49 i0 (.agg #[.int .i64 0, .int .i64 0]) 2 16 (by kernel_rfl) hi hz0 hz1 hz2 rfl (by decide) _ p _ rfl (hrow6.alloc _) ⟨w6.heap.size, 0, none⟩ 1 1 [.int .i64 (turnAt gz d).1, .int .i64 (turnAt gz d).2] rfl rfl (fun j u hj => by rw [← hj, ← hn.cell j]; exact congrArg _ (addr_add _ _)) (by simp [Value.oneCell']) (by unfold maxLen; omega) (by omega) (by have := hbel6.size; simp; omega) ?_; intro v' w7 hown' hgrow _; obtain ⟨g', cap', rfl⟩ := ownsRow_succ hown')
          simp only [Act.put, List.setIfInBounds_toArray, List.set_cons_succ, List.set_cons_zero]
          go_wp2_with fail
          go_roundw
          case measure => simp [intOf]; omega
          case rel =>
            refine ⟨j + 1, by omega, by omega, by go_num, ?_, (hbel6.alloc hbel6.size _).grown hgrow (by have := hbel6.size; simp; omega) fun k ek => (own_lt hrow6 ek).1⟩
            rw [rowOf_take n i j hij hlt2, ← List.append_assoc, turnedOf_snoc, List.flatMap_append, List.length_append, List.length_singleton, Hp.out, show gs.getD p (0, 0) = gz from by rw [List.getD_eq_getElem?_getD, hgz]; rfl, Hd.out]
            exact hown'
        · obtain rfl : j = n := by omega
          have Hrow := Lib.hid hrow; clear hrow
          go_wp2_with fail
          go_roundw
          case measure => simp [intOf]; omega
          case rel =>
            refine ⟨i + 1, by omega, by go_num, ?_, hbel⟩
            rw [upTo_succ, ← rowOf_all j i]
            exact Hrow.out
    · obtain rfl : i = n := by omega
      have Hrow := Lib.hid hrow; clear hrow
      go_wp2_with fail
      refine bodyPost_ret (results_tmp rfl _ _ _) rfl ⟨_, rfl, ?_, hbel⟩
      rw [Hmn.out]
      exact Hrow.out
end Go.Proofs.Ytcllkocmnohnkaa
