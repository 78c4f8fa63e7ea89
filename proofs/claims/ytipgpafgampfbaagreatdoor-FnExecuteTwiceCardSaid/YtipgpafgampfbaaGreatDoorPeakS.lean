/- 'spec.l24Peak': the first place of the greatest number. -/
import Derived.Test.YtipgpafgampfbaaGreatDoorB5
namespace Go.Proofs.YtipgpafgampfbaaGreatDoor
open Go.RowKit

theorem idx_first (x : Int) : ∀ (l : List Int) (j : Nat), l[j]? = some x → l.idxOf x ≤ j
  | [], j, h => by simp at h
  | a :: l, j, h => by
    rw [List.idxOf_cons]
    cases j with
    | zero => simp at h; subst h; simp
    | succ j =>
      have ih := idx_first x l j (by simpa using h)
      cases hb : (a == x) <;> simp <;> omega
theorem peak_of {s : List Int} {j : Nat} (hj : j < s.length) (h1 : ∀ i, i < s.length → s.getD i 0 ≤ s.getD j 0) (h2 : ∀ i, i < j → s.getD i 0 < s.getD j 0) : peakI s = j := by
  have h0 : 0 < s.length := by omega
  have hp := peakI_lt h0
  have hg := peakI_get h0
  have hge : s.getD j 0 ≤ maxL s := maxL_ge (getD_mem hj)
  have hle : maxL s ≤ s.getD j 0 := by rw [← hg]; exact h1 _ hp
  have e : maxL s = s.getD j 0 := by omega
  have hf : peakI s ≤ j := by
    unfold peakI
    refine idx_first _ s j ?_
    rw [e, List.getD_eq_getElem?_getD, List.getElem?_eq_getElem hj]; rfl
  rcases Nat.lt_or_eq_of_le hf with h | h
  · have := h2 _ h
    rw [hg, e] at this
    omega
  · exact h

set_option maxRecDepth 100000 in
set_option maxHeartbeats 1000000 in
theorem l24Peak_any (A : Option Addr) (n cap : Nat) (s : List Int) (w : World) (hn : s.length = n) (h0 : 0 < n) (hb : n ≤ 1000) (hr : Rd w w.heap.size A (s.map (Value.int .i64))) :
    Calls Tryz.prog 200 #[.slice A n cap] w fun e w' => e = .returned (.int .i64 (peakI s : Nat)) ∧ Below w.heap.size w w' := by
  have Hn := Lib.hid hn; clear hn
  go_enter Tryz.func200, Tryz.ntmps200
  go_wp2_with fail
  go_loopw [3, 4] (fun p i wr => ∃ j k : Nat, j < n ∧ k ≤ n ∧ p = .int .i64 j ∧ i = .int .i64 k ∧ (∀ i, i < k → s.getD i 0 ≤ s.getD j 0) ∧ (∀ i, i < j → s.getD i 0 < s.getD j 0) ∧ Below w.heap.size w wr) (fun _ i _ => n - (intOf i).toNat)
  case atStart => exact ⟨0, 0, h0, by omega, rfl, rfl, fun i h => by omega, fun i h => by omega, Below.refl _ _⟩
  case round =>
    obtain ⟨j, k, hj, hk, rfl, rfl, q1, q2, hbel⟩ := hrel
    have hr' := hr.ext hbel
    by_cases hlt : k < n
    · obtain ⟨b, o, rfl, hbb⟩ := rd_some hr' (by rw [List.length_map, Hn.out]; exact h0)
      have c1 := rd_cells hr' k _ (ints_at' (by rw [Hn.out]; exact hlt))
      have c2 := rd_cells hr' j _ (ints_at' (by rw [Hn.out]; exact hj))
      obtain ⟨u, hu⟩ : ∃ u, s.getD k 0 = u := ⟨_, rfl⟩
      obtain ⟨v, hv⟩ : ∃ v, s.getD j 0 = v := ⟨_, rfl⟩
      rw [hu] at c1
      rw [hv] at c2
      have f1 : ∀ w', Below wr.heap.size wr w' → w'.cell? ⟨b, o + k * 1, none⟩ = some (.int .i64 u) := fun w' h => by rw [Nat.mul_one]; exact (h.cell (p := ⟨b, o + k, none⟩) hbb).trans c1
      have f2 : ∀ w', Below wr.heap.size wr w' → w'.cell? ⟨b, o + j * 1, none⟩ = some (.int .i64 v) := fun w' h => by rw [Nat.mul_one]; exact (h.cell (p := ⟨b, o + j, none⟩) hbb).trans c2
      have Q1 := Lib.hid q1
      have Q2 := Lib.hid q2
      clear q1 q2
      have Hu := Lib.hid hu; clear hu
      have Hv := Lib.hid hv; clear hv
      go_wp2_with fail
      refine wp_region_N [] [] (by kernel_rfl) (by kernel_rfl) ?_
      refine wpStill_go (v := .slice (some ⟨b, o, none⟩) n cap) rfl rfl (stays_run fun w' h => ex_move rfl rfl) ?_
      simp only [Act.put, List.setIfInBounds_toArray, List.set_cons_succ, List.set_cons_zero]
      refine wpStill_go (v := .int .i64 k) rfl rfl (stays_run fun w' h => ex_move rfl rfl) ?_
      simp only [Act.put, List.setIfInBounds_toArray, List.set_cons_succ, List.set_cons_zero]
      refine wpStill_go (v := .pointer (some ⟨b, o + k * 1, none⟩)) rfl rfl (stays_run fun w' h => ex_index rfl (by kernel_rfl) (by kernel_rfl) rfl rfl (hlt)) ?_
      simp only [Act.put, List.setIfInBounds_toArray, List.set_cons_succ, List.set_cons_zero]
      refine wpStill_go (v := .int .i64 u) rfl rfl (stays_run fun w' h => ex_load rfl rfl (ld_one (by kernel_rfl) (f1 w' h))) ?_
      simp only [Act.put, List.setIfInBounds_toArray, List.set_cons_succ, List.set_cons_zero]
      refine wpStill_go (v := .slice (some ⟨b, o, none⟩) n cap) rfl rfl (stays_run fun w' h => ex_move rfl rfl) ?_
      simp only [Act.put, List.setIfInBounds_toArray, List.set_cons_succ, List.set_cons_zero]
      refine wpStill_go (v := .int .i64 j) rfl rfl (stays_run fun w' h => ex_move rfl rfl) ?_
      simp only [Act.put, List.setIfInBounds_toArray, List.set_cons_succ, List.set_cons_zero]
      refine wpStill_go (v := .pointer (some ⟨b, o + j * 1, none⟩)) rfl rfl (stays_run fun w' h => ex_index rfl (by kernel_rfl) (by kernel_rfl) rfl rfl (hj)) ?_
      simp only [Act.put, List.setIfInBounds_toArray, List.set_cons_succ, List.set_cons_zero]
      refine wpStill_go (v := .int .i64 v) rfl rfl (stays_run fun w' h => ex_load rfl rfl (ld_one (by kernel_rfl) (f2 w' h))) ?_
      simp only [Act.put, List.setIfInBounds_toArray, List.set_cons_succ, List.set_cons_zero]
      refine wpStill_go (v := .bool (decide (v < u))) rfl rfl (stays_run fun w' h => by simp [go_sem]) ?_
      simp only [Act.put, List.setIfInBounds_toArray, List.set_cons_succ, List.set_cons_zero]
      refine wpStill_nil ?_
      repeat (refine wpMark_skip rfl ?_)
      refine wpMark_nil fun w5 h5 => ?_
      simp only [onlyN]
      have B5 := hbel.trans (((Below.refl _ wr).drew.trans h5).mono hbel.size)
      clear f1 f2 h5 c1 c2
      by_cases hvu : v < u
      · rw [decide_eq_true hvu]
        go_wp2_with fail
        go_roundw
        case measure => simp [intOf]; omega
        case rel =>
          refine ⟨k, k + 1, hlt, by omega, rfl, by go_num, fun i hi => ?_, fun i hi => ?_, B5⟩
          · rcases Nat.lt_succ_iff_lt_or_eq.1 hi with h | rfl
            · have := Q1.out i h; rw [Hv.out] at this; rw [Hu.out]; omega
            · exact Int.le_refl _
          · have := Q1.out i hi; rw [Hv.out] at this; rw [Hu.out]; omega
      · rw [decide_eq_false hvu]
        go_wp2_with fail
        go_roundw
        case measure => simp [intOf]; omega
        case rel =>
          refine ⟨j, k + 1, hj, by omega, rfl, by go_num, fun i hi => ?_, Q2.out, B5⟩
          rcases Nat.lt_succ_iff_lt_or_eq.1 hi with h | rfl
          · exact Q1.out i h
          · rw [Hu.out, Hv.out]; omega
    · obtain rfl : k = n := by omega
      have e := peak_of (s := s) (j := j) (by rw [Hn.out]; exact hj) (by rw [Hn.out]; exact q1) q2
      clear q1 q2
      have E := Lib.hid e; clear e
      go_wp2_with fail
      go_ret
      exact ⟨by rw [E.out]; rfl, hbel⟩
end Go.Proofs.YtipgpafgampfbaaGreatDoor
