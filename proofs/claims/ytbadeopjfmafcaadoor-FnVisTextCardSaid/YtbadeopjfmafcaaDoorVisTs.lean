/- Visibilities' text: the reference's VisText. -/
import Derived.Test.YtbadeopjfmafcaaDoorVisV
import Derived.Test.YtbadeopjfmafcaaDoorArrS
import Derived.Test.YtbadeopjfmafcaaDoorStr
namespace Go.Proofs.YtbadeopjfmafcaaDoor
open Go.RowKit

theorem app_eq {a b c : List UInt8} (h : a ++ b = c) : (ByteArray.mk a.toArray ++ ByteArray.mk b.toArray : ByteArray) = ⟨c.toArray⟩ := by rw [str_app, h]

theorem visB_len {vs : List (Int × Int)} (h : ∀ g ∈ vs, visOk g = true) (n k : Nat) (hn : n ≤ 7) (hk : k ≤ vs.length) (hp : vs.length ≤ (pairsN n).length) : (visB n vs k).length ≤ 100 * k := by
  induction k with
  | zero => exact Nat.le_refl _
  | succ k ih =>
    have ih := ih (by omega)
    rw [visB_succ, List.length_append, List.length_append]
    have hg := h _ (getD_mem (l := vs) (k := k) (d := (0, 0)) (by omega))
    obtain ⟨h1, h2⟩ := visOk_iff.1 hg
    obtain ⟨p1, p2⟩ := mem_pairsN (getD_mem (l := pairsN n) (k := k) (d := (0, 0)) (by omega))
    unfold visLine
    have e1 := itoa_short (n := ((((pairsN n).getD k (0, 0)).1 : Nat) : Int)) (by omega) (by omega)
    have e2 := itoa_short (n := ((((pairsN n).getD k (0, 0)).2 : Nat) : Int)) (by omega) (by omega)
    have e3 := itoa_short (n := (vs.getD k (0, 0)).1) (by omega) (by omega)
    have e4 := itoa_short (n := (vs.getD k (0, 0)).2) (by omega) (by omega)
    simp only [List.length_append, List.length_cons, List.length_nil]
    omega

set_option maxRecDepth 100000 in
set_option maxHeartbeats 2000000 in
theorem sVisText_yes (n : Nat) (A : Option Addr) (m cap : Nat) (vs : List (Int × Int)) (w : World) (hv : visV n vs = true) (hn : vs.length = m) (hr : Rd w w.heap.size A (vs.flatMap pairCells)) :
    Calls Tryd.prog 20 #[.int .i64 n, .slice A m cap] w fun e w' => e = .returned (.string ⟨(visB n vs m).toArray⟩) ∧ Below w.heap.size w w' := by
  obtain ⟨v1, v2, v3⟩ := visV_iff.1 hv
  have hpl := bm_pairs n (by omega) (by omega)
  have hm21 : m ≤ 21 := by have := bm_le n; omega
  have hmp : m = (pairsN n).length := by omega
  have Hn := Lib.hid hn; clear hn
  have Hv := Lib.hid hv; clear hv
  have V2 := Lib.hid v2; clear v2
  have Hpl := Lib.hid hpl; clear hpl
  have Hmp := Lib.hid hmp; clear hmp
  have V3 := Lib.hid v3; clear v3
  go_enter Tryd.func20, Tryd.ntmps20
  go_wp2_with fail
  go_loopw [5, 6] (fun s0 i wr => ∃ k : Nat, k ≤ m ∧ i = .int .i64 k ∧ s0 = .string ⟨(visB n vs k).toArray⟩ ∧ Below w.heap.size w wr) (fun _ i _ => m - (intOf i).toNat)
  case atStart => exact ⟨0, by omega, rfl, rfl, Below.refl _ _⟩
  case round =>
    obtain ⟨k, hk, rfl, rfl, hbel⟩ := hrel
    have hr' := hr.below hbel
    have hrw := hr'.more hbel.size
    have Hbel := Lib.hid hbel; clear hbel
    by_cases hlt : k < m
    · go_wp2_with fail
      refine (sVisValid_any n _ _ _ vs _ Hn.out (by omega) hrw).mono ?_
      rintro e w' ⟨rfl, rfl⟩
      rw [Hv.out]
      go_wp2_with fail
      refine (sBasePair_any n k _ (by omega) (by omega) (by rw [← Hmp.out]; exact hlt)).mono ?_
      rintro e w' ⟨rfl, rfl⟩
      have hg : vs[k]? = some (vs.getD k (0, 0)) := getD_of (by rw [Hn.out]; exact hlt)
      obtain ⟨b, off, rfl, hb, hc1, hc2⟩ := rd_pair hr' hg
      have hok := V3.out _ (List.mem_of_getElem? hg)
      have hS := visB_succ n vs k
      have hSl := visB_len V3.out n k (by omega) (by rw [Hn.out]; exact hk) (by rw [Hn.out, Hmp.out]; exact Nat.le_refl _)
      have hpp := pairAt_lt (n := n) (k := k) (by rw [← Hmp.out]; exact hlt)
      have hpq : (pairsN n).getD k (0, 0) = pairAt n k := rfl
      rw [hpq] at hS
      obtain ⟨I, J, hIJ⟩ : ∃ I J, pairAt n k = (I, J) := ⟨_, _, rfl⟩
      obtain ⟨a, p, hap⟩ : ∃ a p, vs.getD k (0, 0) = (a, p) := ⟨_, _, rfl⟩
      rw [hIJ, hap] at hS
      rw [hIJ] at hpp ⊢
      rw [hap] at hc1 hc2 hok
      obtain ⟨⟨a1, a2⟩, p1, p2⟩ := visOk_iff.1 hok
      dsimp only at hpp hc1 hc2 a1 a2 p1 p2 ⊢
      clear hg hok hIJ hap hpq
      have HS := Lib.hid hS; clear hS
      go_wp2_with fail
      obtain ⟨S0, hS0⟩ : ∃ S, visB n vs k = S := ⟨_, rfl⟩
      have l0 : S0.length ≤ 3000 := by rw [← hS0]; first | omega | simp
      obtain ⟨si, hsi⟩ : ∃ s, Lib.itoa (I : Int) = s := ⟨_, rfl⟩
      obtain ⟨sj, hsj⟩ : ∃ s, Lib.itoa (J : Int) = s := ⟨_, rfl⟩
      obtain ⟨sa, hsa⟩ : ∃ s, Lib.itoa a = s := ⟨_, rfl⟩
      obtain ⟨sp, hsp⟩ : ∃ s, Lib.itoa p = s := ⟨_, rfl⟩
      have li : si.length ≤ 21 := by rw [← hsi]; exact itoa_short (by omega) (by omega)
      have lj : sj.length ≤ 21 := by rw [← hsj]; exact itoa_short (by omega) (by omega)
      have la : sa.length ≤ 21 := by rw [← hsa]; exact itoa_short (by omega) (by omega)
      have lp : sp.length ≤ 21 := by rw [← hsp]; exact itoa_short (by omega) (by omega)
      obtain ⟨L1, h1⟩ : ∃ L, S0 ++ si = L := ⟨_, rfl⟩
      obtain ⟨L2, h2⟩ : ∃ L, L1 ++ [45] = L := ⟨_, rfl⟩
      obtain ⟨L3, h3⟩ : ∃ L, L2 ++ sj = L := ⟨_, rfl⟩
      obtain ⟨L4, h4⟩ : ∃ L, L3 ++ [32] = L := ⟨_, rfl⟩
      obtain ⟨L5, h5⟩ : ∃ L, L4 ++ sa = L := ⟨_, rfl⟩
      obtain ⟨L6, h6⟩ : ∃ L, L5 ++ [32] = L := ⟨_, rfl⟩
      obtain ⟨L7, h7⟩ : ∃ L, L6 ++ sp = L := ⟨_, rfl⟩
      obtain ⟨L8, h8⟩ : ∃ L, L7 ++ [10] = L := ⟨_, rfl⟩
      have l1 : L1.length ≤ 5000 := by rw [← h1, List.length_append]; omega
      have l2 : L2.length ≤ 5001 := by rw [← h2, List.length_append]; simp only [List.length_cons, List.length_nil]; omega
      have l3 : L3.length ≤ 6000 := by rw [← h3, List.length_append]; omega
      have l4 : L4.length ≤ 6001 := by rw [← h4, List.length_append]; simp only [List.length_cons, List.length_nil]; omega
      have l5 : L5.length ≤ 7000 := by rw [← h5, List.length_append]; omega
      have l6 : L6.length ≤ 7001 := by rw [← h6, List.length_append]; simp only [List.length_cons, List.length_nil]; omega
      have l7 : L7.length ≤ 8000 := by rw [← h7, List.length_append]; omega
      have l8 : L8.length ≤ 8001 := by rw [← h8, List.length_append]; simp only [List.length_cons, List.length_nil]; omega
      have e1 := app_eq h1
      have e2 : (ByteArray.mk L1.toArray ++ ByteArray.mk #[45] : ByteArray) = ⟨L2.toArray⟩ := app_eq h2
      have e3 := app_eq h3
      have e4 : (ByteArray.mk L3.toArray ++ ByteArray.mk #[32] : ByteArray) = ⟨L4.toArray⟩ := app_eq h4
      have e5 := app_eq h5
      have e6 : (ByteArray.mk L5.toArray ++ ByteArray.mk #[32] : ByteArray) = ⟨L6.toArray⟩ := app_eq h6
      have e7 := app_eq h7
      have e8 : (ByteArray.mk L7.toArray ++ ByteArray.mk #[10] : ByteArray) = ⟨L8.toArray⟩ := app_eq h8
      have hL8 : L8 = S0 ++ (visLine (I, J) (a, p) ++ [10]) := by
        rw [← h8, ← h7, ← h6, ← h5, ← h4, ← h3, ← h2, ← h1, ← hsi, ← hsj, ← hsa, ← hsp]
        simp [visLine]
      have b1 : ¬ 9223372036854775807 < S0.length + si.length := by omega
      have b2 : ¬ 9223372036854775807 < L1.length + 1 := by omega
      have b3 : ¬ 9223372036854775807 < L2.length + sj.length := by omega
      have b4 : ¬ 9223372036854775807 < L3.length + 1 := by omega
      have b5 : ¬ 9223372036854775807 < L4.length + sa.length := by omega
      have b6 : ¬ 9223372036854775807 < L5.length + 1 := by omega
      have b7 : ¬ 9223372036854775807 < L6.length + sp.length := by omega
      have b8 : ¬ 9223372036854775807 < L7.length + 1 := by omega
      have H1 := Lib.hid h1; clear h1
      have H2 := Lib.hid h2; clear h2
      have H3 := Lib.hid h3; clear h3
      have H4 := Lib.hid h4; clear h4
      have H5 := Lib.hid h5; clear h5
      have H6 := Lib.hid h6; clear h6
      have H7 := Lib.hid h7; clear h7
      have H8 := Lib.hid h8; clear h8
      have HL8 := Lib.hid hL8; clear hL8
      rw [hS0]
      have f1 : ∀ w', Below wr.heap.size wr w' → w'.cell? ⟨b, off + k * 2, none⟩ = some (.int .i64 a) := fun w' h => (h.cell (p := ⟨b, off + k * 2, none⟩) (Nat.lt_of_lt_of_le hb Hbel.out.size)).trans hc1
      have f2 : ∀ w', Below wr.heap.size wr w' → w'.cell? ⟨b, off + k * 2 + 1, none⟩ = some (.int .i64 p) := fun w' h => (h.cell (p := ⟨b, off + k * 2 + 1, none⟩) (Nat.lt_of_lt_of_le hb Hbel.out.size)).trans hc2
      have cD : ∀ x : Int, -9223372036854775808 ≤ x ∧ x ≤ 9223372036854775807 → ∀ s, Lib.itoa x = s → ∀ w', Calls Tryd.prog 41 #[.int .i64 x] w' fun e w'' => e = .returned (.string ⟨s.toArray⟩) ∧ Below w'.heap.size w' w'' := fun x hx s hs w' => by
        subst hs; exact sDec_any x hx w'
      refine wp_region_N [] [] (by kernel_rfl) (by kernel_rfl) ?_
      refine wpStill_go (v := .string ⟨S0.toArray⟩) rfl rfl (stays_run fun w' h => ex_move rfl rfl) ?_
      simp only [Act.put, List.setIfInBounds_toArray, List.set_cons_succ, List.set_cons_zero]
      refine wpStill_go (v := .int .i64 I) rfl rfl (stays_run fun w' h => ex_move rfl rfl) ?_
      simp only [Act.put, List.setIfInBounds_toArray, List.set_cons_succ, List.set_cons_zero]
      refine wpStill_go (v := .string ⟨si.toArray⟩) rfl rfl (stays_call (f := 41) (args := #[.int .i64 I]) (fun w' h => by simp [go_sem]) (fun w' _ => cD I (by omega) si hsi w')) ?_
      simp only [Act.put, List.setIfInBounds_toArray, List.set_cons_succ, List.set_cons_zero]
      refine wpStill_go (v := .string ⟨L1.toArray⟩) rfl rfl (stays_run fun w' h => by simp [go_sem, e1, b1]) ?_
      simp only [Act.put, List.setIfInBounds_toArray, List.set_cons_succ, List.set_cons_zero]
      refine wpStill_go (v := .string ⟨L2.toArray⟩) rfl rfl (stays_run fun w' h => by simp [go_sem, e2, b2]) ?_
      simp only [Act.put, List.setIfInBounds_toArray, List.set_cons_succ, List.set_cons_zero]
      refine wpStill_go (v := .int .i64 J) rfl rfl (stays_run fun w' h => ex_move rfl rfl) ?_
      simp only [Act.put, List.setIfInBounds_toArray, List.set_cons_succ, List.set_cons_zero]
      refine wpStill_go (v := .string ⟨sj.toArray⟩) rfl rfl (stays_call (f := 41) (args := #[.int .i64 J]) (fun w' h => by simp [go_sem]) (fun w' _ => cD J (by omega) sj hsj w')) ?_
      simp only [Act.put, List.setIfInBounds_toArray, List.set_cons_succ, List.set_cons_zero]
      refine wpStill_go (v := .string ⟨L3.toArray⟩) rfl rfl (stays_run fun w' h => by simp [go_sem, e3, b3]) ?_
      simp only [Act.put, List.setIfInBounds_toArray, List.set_cons_succ, List.set_cons_zero]
      refine wpStill_go (v := .string ⟨L4.toArray⟩) rfl rfl (stays_run fun w' h => by simp [go_sem, e4, b4]) ?_
      simp only [Act.put, List.setIfInBounds_toArray, List.set_cons_succ, List.set_cons_zero]
      refine wpStill_go (v := .slice (some ⟨b, off, none⟩) m cap) rfl rfl (stays_run fun w' h => ex_move rfl rfl) ?_
      simp only [Act.put, List.setIfInBounds_toArray, List.set_cons_succ, List.set_cons_zero]
      refine wpStill_go (v := .int .i64 k) rfl rfl (stays_run fun w' h => ex_move rfl rfl) ?_
      simp only [Act.put, List.setIfInBounds_toArray, List.set_cons_succ, List.set_cons_zero]
      refine wpStill_go (v := .pointer (some ⟨b, off + k * 2, none⟩)) rfl rfl (stays_run fun w' h => ex_index rfl (by kernel_rfl) (by kernel_rfl) rfl rfl (hlt)) ?_
      simp only [Act.put, List.setIfInBounds_toArray, List.set_cons_succ, List.set_cons_zero]
      refine wpStill_go (v := .pointer (some ⟨b, off + k * 2, none⟩)) rfl rfl (stays_run fun w' h => by simp [go_sem]) ?_
      simp only [Act.put, List.setIfInBounds_toArray, List.set_cons_succ, List.set_cons_zero]
      refine wpStill_go (v := .int .i64 a) rfl rfl (stays_run fun w' h => ex_load rfl rfl (ld_one (by kernel_rfl) (f1 w' h))) ?_
      simp only [Act.put, List.setIfInBounds_toArray, List.set_cons_succ, List.set_cons_zero]
      refine wpStill_go (v := .string ⟨sa.toArray⟩) rfl rfl (stays_call (f := 41) (args := #[.int .i64 a]) (fun w' h => by simp [go_sem]) (fun w' _ => cD a (by omega) sa hsa w')) ?_
      simp only [Act.put, List.setIfInBounds_toArray, List.set_cons_succ, List.set_cons_zero]
      refine wpStill_go (v := .string ⟨L5.toArray⟩) rfl rfl (stays_run fun w' h => by simp [go_sem, e5, b5]) ?_
      simp only [Act.put, List.setIfInBounds_toArray, List.set_cons_succ, List.set_cons_zero]
      refine wpStill_go (v := .string ⟨L6.toArray⟩) rfl rfl (stays_run fun w' h => by simp [go_sem, e6, b6]) ?_
      simp only [Act.put, List.setIfInBounds_toArray, List.set_cons_succ, List.set_cons_zero]
      refine wpStill_go (v := .slice (some ⟨b, off, none⟩) m cap) rfl rfl (stays_run fun w' h => ex_move rfl rfl) ?_
      simp only [Act.put, List.setIfInBounds_toArray, List.set_cons_succ, List.set_cons_zero]
      refine wpStill_go (v := .int .i64 k) rfl rfl (stays_run fun w' h => ex_move rfl rfl) ?_
      simp only [Act.put, List.setIfInBounds_toArray, List.set_cons_succ, List.set_cons_zero]
      refine wpStill_go (v := .pointer (some ⟨b, off + k * 2, none⟩)) rfl rfl (stays_run fun w' h => ex_index rfl (by kernel_rfl) (by kernel_rfl) rfl rfl (hlt)) ?_
      simp only [Act.put, List.setIfInBounds_toArray, List.set_cons_succ, List.set_cons_zero]
      refine wpStill_go (v := .pointer (some ⟨b, off + k * 2 + 1, none⟩)) rfl rfl (stays_run fun w' h => by simp [go_sem]) ?_
      simp only [Act.put, List.setIfInBounds_toArray, List.set_cons_succ, List.set_cons_zero]
      refine wpStill_go (v := .int .i64 p) rfl rfl (stays_run fun w' h => ex_load rfl rfl (ld_one (by kernel_rfl) (f2 w' h))) ?_
      simp only [Act.put, List.setIfInBounds_toArray, List.set_cons_succ, List.set_cons_zero]
      refine wpStill_go (v := .string ⟨sp.toArray⟩) rfl rfl (stays_call (f := 41) (args := #[.int .i64 p]) (fun w' h => by simp [go_sem]) (fun w' _ => cD p (by omega) sp hsp w')) ?_
      simp only [Act.put, List.setIfInBounds_toArray, List.set_cons_succ, List.set_cons_zero]
      refine wpStill_go (v := .string ⟨L7.toArray⟩) rfl rfl (stays_run fun w' h => by simp [go_sem, e7, b7]) ?_
      simp only [Act.put, List.setIfInBounds_toArray, List.set_cons_succ, List.set_cons_zero]
      refine wpStill_go (v := .string ⟨L8.toArray⟩) rfl rfl (stays_run fun w' h => by simp [go_sem, e8, b8]) ?_
      simp only [Act.put, List.setIfInBounds_toArray, List.set_cons_succ, List.set_cons_zero]
      refine wpStill_go (v := .string ⟨L8.toArray⟩) rfl rfl (stays_run fun w' h => by simp [go_sem]) ?_
      simp only [Act.put, List.setIfInBounds_toArray, List.set_cons_succ, List.set_cons_zero]
      refine wpStill_nil ?_
      repeat (refine wpMark_skip rfl ?_)
      refine wpMark_nil fun w11 h11 => ?_
      simp only [onlyN]
      have B6 := Hbel.out.trans (((Below.refl _ _).drew.trans h11).mono Hbel.out.size)
      have HS0 := Lib.hid hS0
      clear e1 e2 e3 e4 e5 e6 e7 e8 hS0
      go_wp2_with fail
      go_roundw
      case measure => simp [intOf]; omega
      case rel => exact ⟨k + 1, by omega, by go_num, by rw [HL8.out, HS.out, HS0.out], B6⟩
    · obtain rfl : k = m := by omega
      go_wp2_with fail
      go_ret
      exact ⟨rfl, Hbel.out⟩
theorem sVisText_no (n : Int) (A : Option Addr) (m cap : Nat) (vs : List (Int × Int)) (w : World) (hn : vs.length = m) (hm : m ≤ 1000000000) (hv : visV n vs = false) (hr : Rd w w.heap.size A (vs.flatMap pairCells)) :
    Calls Tryd.prog 20 #[.int .i64 n, .slice A m cap] w fun e w' => e = .returned (.string ⟨#[]⟩) ∧ Below w.heap.size w w' := by
  have Hn := Lib.hid hn; clear hn
  have Hv := Lib.hid hv; clear hv
  by_cases h0 : m = 0
  · subst h0
    go_enter Tryd.func20, Tryd.ntmps20
    go_wp2_with fail
    refine wp_loop_rounds 1 ?_
    rw [rounds_succ]
    go_wp2_with fail
    go_ret
    exact ⟨rfl, Below.refl _ _⟩
  · have hp : (0 : Int) < (m : Int) := by omega
    go_enter Tryd.func20, Tryd.ntmps20
    go_wp2_with fail
    refine wp_loop_rounds 1 ?_
    rw [rounds_succ]
    go_wp2_with fail
    refine (sVisValid_any _ _ _ _ vs _ Hn.out hm hr).mono ?_
    rintro e w1 ⟨rfl, rfl⟩
    rw [Hv.out]
    go_wp2_with fail
    go_ret
    exact ⟨rfl, Below.refl _ _⟩
theorem visV_nat {n : Int} {vs : List (Int × Int)} (h : visV n vs = true) : ∃ N : Nat, n = N ∧ 2 ≤ N ∧ N ≤ 7 := by
  obtain ⟨h1, _⟩ := visV_iff.1 h
  exact ⟨n.toNat, by omega, by omega, by omega⟩
theorem sVisText_any (n : Int) (A : Option Addr) (m cap : Nat) (vs : List (Int × Int)) (w : World) (hn : vs.length = m) (hm : m ≤ 1000000000) (hr : Rd w w.heap.size A (vs.flatMap pairCells)) :
    Calls Tryd.prog 20 #[.int .i64 n, .slice A m cap] w fun e w' => e = .returned (.string ⟨(visStr n vs).toArray⟩) ∧ Below w.heap.size w w' := by
  unfold visStr
  by_cases hv : visV n vs = true
  · rw [if_pos hv, hn]
    obtain ⟨N, rfl, _, _⟩ := visV_nat hv
    exact sVisText_yes N A m cap vs w hv hn hr
  · rw [if_neg hv]
    exact sVisText_no n A m cap vs w hn hm (by simpa using hv) hr
end Go.Proofs.YtbadeopjfmafcaaDoor
