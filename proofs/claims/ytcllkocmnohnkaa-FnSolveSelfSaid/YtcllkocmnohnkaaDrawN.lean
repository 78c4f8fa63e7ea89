/- spec.l93Numbers: an observation drawn. -/
import Derived.Test.YtcllkocmnohnkaaDrawT
namespace Go.Proofs.Ytcllkocmnohnkaa
open Go.RowKit

set_option maxRecDepth 100000 in
set_option maxHeartbeats 1000000 in
theorem l93Numbers_any (R n : Nat) (p : Int) (w : World) (h2 : 2 ≤ n) (h6 : n ≤ 6) (hp : 0 ≤ p ∧ p ≤ 800000) (h : IsRd w R p) :
    Calls Try.prog 130 #[.pointer (some ⟨R, 0, none⟩), .int .i64 n] w fun e w' =>
      ∃ (A : Option Addr) (k cap : Nat) (gs : List (Int × Int)) (p' : Int), e = .returned (.slice A k cap) ∧ gs.length = k ∧ k ≤ 22 ∧ Rd w' w'.heap.size A (gs.flatMap pairCells) ∧ 0 ≤ p' ∧ p' ≤ p + 100 ∧ IsRd w' R p' ∧ w.grownBy w' (some R) := by
  obtain ⟨i0, hi, hz0, hz1, hz2⟩ := info_parts gaussInfo
  have hlt := h.lt
  obtain ⟨M, hM⟩ : ∃ M : Nat, bm n = M := ⟨(bm n).toNat, by have := bm_le n; omega⟩
  have hM1 : 1 ≤ M ∧ M ≤ 21 := by
    have := bm_le n
    rcases bm_cases n with h | h | h | h | h | h | h <;> omega
  go_enter Try.func130, Try.ntmps130
  go_wp2_with fail
  go_loopw [5, 6] (fun v i wr => ∃ (k : Nat) (q : List (Int × Int)), k ≤ M ∧ i = .int .i64 k ∧ q.length = k ∧ wr.ownsRow w.heap.size 49 2 v k (q.flatMap pairCells) ∧ IsRd wr R (p + 2 * k) ∧ w.grownBy wr (some R)) (fun _ i _ => M - (intOf i).toNat)
  case atStart =>
    refine ⟨0, [], by omega, rfl, rfl, ?_, by simpa using h.kept ((Below.refl _ _).alloc (Nat.le_refl _) _), World.grownBy_alloc w _ _⟩
    exact (Row.new w 49 []).own (Nat.le_refl _) rfl (by decide)
  case round =>
    obtain ⟨k, q, hk, rfl, hq, hrow, hrd, hgr⟩ := hrel
    have Hq := Lib.hid hq; clear hq
    have HM := Lib.hid hM; clear hM
    by_cases hkn : k < M
    · have Hrow := Lib.hid hrow; clear hrow
      have Hgr := Lib.hid hgr; clear hgr
      go_wp2_with fail
      refine (sBaseMany_any _ _).mono ?_
      rintro e w' ⟨rfl, rfl⟩
      rw [HM.out]
      go_wp2_with fail
      refine (pick2 R (p + 2 * k) 13 _ (by omega) (by omega) hrd).mono ?_
      rintro e w0 ⟨y, rfl, y0, y13, hrd0, g0⟩
      have hr0 := own_over Hrow.out g0 fun j hj e => by have := (own_lt Hrow.out hj).1; cases e; omega
      have Hgr0 := Lib.hid (grown_trans Hgr.out g0)
      have Hr0 := Lib.hid hr0; clear hr0 g0
      go_wp2_with fail
      refine (pick2 R (p + 2 * k + 1) 13 _ (by omega) (by omega) hrd0).mono ?_
      rintro e w1 ⟨x, rfl, x0, x4, hrd1, g1⟩
      have hr1 := own_over Hr0.out g1 fun j hj e => by have := (own_lt Hr0.out hj).1; cases e; omega
      have Hgr1 := Lib.hid (grown_trans Hgr0.out g1)
      have hs1 : w.heap.size ≤ w1.heap.size := Hgr1.out.size
      have Hr1 := Lib.hid hr1; clear hr1 g1
      have hn := Row.new w1 49 [.int .i64 (y - 6), .int .i64 (x - 6)]
      go_wp2_with (at_builtin; refine wpList_append_own _ rfl _ _ 38 rfl w.heap.size 49 i0 (.agg #[.int .i64 0, .int .i64 0]) 2 16 (by kernel_rfl) hi hz0 hz1 hz2 rfl (by decide) _ k _ rfl (Hr1.out.alloc _) ⟨w1.heap.size, 0, none⟩ 1 1 [.int .i64 (y - 6), .int .i64 (x - 6)] rfl rfl (fun j u hj => by rw [← hj, ← hn.cell j]; exact congrArg _ (addr_add _ _)) (by simp [Value.oneCell']) (by unfold maxLen; omega) (by omega) (by simp; omega) ?_; intro v' w7 hown' hgrow _; obtain ⟨g', cap', rfl⟩ := ownsRow_succ hown')
      have hrd7 : IsRd w7 R (p + 2 * k + 1 + 1) := (hrd1.kept ((Below.refl _ _).alloc (Nat.le_refl _) _)).over hgrow fun j hj => by have := (own_lt Hr1.out hj).1; omega
      have Hgr7 := Lib.hid (grown_far (grown_far Hgr1.out (World.grownBy_alloc w1 _ none) (fun j e => by cases e)) hgrow fun j hj => (own_lt Hr1.out hj).1)
      have Hown := Lib.hid hown'
      clear hown' hgrow hn
      go_wp2_with fail
      go_roundw
      case measure => simp [intOf]; omega
      case rel =>
        refine ⟨k + 1, q ++ [(y - 6, x - 6)], by omega, by go_num, by simp [Hq.out], by rw [List.flatMap_append]; exact Hown.out, ?_, Hgr7.out⟩
        rw [show p + 2 * ((k + 1 : Nat) : Int) = p + 2 * k + 1 + 1 from by omega]
        exact hrd7
    · obtain rfl : k = M := by omega
      have Hrow := Lib.hid hrow; clear hrow
      have Hgr := Lib.hid hgr; clear hgr
      go_wp2_with fail
      refine (sBaseMany_any _ _).mono ?_
      rintro e w' ⟨rfl, rfl⟩
      rw [HM.out]
      go_wp2_with fail
      refine (pick2 R (p + 2 * k) 50 _ (by omega) (by omega) hrd).mono ?_
      rintro e w1 ⟨x, rfl, x0, x4, hrd1, g1⟩
      have hr1 := own_over Hrow.out g1 fun j hj e => by have := (own_lt Hrow.out hj).1; cases e; omega
      have Hgr1 := Lib.hid (grown_trans Hgr.out g1)
      have hs1 : w.heap.size ≤ w1.heap.size := Hgr1.out.size
      clear g1
      obtain ⟨A, c, rfl⟩ := own_form hr1
      obtain ⟨y, hy⟩ : ∃ y, q[0]? = some y := ⟨_, List.getElem?_eq_getElem (by rw [Hq.out]; omega)⟩
      obtain ⟨g, rfl, hBg, hob, hc, hf, hset⟩ := own_set hr1 (i := 0) (u := .int .i64 y.1) (pairCells_get q 0 y hy).1
      have Hset := Lib.hid (hset (.int .i64 1000000001)); clear hset
      have Hr1 := Lib.hid hr1; clear hr1
      by_cases hx0 : x = 0
      · subst hx0
        go_wp2_with fail
        go_ret
        refine ⟨_, _, _, q.set 0 (1000000001, y.2), _, rfl, by rw [List.length_set, Hq.out], by omega, ?_, by omega, by omega, hrd1.over (grown_set _ _ _ _) (fun j e => by cases e; omega), grown_far Hgr1.out (grown_set _ _ _ _) fun j e => by cases e; exact hBg⟩
        have e : (q.set 0 (1000000001, y.2)).flatMap pairCells = (q.flatMap pairCells).set 0 (.int .i64 1000000001) := by
          cases q with
          | nil => simp at hy
          | cons z r => simp at hy; subst hy; simp [pairCells]
        rw [e]
        exact Rd.of_own Hset.out
      · have b0 : (x == 0) = false := beq_eq_false_iff_ne.2 hx0
        by_cases hx1 : x = 1
        · subst hx1
          have hn := Row.new w1 49 [.int .i64 0, .int .i64 0]
          go_wp2_with (at_builtin; refine wpList_append_own _ rfl _ _ 38 rfl w.heap.size 49 i0 (.agg #[.int .i64 0, .int .i64 0]) 2 16 (by kernel_rfl) hi hz0 hz1 hz2 rfl (by decide) _ k _ rfl (Hr1.out.alloc _) ⟨w1.heap.size, 0, none⟩ 1 1 [.int .i64 0, .int .i64 0] rfl rfl (fun j u hj => by rw [← hj, ← hn.cell j]; exact congrArg _ (addr_add _ _)) (by simp [Value.oneCell']) (by unfold maxLen; omega) (by omega) (by simp; omega) ?_; intro v' w7 hown' hgrow _; obtain ⟨g', cap', rfl⟩ := ownsRow_succ hown')
          have hrd7 : IsRd w7 R (p + 2 * k + 1) := (hrd1.kept ((Below.refl _ _).alloc (Nat.le_refl _) _)).over hgrow fun j hj => by have := (own_lt Hr1.out hj).1; omega
          have Hgr7 := Lib.hid (grown_far (grown_far Hgr1.out (World.grownBy_alloc w1 _ none) (fun j e => by cases e)) hgrow fun j hj => (own_lt Hr1.out hj).1)
          have Hown := Lib.hid hown'
          clear hown' hgrow hn
          go_wp2_with fail
          go_ret
          refine ⟨_, _, _, q ++ [(0, 0)], _, rfl, by simp [Hq.out], by omega, ?_, by omega, by omega, hrd7, Hgr7.out⟩
          rw [List.flatMap_append]
          exact Rd.of_own Hown.out
        · have b1 : (x == 1) = false := beq_eq_false_iff_ne.2 hx1
          go_wp2_with fail
          go_ret
          exact ⟨_, _, _, q, _, rfl, Hq.out, by omega, Rd.of_own Hr1.out, by omega, by omega, hrd1, Hgr1.out⟩
end Go.Proofs.Ytcllkocmnohnkaa
