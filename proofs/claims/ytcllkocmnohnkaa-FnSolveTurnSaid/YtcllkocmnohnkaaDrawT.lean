/- spec.l93Quarters: quarters drawn. -/
import Derived.Test.YtcllkocmnohnkaaDraw
namespace Go.Proofs.Ytcllkocmnohnkaa
open Go.RowKit

set_option maxRecDepth 100000 in
set_option maxHeartbeats 1000000 in
theorem l93Quarters_rd (R n : Nat) (p : Int) (w : World) (h2 : 2 ≤ n) (h6 : n ≤ 6) (hp : 0 ≤ p ∧ p ≤ 900000) (h : IsRd w R p) :
    Calls Try.prog 132 #[.pointer (some ⟨R, 0, none⟩), .int .i64 n] w fun e w' =>
      ∃ (A : Option Addr) (k cap : Nat) (q : List Int) (p' : Int), e = .returned (.slice A k cap) ∧ q.length = k ∧ k ≤ 6 ∧ Rd w' w'.heap.size A (q.map (Value.int .i64)) ∧ (0 ≤ p' ∧ p' ≤ p + 100) ∧ IsRd w' R p' ∧ w.grownBy w' (some R) := by
  obtain ⟨i0, hi, hz0, hz1, hz2⟩ := info_parts intInfo
  have hlt := h.lt
  go_enter Try.func132, Try.ntmps132
  go_wp2_with fail
  go_loopw [5, 6] (fun v i wr => ∃ (k : Nat) (q : List Int), k ≤ n ∧ i = .int .i64 k ∧ q.length = k ∧ wr.ownsRow w.heap.size 3 1 v k (q.map (Value.int .i64)) ∧ IsRd wr R (p + k) ∧ w.grownBy wr (some R)) (fun _ i _ => n - (intOf i).toNat)
  case atStart =>
    refine ⟨0, [], by omega, rfl, rfl, ?_, by simpa using h.kept ((Below.refl _ _).alloc (Nat.le_refl _) _), World.grownBy_alloc w _ _⟩
    exact (Row.new w 3 []).own (Nat.le_refl _) rfl (by decide)
  case round =>
    obtain ⟨k, q, hk, rfl, hq, hrow, hrd, hgr⟩ := hrel
    have Hq := Lib.hid hq; clear hq
    by_cases hkn : k < n
    · have Hrow := Lib.hid hrow; clear hrow
      have Hgr := Lib.hid hgr; clear hgr
      go_wp2_with fail
      refine (pick2 R (p + k) 4 _ (by omega) (by omega) hrd).mono ?_
      rintro e w1 ⟨x, rfl, x0, x4, hrd1, g1⟩
      have hr1 := own_over Hrow.out g1 fun j hj e => by have := (own_lt Hrow.out hj).1; cases e; omega
      have Hgr1 := Lib.hid (grown_trans Hgr.out g1)
      have hs1 : w.heap.size ≤ w1.heap.size := Hgr1.out.size
      have Hr1 := Lib.hid hr1; clear hr1 g1
      have hn := Row.new w1 3 [.int .i64 x]
      go_wp2_with (at_builtin; refine wpList_append_own _ rfl _ _ 25 rfl w.heap.size 3 i0 (.int .i64 0) 1 8 (by kernel_rfl) hi hz0 hz1 hz2 rfl (by decide) _ k _ rfl (Hr1.out.alloc _) ⟨w1.heap.size, 0, none⟩ 1 1 [.int .i64 x] rfl rfl (fun j u hj => by rw [← hj, ← hn.cell j]; exact congrArg _ (addr_add _ _)) (by simp [Value.oneCell']) (by unfold maxLen; omega) (by omega) (by simp; omega) ?_; intro v' w7 hown' hgrow _; obtain ⟨g', cap', rfl⟩ := ownsRow_succ hown')
      have hrd7 : IsRd w7 R (p + k + 1) := (hrd1.kept ((Below.refl _ _).alloc (Nat.le_refl _) _)).over hgrow fun j hj => by have := (own_lt Hr1.out hj).1; omega
      have Hgr7 := Lib.hid (grown_far (grown_far Hgr1.out (World.grownBy_alloc w1 _ none) (fun j e => by cases e)) hgrow fun j hj => (own_lt Hr1.out hj).1)
      have Hown := Lib.hid hown'
      clear hown' hgrow hn
      go_wp2_with fail
      go_roundw
      case measure => simp [intOf]; omega
      case rel =>
        refine ⟨k + 1, q ++ [x], by omega, by go_num, by simp [Hq.out], by rw [List.map_append]; exact Hown.out, ?_, Hgr7.out⟩
        rw [show p + ((k + 1 : Nat) : Int) = p + k + 1 from by omega]
        exact hrd7
    · obtain rfl : k = n := by omega
      have Hrow := Lib.hid hrow; clear hrow
      have Hgr := Lib.hid hgr; clear hgr
      go_wp2_with fail
      refine (pick2 R (p + k) 30 _ (by omega) (by omega) hrd).mono ?_
      rintro e w1 ⟨x, rfl, x0, x4, hrd1, g1⟩
      have hr1 := own_over Hrow.out g1 fun j hj e => by have := (own_lt Hrow.out hj).1; cases e; omega
      have Hgr1 := Lib.hid (grown_trans Hgr.out g1)
      clear g1
      obtain ⟨A, c, rfl⟩ := own_form hr1
      obtain ⟨y, hy⟩ : ∃ y, q[0]? = some y := ⟨_, List.getElem?_eq_getElem (by rw [Hq.out]; omega)⟩
      obtain ⟨g, rfl, hBg, hob, hc, hf, hset⟩ := own_set hr1 (i := 0) (u := .int .i64 y) (by rw [List.getElem?_map, hy]; rfl)
      have Hset := Lib.hid (hset (.int .i64 4)); clear hset
      have hkc : k ≤ c := by
        rcases hr1.2 with ⟨h, _⟩ | ⟨g', cap, cur, h, _, _, h1, _⟩
        · cases h
        · cases h; exact h1
      have Hr1 := Lib.hid hr1; clear hr1
      by_cases hx0 : x = 0
      · subst hx0
        go_wp2_with fail
        go_ret
        refine ⟨_, _, _, q.set 0 4, _, rfl, by rw [List.length_set, Hq.out], h6, ?_, by omega, hrd1.over (grown_set _ _ _ _) (fun j e => by cases e; omega), grown_far Hgr1.out (grown_set _ _ _ _) fun j e => by cases e; exact hBg⟩
        rw [List.map_set]
        exact Rd.of_own Hset.out
      · have b0 : (x == 0) = false := beq_eq_false_iff_ne.2 hx0
        by_cases hx1 : x = 1
        · subst hx1
          go_wp2_with fail
          go_ret
          refine ⟨_, k - 1, c - 1, q.drop 1, _, by go_num, by rw [List.length_drop, Hq.out], by omega, ?_, by omega, hrd1, Hgr1.out⟩
          intro i u hu
          rw [List.map_drop, List.getElem?_drop] at hu
          obtain ⟨b, off, e, hb, hcc⟩ := Rd.of_own Hr1.out _ u hu
          cases e
          exact ⟨g, 1, rfl, hb, by rw [Nat.zero_add] at hcc; exact hcc⟩
        · have b1 : (x == 1) = false := beq_eq_false_iff_ne.2 hx1
          go_wp2_with fail
          go_ret
          exact ⟨_, _, _, q, _, rfl, Hq.out, h6, Rd.of_own Hr1.out, by omega, hrd1, Hgr1.out⟩
theorem l93Quarters_any (R n : Nat) (p : Int) (w : World) (h2 : 2 ≤ n) (h6 : n ≤ 6) (hp : 0 ≤ p ∧ p ≤ 900000) (h : IsRd w R p) :
    Calls Try.prog 132 #[.pointer (some ⟨R, 0, none⟩), .int .i64 n] w fun e w' =>
      ∃ (A : Option Addr) (k cap : Nat) (q : List Int), e = .returned (.slice A k cap) ∧ q.length = k ∧ k ≤ 6 ∧ Rd w' w'.heap.size A (q.map (Value.int .i64)) ∧ w.grownBy w' (some R) := by
  refine (l93Quarters_rd R n p w h2 h6 hp h).mono ?_
  rintro e w' ⟨A, k, cap, q, p', h1, h2, h3, h4, _, _, h5⟩
  exact ⟨A, k, cap, q, h1, h2, h3, h4, h5⟩
end Go.Proofs.Ytcllkocmnohnkaa
