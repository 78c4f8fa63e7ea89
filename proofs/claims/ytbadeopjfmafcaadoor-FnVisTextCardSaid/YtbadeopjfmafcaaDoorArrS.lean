/- Arrays of antennas: the reference's checks, and the vectors of baselines. -/
import Derived.Test.YtbadeopjfmafcaaDoorArrI
import Derived.Test.YtbadeopjfmafcaaDoorBackS
namespace Go.Proofs.YtbadeopjfmafcaaDoor
open Go.RowKit

theorem upTo_le (n i : Nat) (h : i ≤ n) : (upTo n i).length ≤ (pairsN n).length := (upTo_prefix n i n h).length_le
theorem pairAt_of (n i j : Nat) (h7 : n ≤ 7) (hi : i < j) (hj : j < n) (at_ : Nat) (h : bF n i j = at_) : pairAt n at_ = (i, j) := by
  have h1 := upTo_len_bF n i j h7 hi (by omega)
  have h2 := inner_prefix n i (j + 1 - (i + 1)) (by omega)
  rw [rowOf_take n i j hi hj, ← List.append_assoc] at h2
  obtain ⟨t, ht⟩ := h2
  have hl : (upTo n i ++ (rowOf n i).take (j - (i + 1))).length = at_ := by omega
  unfold pairAt
  rw [← ht, List.getD_eq_getElem?_getD, List.append_assoc, List.getElem?_append_right (by omega), hl]
  simp

set_option maxHeartbeats 1000000 in
theorem sBasePair_any (n at_ : Nat) (w : World) (h2 : 2 ≤ n) (h7 : n ≤ 7) (ha : at_ < (pairsN n).length) :
    Calls Tryd.prog 51 #[.int .i64 n, .int .i64 at_] w fun e w' => e = .returned (.tuple #[.int .i64 (pairAt n at_).1, .int .i64 (pairAt n at_).2, .bool true]) ∧ w = w' := by
  have hbm := bm_pairs n h2 h7
  have hbp : (0 : Int) < bm n := by have := bm_cases n; omega
  have Hbm := Lib.hid hbm
  clear hbm
  go_enter Tryd.func51, Tryd.ntmps51
  go_wp2_with fail
  go_loop [7] (fun i => ∃ k : Nat, k ≤ n ∧ i = .int .i64 k ∧ (upTo n k).length ≤ at_) (fun i => n - (intOf i).toNat)
  case atStart => exact ⟨0, by omega, rfl, by simp [upTo]⟩
  case round =>
    obtain ⟨i, hi, rfl, hle⟩ := hrel
    by_cases hlt : i < n
    · have hin : (i : Int) < n := by omega
      go_wp2_with fail
      refine (sBaseMany_any n _).mono ?_
      rintro e w1 ⟨rfl, rfl⟩
      go_wp2_with fail
      go_loop [8] (fun i' => ∃ j : Nat, i < j ∧ j ≤ n ∧ i' = .int .i64 j ∧ bF n i j ≤ at_) (fun i' => n - (intOf i').toNat)
      case atStart =>
        refine ⟨i + 1, by omega, by omega, by go_num, ?_⟩
        have := upTo_len_bF n i (i + 1) h7 (by omega) (by omega)
        rw [Nat.sub_self, List.take_zero, List.append_nil] at this
        omega
      case round =>
        clear hle
        obtain ⟨j, hij, hj, rfl, hle⟩ := hrel
        by_cases hlt2 : j < n
        · have hjn : (j : Int) < n := by omega
          go_wp2_with fail
          refine (sBaseIndex_lt n i j _ (by omega) (by omega) (by omega)).mono ?_
          rintro e w1 ⟨rfl, rfl⟩
          by_cases he : bF n i j = at_
          · have hp := pairAt_of n i j h7 hij hlt2 at_ he
            have Hp := Lib.hid hp
            clear hp hle
            rw [he]
            go_wp2_with fail
            refine bodyPost_ret (v := .tuple #[.int .i64 i, .int .i64 j, .bool true]) (by simp [results, Tryd.results51, go_sem]) rfl ⟨by rw [Hp.out], rfl⟩
          · have hne : (bF n i j == (at_ : Int)) = false := beq_eq_false_iff_ne.2 he
            have hsu : bF n i (j + 1 : Nat) = bF n i j + 1 := by unfold bF; omega
            have hlt3 : bF n i j + 1 ≤ at_ := by omega
            have Hsu := Lib.hid hsu
            have Hlt3 := Lib.hid hlt3
            clear he hsu hlt3 hle
            generalize bF n i j = f at *
            go_wp2_with fail
            go_round
            case measure => simp [intOf]; omega
            case rel => exact ⟨j + 1, by omega, by omega, by go_num, by rw [Hsu.out]; exact Hlt3.out⟩
        · obtain rfl : j = n := by omega
          have hl : (upTo j (i + 1)).length ≤ at_ := by
            have := upTo_len_bF j i j h7 hij (Nat.le_refl _)
            rw [rowOf_all, ← upTo_succ] at this
            omega
          clear hle
          go_wp2_with fail
          go_round
          case measure => simp [intOf]; omega
          case rel => exact ⟨i + 1, by omega, by go_num, hl⟩
    · exfalso
      obtain rfl : i = n := by omega
      unfold pairsN at ha
      omega

end Go.Proofs.YtbadeopjfmafcaaDoor
