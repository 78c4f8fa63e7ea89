/- 'slices.Equal' on Gaussian integers. -/
import Derived.Test.YtcllkocmnohnkaaA3
namespace Go.Proofs.Ytcllkocmnohnkaa
open Go.RowKit

theorem slicesEqualG_any (A B : Option Addr) (n m capA capB : Nat) (xs ys : List (Int × Int)) (w : World) (hn : xs.length = n) (hm : ys.length = m) (hb : n ≤ 1048576)
    (hr : Rd w w.heap.size A (xs.flatMap pairCells)) (hr2 : Rd w w.heap.size B (ys.flatMap pairCells)) :
    Calls Try.prog 114 #[.slice A n capA, .slice B m capB] w fun e w' => e = .returned (.bool (decide (xs = ys))) ∧ Below w.heap.size w w' := by
  by_cases hnm : n = m
  · subst hnm
    have Hn := Lib.hid hn; clear hn
    have Hm := Lib.hid hm; clear hm
    go_enter Try.func114, Try.ntmps114
    go_wp2_with fail
    go_loopw [13] (fun i wr => ∃ k : Nat, k ≤ n ∧ i = .int .i64 k ∧ xs.take k = ys.take k ∧ Below w.heap.size w wr) (fun i _ => n - (intOf i).toNat)
    case atStart => exact ⟨0, by omega, rfl, rfl, Below.refl _ _⟩
    case round =>
      obtain ⟨k, hk, rfl, heq, hbel⟩ := hrel
      have hr' := hr.below hbel
      have hr2' := hr2.below hbel
      have Hbel := Lib.hid hbel; clear hbel
      have Heq := Lib.hid heq; clear heq
      by_cases hlt : k < n
      · obtain ⟨x, hx⟩ : ∃ x, xs[k]? = some x := ⟨_, List.getElem?_eq_getElem (by rw [Hn.out]; exact hlt)⟩
        obtain ⟨y, hy⟩ : ∃ y, ys[k]? = some y := ⟨_, List.getElem?_eq_getElem (by rw [Hm.out]; exact hlt)⟩
        obtain ⟨b, off, rfl, hb2, hc1, hc1'⟩ := rd_pair hr' hx
        obtain ⟨b', off', rfl, hb2', hc2, hc2'⟩ := rd_pair hr2' hy
        obtain ⟨x1, x2⟩ := x
        obtain ⟨y1, y2⟩ := y
        dsimp only at hc1 hc1' hc2 hc2'
        have Hx := Lib.hid hx; clear hx
        have Hy := Lib.hid hy; clear hy
        by_cases hxy : (x1, x2) = (y1, y2)
        · obtain ⟨rfl, rfl⟩ := Prod.mk.inj hxy
          go_wp2_with fail
          go_quiet (fail)
          go_wp2_with fail
          go_roundw
          case measure => simp [intOf]; omega
          case rel =>
            refine ⟨k + 1, by omega, by go_num, ?_, below_drewN Hbel.out _⟩
            rw [List.take_add_one, List.take_add_one, Heq.out, Hx.out, Hy.out]
        · have Hxy := Lib.hid hxy
          by_cases h1 : x1 = y1
          · subst h1
            have hne : (x2 == y2) = false := by
              rw [beq_eq_false_iff_ne]; rintro rfl; exact hxy rfl
            clear hxy
            go_wp2_with fail
            go_quiet (fail)
            go_wp2_with fail
            go_ret
            refine ⟨ret_bool ?_, below_drewN Hbel.out _⟩
            symm
            rw [decide_eq_false_iff_not]
            rintro rfl
            exact Hxy.out (by simpa using Hx.out.symm.trans Hy.out)
          · have hne : (x1 == y1) = false := beq_eq_false_iff_ne.2 h1
            clear hxy h1
            go_wp2_with fail
            go_quiet (fail)
            go_wp2_with fail
            go_ret
            refine ⟨ret_bool ?_, below_drewN Hbel.out _⟩
            symm
            rw [decide_eq_false_iff_not]
            rintro rfl
            exact Hxy.out (by simpa using Hx.out.symm.trans Hy.out)
      · obtain rfl : k = n := by omega
        go_wp2_with fail
        go_ret
        refine ⟨ret_bool ?_, Hbel.out⟩
        symm
        rw [decide_eq_true_iff]
        have := Heq.out
        rwa [List.take_of_length_le (by rw [Hn.out]; exact Nat.le_refl _), List.take_of_length_le (by rw [Hm.out]; exact Nat.le_refl _)] at this
  · have hb : ((n : Int) != (m : Int)) = true := by rw [bne_iff_ne]; omega
    go_enter Try.func114, Try.ntmps114
    go_wp2_with fail
    go_ret
    refine ⟨ret_bool ?_, Below.refl _ _⟩
    symm
    rw [decide_eq_false_iff_not]
    rintro rfl
    omega
end Go.Proofs.Ytcllkocmnohnkaa
