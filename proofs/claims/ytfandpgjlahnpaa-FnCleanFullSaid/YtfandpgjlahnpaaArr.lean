/- Arrays of antennas: the program's checks. -/
import Derived.Test.YtfandpgjlahnpaaA5
import Derived.Test.YtfandpgjlahnpaaEqual
import Derived.Test.YtfandpgjlahnpaaDirty
namespace Go.Proofs.Ytfandpgjlahnpaa
open Go.RowKit

theorem pair_bne {a b : Int × Int} (h : a ≠ b) : (a.1 == b.1) = false ∨ (a.1 = b.1 ∧ (a.2 == b.2) = false) := by
  by_cases h1 : a.1 = b.1
  · exact .inr ⟨h1, beq_eq_false_iff_ne.2 fun h2 => h (Prod.ext h1 h2)⟩
  · exact .inl (beq_eq_false_iff_ne.2 h1)

theorem indexAnt_any (A : Option Addr) (n cap : Nat) (xs : List (Int × Int)) (a : Int × Int) (w : World) (hn : xs.length = n) (hb : n ≤ 1048576) (hr : Rd w w.heap.size A (xs.flatMap pairCells)) :
    Calls Try.prog 141 #[.slice A n cap, .agg #[.int .i64 a.1, .int .i64 a.2]] w fun e w' =>
      ∃ r : Int, e = .returned (.int .i64 r) ∧ -1 ≤ r ∧ r ≤ 1048576 ∧ decide (0 ≤ r) = decide (a ∈ xs) ∧ Below w.heap.size w w' := by
  have r0 := Row.new w 35 [.int .i64 a.1, .int .i64 a.2]
  have Hn := Lib.hid hn; clear hn
  go_enter Try.func141, Try.ntmps141
  go_wp2_with fail
  go_loopw [8] (fun i wr => ∃ k : Nat, k ≤ n ∧ i = .int .i64 k ∧ a ∉ xs.take k ∧ Row wr w.heap.size 35 [.int .i64 a.1, .int .i64 a.2] ∧ Below w.heap.size w wr) (fun i _ => n - (intOf i).toNat)
  case atStart => exact ⟨0, by omega, rfl, by simp, r0, bA1⟩
  case round =>
    clear r0
    obtain ⟨k, hk, rfl, hni, r0, hbel⟩ := hrel
    obtain ⟨c0, c1, _, _⟩ := r0.two
    have hr' := hr.below hbel
    by_cases hlt : k < n
    · have hts := take_succ_getD (l := xs) (d := (0, 0)) (k := k) (by rw [Hn.out]; exact hlt)
      have hmem : xs.getD k (0, 0) ∈ xs := getD_mem (by rw [Hn.out]; exact hlt)
      obtain ⟨b, off, rfl, hb2, hc1, hc1'⟩ := rd_pair hr' (getD_of (gs := xs) (k := k) (by rw [Hn.out]; exact hlt))
      generalize xs.getD k (0, 0) = x at *
      have Hbel := Lib.hid hbel; clear hbel
      have R0 := Lib.hid r0; clear r0
      have Hts := Lib.hid hts; clear hts
      have Hni := Lib.hid hni; clear hni
      have Hmem := Lib.hid hmem; clear hmem
      by_cases hxa : a = x
      · subst hxa
        go_wp2_with fail
        go_quiet (fail)
        go_wp2_with fail
        go_ret
        exact ⟨k, rfl, by omega, by omega, by rw [decide_eq_true (by omega), decide_eq_true Hmem.out], below_drewN Hbel.out _⟩
      · have Hxa := Lib.hid hxa
        rcases pair_bne hxa with h1 | ⟨h1, h2⟩
        · clear hxa
          go_wp2_with fail
          go_quiet (fail)
          go_wp2_with fail
          go_roundw
          case measure => simp [intOf]; omega
          case rel =>
            refine ⟨k + 1, by omega, by go_num, ?_, R0.out.drewN _, below_drewN Hbel.out _⟩
            rw [Hts.out]
            simp only [List.mem_append, List.mem_singleton, not_or]
            exact ⟨Hni.out, Hxa.out⟩
        · clear hxa
          go_wp2_with fail
          go_quiet (fail)
          go_wp2_with fail
          go_roundw
          case measure => simp [intOf]; omega
          case rel =>
            refine ⟨k + 1, by omega, by go_num, ?_, R0.out.drewN _, below_drewN Hbel.out _⟩
            rw [Hts.out]
            simp only [List.mem_append, List.mem_singleton, not_or]
            exact ⟨Hni.out, Hxa.out⟩
    · obtain rfl : k = n := by omega
      rw [List.take_of_length_le (by rw [Hn.out]; exact Nat.le_refl _)] at hni
      have Hni := Lib.hid hni; clear hni
      have Hbel := Lib.hid hbel; clear hbel
      go_wp2_with fail
      go_ret
      exact ⟨-1, rfl, by omega, by omega, by rw [decide_eq_false (by omega), decide_eq_false Hni.out], Hbel.out⟩

theorem containsAnt_any (A : Option Addr) (n cap : Nat) (xs : List (Int × Int)) (a : Int × Int) (w : World) (hn : xs.length = n) (hb : n ≤ 1048576) (hr : Rd w w.heap.size A (xs.flatMap pairCells)) :
    Calls Try.prog 121 #[.slice A n cap, .agg #[.int .i64 a.1, .int .i64 a.2]] w fun e w' =>
      e = .returned (.bool (decide (a ∈ xs))) ∧ Below w.heap.size w w' := by
  have r0 := Row.new w 35 [.int .i64 a.1, .int .i64 a.2]
  have hr' := hr.ext (bA1 (o := .cells #[.int .i64 a.1, .int .i64 a.2] 35))
  obtain ⟨c0, c1, _, _⟩ := r0.two
  have R0 := Lib.hid r0; clear r0
  have Hn := Lib.hid hn; clear hn
  go_enter Try.func121, Try.ntmps121
  go_wp2_with fail
  refine (indexAnt_any A n cap xs a _ Hn.out hb hr').mono ?_
  rintro e w1 ⟨r, rfl, hr0, hr1, hd, b1⟩
  have B1 := bA1.trans (b1.mono bA1.size)
  have Hd := Lib.hid hd; clear hd
  clear b1
  go_wp2_with fail
  go_ret
  refine ⟨ret_bool ?_, B1⟩
  rw [← Hd.out]

theorem isPlace_any (a : Int × Int) (w : World) :
    Calls Try.prog 120 #[.agg #[.int .i64 a.1, .int .i64 a.2]] w fun e w' => e = .returned (.bool (antOk a)) ∧ Below w.heap.size w w' := by
  have r0 := Row.new w 35 [.int .i64 a.1, .int .i64 a.2]
  obtain ⟨c0, c1, _, _⟩ := r0.two
  have R0 := Lib.hid r0; clear r0
  go_enter Try.func120, Try.ntmps120
  go_wp2_with fail
  refine (inRange_any a.1 1000 _ (by omega) (by omega)).mono ?_
  rintro e w1 ⟨rfl, rfl⟩
  cases h1 : inR a.1 (-1000) 1000
  · have H1 := Lib.hid h1; clear h1
    go_wp2_with fail
    go_ret
    refine ⟨ret_bool ?_, bA1⟩
    unfold antOk; rw [H1.out]; rfl
  · have H1 := Lib.hid h1; clear h1
    go_wp2_with fail
    refine (inRange_any a.2 1000 _ (by omega) (by omega)).mono ?_
    rintro e w1 ⟨rfl, rfl⟩
    go_wp2_with fail
    go_ret
    refine ⟨ret_bool ?_, bA1⟩
    unfold antOk; rw [H1.out]; rfl
end Go.Proofs.Ytfandpgjlahnpaa
