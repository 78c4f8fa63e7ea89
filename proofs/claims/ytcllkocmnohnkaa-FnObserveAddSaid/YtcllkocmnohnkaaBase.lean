/- Antennas and baselines: numbers, indices, observations. -/
import Derived.Test.YtcllkocmnohnkaaGaussB
import Derived.Test.YtcllkocmnohnkaaFrame
namespace Go.Proofs.Ytcllkocmnohnkaa
open Go.RowKit

theorem isMany_any (n : Int) (w : World) : Calls Try.prog 159 #[.int .i64 n] w fun e w' => e = .returned (.bool (inR n 2 7)) ∧ w = w' := by
  by_cases ha : 2 ≤ n
  · go_enter Try.func159, Try.ntmps159
    go_wp2
    go_ret
    exact ⟨ret_bool (by simp [inR, ha]), rfl⟩
  · have ha' : n < 2 := by omega
    go_enter Try.func159, Try.ntmps159
    go_wp2
    go_ret
    exact ⟨ret_bool (by simp [inR]; omega), rfl⟩

/-- How many baselines. -/
def bm (n : Int) : Int := if inR n 2 7 then n * (n - 1) / 2 else 0
theorem bm_yes {n : Int} (h : 2 ≤ n ∧ n ≤ 7) : bm n = n * (n - 1) / 2 := by unfold bm; rw [if_pos (inR_iff.2 h)]
theorem bm_no {n : Int} (h : ¬ (2 ≤ n ∧ n ≤ 7)) : bm n = 0 := by unfold bm; rw [if_neg (by rw [inR_iff]; exact h)]
theorem bm_cases (n : Int) : (n = 2 ∧ bm n = 1) ∨ (n = 3 ∧ bm n = 3) ∨ (n = 4 ∧ bm n = 6) ∨ (n = 5 ∧ bm n = 10) ∨ (n = 6 ∧ bm n = 15) ∨ (n = 7 ∧ bm n = 21) ∨ (¬ (2 ≤ n ∧ n ≤ 7) ∧ bm n = 0) := by
  by_cases h : 2 ≤ n ∧ n ≤ 7
  · have := bm_yes h
    have : n = 2 ∨ n = 3 ∨ n = 4 ∨ n = 5 ∨ n = 6 ∨ n = 7 := by omega
    rcases this with rfl | rfl | rfl | rfl | rfl | rfl <;> simp_all
  · exact .inr (.inr (.inr (.inr (.inr (.inr ⟨h, bm_no h⟩)))))

theorem baseMany_any (n : Int) (w : World) : Calls Try.prog 78 #[.int .i64 n] w fun e w' => e = .returned (.int .i64 (bm n)) ∧ w = w' := by
  rcases bm_cases n with ⟨rfl, h⟩ | ⟨rfl, h⟩ | ⟨rfl, h⟩ | ⟨rfl, h⟩ | ⟨rfl, h⟩ | ⟨rfl, h⟩ | ⟨hn, h⟩
  case inr.inr.inr.inr.inr.inr =>
    have H := Lib.hid h
    clear h
    go_enter Try.func78, Try.ntmps78
    go_wp2_with (go_at_call 159; refine (isMany_any _ _).mono ?_; rintro e w' ⟨rfl, rfl⟩; rw [inR_no.2 hn])
    go_ret
    exact ⟨ret_int H.out.symm, rfl⟩
  all_goals
    have H := Lib.hid h
    clear h
    go_enter Try.func78, Try.ntmps78
    go_wp2_with (go_at_call 159; refine (isMany_any _ _).mono ?_; rintro e w' ⟨rfl, rfl⟩; rw [inR_iff.2 (by omega)])
    go_ret
    exact ⟨ret_int H.out.symm, rfl⟩

theorem sBaseMany_any (n : Int) (w : World) : Calls Try.prog 147 #[.int .i64 n] w fun e w' => e = .returned (.int .i64 (bm n)) ∧ w = w' := by
  rcases bm_cases n with ⟨rfl, h⟩ | ⟨rfl, h⟩ | ⟨rfl, h⟩ | ⟨rfl, h⟩ | ⟨rfl, h⟩ | ⟨rfl, h⟩ | ⟨hn, h⟩
  case inr.inr.inr.inr.inr.inr =>
    have H := Lib.hid h
    clear h
    go_enter Try.func147, Try.ntmps147
    go_wp2_with (go_at_call 178; refine (l6In_any _ _ _ _).mono ?_; rintro e w' ⟨rfl, rfl⟩; rw [inR_no.2 hn])
    go_ret
    exact ⟨ret_int H.out.symm, rfl⟩
  all_goals
    have H := Lib.hid h
    clear h
    go_enter Try.func147, Try.ntmps147
    go_wp2_with (go_at_call 178; refine (l6In_any _ _ _ _).mono ?_; rintro e w' ⟨rfl, rfl⟩; rw [inR_iff.2 (by omega)])
    go_ret
    exact ⟨ret_int H.out.symm, rfl⟩

/-- The number of the baseline of i and j, i less than j. -/
def bF (n i j : Int) : Int := i * (2 * n - i - 1) / 2 + j - i - 1
theorem bF_spec (n i j : Int) (hi : 0 ≤ i ∧ i ≤ 6) : i * n - i * (i + 1) / 2 + j - i - 1 = bF n i j := by
  have : i = 0 ∨ i = 1 ∨ i = 2 ∨ i = 3 ∨ i = 4 ∨ i = 5 ∨ i = 6 := by omega
  unfold bF
  rcases this with rfl | rfl | rfl | rfl | rfl | rfl | rfl <;> omega
theorem bF_bd (n i j : Int) (hn : 2 ≤ n ∧ n ≤ 7) (hi : 0 ≤ i ∧ i < j) (hj : j < n) : 0 ≤ bF n i j ∧ bF n i j < bm n := by
  rw [bm_yes hn]
  have : i = 0 ∨ i = 1 ∨ i = 2 ∨ i = 3 ∨ i = 4 ∨ i = 5 ∨ i = 6 := by omega
  have : n = 2 ∨ n = 3 ∨ n = 4 ∨ n = 5 ∨ n = 6 ∨ n = 7 := by omega
  unfold bF
  rcases this with rfl | rfl | rfl | rfl | rfl | rfl <;> rcases ‹i = 0 ∨ _› with rfl | rfl | rfl | rfl | rfl | rfl | rfl <;> omega
/-- In whichever order. -/
def bI (n i j : Int) : Int := if j < i then bF n j i else bF n i j
theorem bI_lt {n i j : Int} (h : i < j) : bI n i j = bF n i j := by unfold bI; rw [if_neg (by omega)]
theorem bI_gt {n i j : Int} (h : j < i) : bI n i j = bF n j i := by unfold bI; rw [if_pos h]

theorem baseAt_lt (n i j : Int) (w : World) (hn : 2 ≤ n ∧ n ≤ 7) (hi : 0 ≤ i ∧ i < j) (hj : j < n) :
    Calls Try.prog 154 #[.int .i64 n, .int .i64 i, .int .i64 j] w fun e w' => e = .returned (.int .i64 (bF n i j)) ∧ w = w' := by
  obtain ⟨hn1, hn2⟩ := hn
  obtain ⟨hi1, hi2⟩ := hi
  have m1 := mul_bd i (2 * n - i - 1) 7 14 (by omega) (by omega)
  simp only [Int.reduceMul, Int.reduceNeg] at m1
  have m0 : 0 ≤ i * (2 * n - i - 1) := Int.mul_nonneg hi1 (by omega)
  go_enter Try.func154, Try.ntmps154
  go_wp2
  go_ret
  exact ⟨rfl, rfl⟩

theorem baseAt_gt (n i j : Int) (w : World) (hn : 2 ≤ n ∧ n ≤ 7) (hj : 0 ≤ j ∧ j < i) (hi : i < n) :
    Calls Try.prog 154 #[.int .i64 n, .int .i64 i, .int .i64 j] w fun e w' => e = .returned (.int .i64 (bF n j i)) ∧ w = w' := by
  obtain ⟨hn1, hn2⟩ := hn
  obtain ⟨hi1, hi2⟩ := hj
  have m1 := mul_bd j (2 * n - j - 1) 7 14 (by omega) (by omega)
  simp only [Int.reduceMul, Int.reduceNeg] at m1
  have m0 : 0 ≤ j * (2 * n - j - 1) := Int.mul_nonneg hi1 (by omega)
  go_enter Try.func154, Try.ntmps154
  go_wp2
  go_ret
  exact ⟨rfl, rfl⟩

/-- The reference's BaseIndex, i less than j, both there. -/
theorem sBaseIndex_lt (n i j : Int) (w : World) (hn : 2 ≤ n ∧ n ≤ 7) (hi : 0 ≤ i ∧ i < j) (hj : j < n) :
    Calls Try.prog 171 #[.int .i64 n, .int .i64 i, .int .i64 j] w fun e w' => e = .returned (.int .i64 (bF n i j)) ∧ w = w' := by
  have hf := Lib.hid (bF_spec n i j (by omega))
  have hb : (bm n == 0) = false := by
    have := bF_bd n i j hn hi hj
    rw [beq_eq_false_iff_ne]; omega
  obtain ⟨hn1, hn2⟩ := hn
  obtain ⟨hi1, hi2⟩ := hi
  have m1 := mul_bd i n 7 7 (by omega) (by omega)
  have m2 := mul_bd i (i + 1) 7 8 (by omega) (by omega)
  simp only [Int.reduceMul, Int.reduceNeg] at m1 m2
  have m0 : 0 ≤ i * (i + 1) := Int.mul_nonneg hi1 (by omega)
  have i1 : inR i 0 (n - 1) = true := inR_iff.2 (by omega)
  have i2 : inR j 0 (n - 1) = true := inR_iff.2 (by omega)
  have I1 := Lib.hid i1
  have I2 := Lib.hid i2
  clear i1 i2
  have hij : (i == j) = false := by rw [beq_eq_false_iff_ne]; omega
  go_enter Try.func171, Try.ntmps171
  go_wp2_with fail
  refine (sBaseMany_any _ _).mono ?_
  rintro e w' ⟨rfl, rfl⟩
  go_wp2_with fail
  refine (l6In_any _ _ _ _).mono ?_
  rintro e w' ⟨rfl, rfl⟩
  rw [I1.out]
  go_wp2_with fail
  refine (l6In_any _ _ _ _).mono ?_
  rintro e w' ⟨rfl, rfl⟩
  rw [I2.out]
  go_wp2_with fail
  go_ret
  refine ⟨ret_int ?_, rfl⟩
  rw [← hf.out]

/-- The program's BaseIndex, i less than j, both there. -/
theorem baseIndex_lt (n i j : Int) (w : World) (hn : 2 ≤ n ∧ n ≤ 7) (hi : 0 ≤ i ∧ i < j) (hj : j < n) :
    Calls Try.prog 157 #[.int .i64 n, .int .i64 i, .int .i64 j] w fun e w' => e = .returned (.int .i64 (bF n i j)) ∧ w = w' := by
  have I0 := Lib.hid (inR_iff.2 hn)
  have hij : (i == j) = false := by rw [beq_eq_false_iff_ne]; omega
  have HN := Lib.hid hn
  obtain ⟨hn1, hn2⟩ := hn
  obtain ⟨hi1, hi2⟩ := hi
  go_enter Try.func157, Try.ntmps157
  go_wp2_with (first
    | (go_at_call 159; refine (isMany_any _ _).mono ?_; rintro e w' ⟨rfl, rfl⟩; rw [I0.out])
    | (go_at_call 154; refine (baseAt_lt _ _ _ _ HN.out ⟨hi1, hi2⟩ hj).mono ?_; rintro e w' ⟨rfl, rfl⟩)
    | go_in)
  go_ret
  exact ⟨rfl, rfl⟩

/-! ### Lists of Gaussian integers -/
def allV (gs : List (Int × Int)) : Bool := gs.all fun g => gv g.1 g.2

theorem rd_pair {w : World} {B : Nat} {A : Option Addr} {gs : List (Int × Int)} (h : Rd w B A (gs.flatMap pairCells)) {k : Nat} {g : Int × Int} (hk : gs[k]? = some g) :
    ∃ b off, A = some ⟨b, off, none⟩ ∧ b < B ∧ w.cell? ⟨b, off + k * 2, none⟩ = some (.int .i64 g.1) ∧ w.cell? ⟨b, off + k * 2 + 1, none⟩ = some (.int .i64 g.2) := by
  obtain ⟨p0, p1⟩ := pairCells_get gs k g hk
  obtain ⟨b, off, e, hb, hc⟩ := h _ _ p0
  obtain ⟨b', off', e', _, hc'⟩ := h _ _ p1
  rw [e] at e'
  injection e' with e'
  injection e' with e1 e2
  subst e1; subst e2
  exact ⟨b, off, e, hb, hc, by rw [Nat.add_assoc]; exact hc'⟩

theorem allGauss_any (A : Option Addr) (n cap : Nat) (gs : List (Int × Int)) (w : World) (hn : gs.length = n) (hm : n ≤ 1000000000) (hr : Rd w w.heap.size A (gs.flatMap pairCells)) :
    Calls Try.prog 165 #[.slice A n cap] w fun e w' => e = .returned (.bool (allV gs)) ∧ Below w.heap.size w w' := by
  have Hn := Lib.hid hn; clear hn
  go_enter Try.func165, Try.ntmps165
  go_wp2_with fail
  go_loopw [7] (fun i wr => ∃ k : Nat, k ≤ n ∧ i = .int .i64 k ∧ allV (gs.take k) = true ∧ Below w.heap.size w wr) (fun i _ => n - (intOf i).toNat)
  case atStart => exact ⟨0, by omega, rfl, rfl, Below.refl _ _⟩
  case round =>
    obtain ⟨k, hk, rfl, hall, hbel⟩ := hrel
    have hr' := hr.below hbel
    have Hbel := Lib.hid hbel; clear hbel
    have Ha := Lib.hid hall; clear hall
    by_cases hlt : k < n
    · obtain ⟨g, hg⟩ : ∃ g, gs[k]? = some g := ⟨_, List.getElem?_eq_getElem (by rw [Hn.out]; exact hlt)⟩
      obtain ⟨b, off, rfl, hb, hc1, hc2⟩ := rd_pair hr' hg
      obtain ⟨g1, g2⟩ := g
      dsimp only at hc1 hc2
      have Hg := Lib.hid hg; clear hg
      go_wp2_with fail
      refine (gaussValid_any _ _ _).mono ?_
      rintro e w1 ⟨rfl, hb1⟩
      have Hb1 := Lib.hid (Below.step (Hbel.out.alloc Hbel.out.size _) hb1 (by have := Hbel.out.size; simp; omega))
      clear hb1
      cases hv : gv g1 g2
      · have Hv := Lib.hid hv; clear hv
        go_wp2_with fail
        go_ret
        refine ⟨ret_bool ?_, Hb1.out⟩
        symm
        unfold allV
        rw [List.all_eq_false]
        exact ⟨(g1, g2), List.mem_of_getElem? Hg.out, by rw [Hv.out]; simp⟩
      · have Hv := Lib.hid hv; clear hv
        go_wp2_with fail
        go_roundw
        case measure => simp [intOf]; omega
        case rel =>
          refine ⟨k + 1, by omega, by go_num, ?_, Hb1.out⟩
          rw [List.take_add_one, Hg.out]
          unfold allV
          rw [List.all_append]
          have := Ha.out
          unfold allV at this
          rw [this]
          simpa using Hv.out
    · obtain rfl : k = n := by omega
      go_wp2_with fail
      go_ret
      refine ⟨ret_bool ?_, Hbel.out⟩
      rw [← Ha.out, List.take_of_length_le (by rw [Hn.out]; exact Nat.le_refl _)]

/-- An observation of n antennas. -/
def obsV (n : Int) (gs : List (Int × Int)) : Bool := inR n 2 7 && (decide ((gs.length : Int) = bm n) && allV gs)

theorem isObservation_any (n : Int) (A : Option Addr) (m cap : Nat) (gs : List (Int × Int)) (w : World) (hn : gs.length = m) (hm : m ≤ 1000000000) (hr : Rd w w.heap.size A (gs.flatMap pairCells)) :
    Calls Try.prog 113 #[.int .i64 n, .slice A m cap] w fun e w' => e = .returned (.bool (obsV n gs)) ∧ Below w.heap.size w w' := by
  have Hn := Lib.hid hn; clear hn
  cases h1 : inR n 2 7
  · have H1 := Lib.hid h1; clear h1
    go_enter Try.func113, Try.ntmps113
    go_wp2_with fail
    refine (isMany_any _ _).mono ?_
    rintro e w' ⟨rfl, rfl⟩
    rw [H1.out]
    go_wp2_with fail
    go_ret
    exact ⟨ret_bool (by unfold obsV; rw [H1.out]; rfl), Below.refl _ _⟩
  · have H1 := Lib.hid h1; clear h1
    by_cases h2 : (m : Int) = bm n
    · have hb : ((m : Int) == bm n) = true := beq_iff_eq.2 h2
      have H2 := Lib.hid h2; clear h2
      go_enter Try.func113, Try.ntmps113
      go_wp2_with fail
      refine (isMany_any _ _).mono ?_
      rintro e w' ⟨rfl, rfl⟩
      rw [H1.out]
      go_wp2_with fail
      refine (baseMany_any _ _).mono ?_
      rintro e w' ⟨rfl, rfl⟩
      go_wp2_with fail
      refine (allGauss_any A m cap gs _ Hn.out hm hr).mono ?_
      rintro e w1 ⟨rfl, hb1⟩
      go_wp2_with fail
      go_ret
      exact ⟨ret_bool (by unfold obsV; rw [H1.out, Hn.out, decide_eq_true H2.out]; rfl), hb1⟩
    · have hb : ((m : Int) == bm n) = false := beq_eq_false_iff_ne.2 h2
      have H2 := Lib.hid h2; clear h2
      go_enter Try.func113, Try.ntmps113
      go_wp2_with fail
      refine (isMany_any _ _).mono ?_
      rintro e w' ⟨rfl, rfl⟩
      rw [H1.out]
      go_wp2_with fail
      refine (baseMany_any _ _).mono ?_
      rintro e w' ⟨rfl, rfl⟩
      go_wp2_with fail
      go_ret
      exact ⟨ret_bool (by unfold obsV; rw [H1.out, Hn.out, decide_eq_false H2.out]; rfl), Below.refl _ _⟩

theorem obsV_no {n : Int} {gs : List (Int × Int)} (h : bm n = 0 ∨ (gs.length : Int) ≠ bm n) : obsV n gs = false := by
  unfold obsV
  rcases h with h | h
  · cases h1 : inR n 2 7
    · rfl
    · have : (gs.length : Int) = bm n → False := fun h2 => by
        have h3 := inR_iff.1 h1
        rcases bm_cases n with ⟨_, h⟩ | ⟨_, h⟩ | ⟨_, h⟩ | ⟨_, h⟩ | ⟨_, h⟩ | ⟨_, h⟩ | ⟨h, _⟩ <;> omega
      rw [decide_eq_false this]; rfl
  · rw [decide_eq_false h]; simp

theorem l43Ok_any (n : Int) (A : Option Addr) (m cap : Nat) (gs : List (Int × Int)) (w : World) (hn : gs.length = m) (hm : m ≤ 1000000000) (hr : Rd w w.heap.size A (gs.flatMap pairCells)) :
    Calls Try.prog 107 #[.int .i64 n, .slice A m cap] w fun e w' => e = .returned (.bool (obsV n gs)) ∧ Below w.heap.size w w' := by
  have Hn := Lib.hid hn; clear hn
  by_cases h1 : bm n = 0
  · have hb : (bm n == 0) = true := beq_iff_eq.2 h1
    have H1 := Lib.hid h1; clear h1
    go_enter Try.func107, Try.ntmps107
    go_wp2_with fail
    refine (sBaseMany_any _ _).mono ?_
    rintro e w' ⟨rfl, rfl⟩
    go_wp2_with fail
    go_ret
    exact ⟨ret_bool (obsV_no (.inl H1.out)).symm, Below.refl _ _⟩
  · have hb : (bm n == 0) = false := beq_eq_false_iff_ne.2 h1
    have H1 := Lib.hid h1; clear h1
    by_cases h2 : (m : Int) = bm n
    · have hb2 : ((m : Int) != bm n) = false := by rw [bne_eq_false_iff_eq]; exact h2
      have H2 := Lib.hid h2; clear h2
      go_enter Try.func107, Try.ntmps107
      go_wp2_with fail
      refine (sBaseMany_any _ _).mono ?_
      rintro e w' ⟨rfl, rfl⟩
      go_wp2_with fail
      refine (sBaseMany_any _ _).mono ?_
      rintro e w' ⟨rfl, rfl⟩
      go_wp2_with fail
      go_loopw [5] (fun i wr => ∃ k : Nat, k ≤ m ∧ i = .int .i64 k ∧ allV (gs.take k) = true ∧ Below w.heap.size w wr) (fun i _ => m - (intOf i).toNat)
      case atStart => exact ⟨0, by omega, rfl, rfl, Below.refl _ _⟩
      case round =>
        obtain ⟨k, hk, rfl, hall, hbel⟩ := hrel
        have hr' := hr.below hbel
        have Hbel := Lib.hid hbel; clear hbel
        have Ha := Lib.hid hall; clear hall
        by_cases hlt : k < m
        · obtain ⟨g, hg⟩ : ∃ g, gs[k]? = some g := ⟨_, List.getElem?_eq_getElem (by rw [Hn.out]; exact hlt)⟩
          obtain ⟨b, off, rfl, hbb, hc1, hc2⟩ := rd_pair hr' hg
          obtain ⟨g1, g2⟩ := g
          dsimp only at hc1 hc2
          have Hg := Lib.hid hg; clear hg
          go_wp2_with fail
          refine (sGaussValid_any _ _ _).mono ?_
          rintro e w1 ⟨rfl, hb1⟩
          have Hb1 := Lib.hid (Below.step Hbel.out hb1 Hbel.out.size)
          clear hb1
          cases hv : gv g1 g2
          · have Hv := Lib.hid hv; clear hv
            go_wp2_with fail
            go_ret
            refine ⟨ret_bool ?_, Hb1.out⟩
            symm
            unfold obsV
            rw [show allV gs = false from by
              unfold allV
              rw [List.all_eq_false]
              exact ⟨(g1, g2), List.mem_of_getElem? Hg.out, by rw [Hv.out]; simp⟩]
            simp
          · have Hv := Lib.hid hv; clear hv
            go_wp2_with fail
            go_roundw
            case measure => simp [intOf]; omega
            case rel =>
              refine ⟨k + 1, by omega, by go_num, ?_, Hb1.out⟩
              rw [List.take_add_one, Hg.out]
              unfold allV
              rw [List.all_append]
              have := Ha.out
              unfold allV at this
              rw [this]
              simpa using Hv.out
        · obtain rfl : k = m := by omega
          go_wp2_with fail
          go_ret
          refine ⟨ret_bool ?_, Hbel.out⟩
          have h3 := Ha.out
          rw [List.take_of_length_le (by rw [Hn.out]; exact Nat.le_refl _)] at h3
          unfold obsV
          rw [h3, Hn.out, decide_eq_true H2.out]
          have : inR n 2 7 = true := by
            rw [inR_iff]
            rcases bm_cases n with ⟨_, h⟩ | ⟨_, h⟩ | ⟨_, h⟩ | ⟨_, h⟩ | ⟨_, h⟩ | ⟨_, h⟩ | ⟨_, h⟩
            all_goals first | omega | exact absurd h H1.out
          rw [this]; rfl
    · have hb2 : ((m : Int) != bm n) = true := by rw [bne_iff_ne]; exact h2
      have H2 := Lib.hid h2; clear h2
      go_enter Try.func107, Try.ntmps107
      go_wp2_with fail
      refine (sBaseMany_any _ _).mono ?_
      rintro e w' ⟨rfl, rfl⟩
      go_wp2_with fail
      refine (sBaseMany_any _ _).mono ?_
      rintro e w' ⟨rfl, rfl⟩
      go_wp2_with fail
      go_ret
      exact ⟨ret_bool (obsV_no (.inr (by rw [Hn.out]; exact H2.out))).symm, Below.refl _ _⟩
end Go.Proofs.Ytcllkocmnohnkaa
