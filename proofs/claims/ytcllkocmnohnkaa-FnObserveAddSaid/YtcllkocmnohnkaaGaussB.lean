/- Gaussian integers, more: the reference's product and conjugate, the norm, and the laws' own small functions. -/
import Derived.Test.YtcllkocmnohnkaaGauss
namespace Go.Proofs.Ytcllkocmnohnkaa
open Go.RowKit

theorem bA1 {w : World} {o : Obj} : Below w.heap.size w (w.alloc o) := (Below.refl _ _).alloc (Nat.le_refl _) _
theorem bA2 {w : World} {o o' : Obj} : Below w.heap.size w ((w.alloc o).alloc o') := bA1.alloc (by simp) _
theorem bA3 {w : World} {o o' o2 : Obj} : Below w.heap.size w (((w.alloc o).alloc o').alloc o2) := bA2.alloc (by simp; omega) _
/-- Over a callee that leaves what was there. -/
theorem Below.step {B : Nat} {a w w' : World} (h : Below B a w) (k : Below w.heap.size w w') (hB : B ≤ w.heap.size) : Below B a w' := h.trans (k.mono hB)
theorem set2 {B : Nat} {a w : World} {g : Nat} {u v : Value} (h : Below B a w) (hg : B ≤ g) : Below B a ((w.setCell ⟨g, 0, none⟩ u).setCell ⟨g, 1, none⟩ v) :=
  (h.setCell (p := ⟨g, 0, none⟩) hg _).setCell (p := ⟨g, 1, none⟩) hg _

/-- The conjugate of a valid number. -/
theorem sGaussConj_yes (a b : Int) (w : World) (h : gv a b = true) :
    Calls Try.prog 152 #[.agg #[.int .i64 a, .int .i64 b]] w fun e w' =>
      e = .returned (.tuple #[.agg #[.int .i64 a, .int .i64 (-b)], .bool true]) ∧ Below w.heap.size w w' := by
  obtain ⟨ga, gb⟩ := gv_iff.1 h
  have h2 : gv a (-b) = true := gv_iff.2 ⟨ga, by omega⟩
  have H := Lib.hid h
  have H2 := Lib.hid h2
  clear h h2
  obtain ⟨gb1, gb2⟩ := gb
  go_enter Try.func152, Try.ntmps152
  go_wp2_with fail
  refine (sGaussValid_any _ _ _).mono ?_
  rintro e w1 ⟨rfl, hb1⟩
  rw [H.out]
  have r0 := (((Row.new0 w 49 [.int .i64 a, .int .i64 b]).alloc (.cells #[.int .i64 0, .int .i64 0] 49)).kept hb1)
  have r1 := ((Row.new1 w (.cells #[.int .i64 a, .int .i64 b] 49) 49 [.int .i64 0, .int .i64 0]).kept hb1)
  have Hb := Lib.hid (Below.step bA2 hb1 (by simp; omega))
  clear hb1
  obtain ⟨a0, a1, _, _⟩ := r0.two
  go_wp2_with fail
  refine (l1Made_any _ _ _).mono ?_
  rintro e w2 ⟨rfl, hb2⟩
  rw [H2.out]
  have r1 := r1.kept hb2
  have Hb2 := Lib.hid (Below.step Hb.out hb2 Hb.out.size)
  clear hb2 Hb a0 a1 r0
  obtain ⟨c0, c1, f0, f1⟩ := r1.two
  clear r1
  go_wp2_with fail
  refine bodyPost_ret (by simp [results, Try.results152, go_sem, c0, c1]; rfl) rfl ⟨by simp, ?_⟩
  exact set2 Hb2.out (by omega)

/-- The norm; -1 of an invalid number. -/
def gNorm (a b : Int) : Int := if gv a b then a * a + b * b else -1
theorem gaussNorm_any (a b : Int) (w : World) :
    Calls Try.prog 52 #[.agg #[.int .i64 a, .int .i64 b]] w fun e w' => e = .returned (.int .i64 (gNorm a b)) ∧ Below w.heap.size w w' := by
  go_enter Try.func52, Try.ntmps52
  go_wp2_with fail
  refine (gaussValid_any _ _ _).mono ?_
  rintro e w1 ⟨rfl, hb1⟩
  have r0 := ((Row.new0 w 49 [.int .i64 a, .int .i64 b]).kept hb1)
  have Hb := Lib.hid (Below.step bA1 hb1 (by simp))
  clear hb1
  obtain ⟨a0, a1, _, _⟩ := r0.two
  clear r0
  cases h1 : gv a b
  · have Hm := Lib.hid (show gNorm a b = -1 by unfold gNorm; rw [h1]; rfl)
    clear h1
    go_wp2_with fail
    go_ret
    exact ⟨ret_int Hm.out.symm, Hb.out⟩
  · obtain ⟨ga, gb⟩ := gv_iff.1 h1
    have Hm := Lib.hid (show gNorm a b = a * a + b * b by unfold gNorm; rw [h1]; rfl)
    have m1 := mul_bd a a _ _ ga ga
    have m2 := mul_bd b b _ _ gb gb
    simp only [Int.reduceMul, Int.reduceNeg] at m1 m2
    clear h1
    go_wp2_with fail
    go_ret
    exact ⟨ret_int Hm.out.symm, Hb.out⟩

theorem eqGauss_any (a b c d : Int) (w : World) :
    Calls Try.prog 116 #[.agg #[.int .i64 a, .int .i64 b], .agg #[.int .i64 c, .int .i64 d]] w fun e w' => e = .returned (.bool (decide ((a, b) = (c, d)))) ∧ Below w.heap.size w w' := by
  by_cases h1 : a = c
  · subst h1
    by_cases h2 : b = d
    · subst h2
      go_enter Try.func116, Try.ntmps116
      go_wp2_with fail
      go_ret
      exact ⟨ret_bool (by simp), bA2⟩
    · have hb : (b != d) = true := by rw [bne_iff_ne]; exact h2
      have H2 := Lib.hid h2
      clear h2
      go_enter Try.func116, Try.ntmps116
      go_wp2_with fail
      go_ret
      exact ⟨ret_bool (by simp [H2.out]), bA2⟩
  · have hb : (a != c) = true := by rw [bne_iff_ne]; exact h1
    have H1 := Lib.hid h1
    clear h1
    go_enter Try.func116, Try.ntmps116
    go_wp2_with fail
    go_ret
    exact ⟨ret_bool (by simp [H1.out]), bA2⟩

theorem toGauss_any (a b : Int) (w : World) :
    Calls Try.prog 112 #[.agg #[.int .i64 a, .int .i64 b]] w fun e w' => e = .returned (.agg #[.int .i64 a, .int .i64 b]) ∧ Below w.heap.size w w' := by
  go_enter Try.func112, Try.ntmps112
  go_wp2_with fail
  refine bodyPost_ret (v := .agg #[.int .i64 a, .int .i64 b]) (by simp [results, Try.results112, go_sem]) rfl ⟨rfl, ?_⟩
  exact bA3

theorem lrest4_any (n : Int) (w : World) :
    Calls Try.prog 160 #[.int .i64 n, .int .i64 4] w fun e w' => e = .returned (.int .i64 (n % 4)) ∧ w = w' := by
  go_enter Try.func160, Try.ntmps160
  go_wp2
  go_ret
  exact ⟨ret_int (circle4_eq n), rfl⟩
end Go.Proofs.Ytcllkocmnohnkaa
