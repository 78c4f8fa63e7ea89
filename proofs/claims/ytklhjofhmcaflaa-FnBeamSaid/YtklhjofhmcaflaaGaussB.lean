/- Gaussian integers, more: the reference's product and conjugate, the norm, and the laws' own small functions. -/
import Derived.Test.YtklhjofhmcaflaaGauss
namespace Go.Proofs.Ytklhjofhmcaflaa
open Go.RowKit

theorem bA1 {w : World} {o : Obj} : Below w.heap.size w (w.alloc o) := (Below.refl _ _).alloc (Nat.le_refl _) _
theorem bA2 {w : World} {o o' : Obj} : Below w.heap.size w ((w.alloc o).alloc o') := bA1.alloc (by simp) _
theorem bA3 {w : World} {o o' o2 : Obj} : Below w.heap.size w (((w.alloc o).alloc o').alloc o2) := bA2.alloc (by simp; omega) _
/-- Over a callee that leaves what was there. -/
theorem Below.step {B : Nat} {a w w' : World} (h : Below B a w) (k : Below w.heap.size w w') (hB : B ≤ w.heap.size) : Below B a w' := h.trans (k.mono hB)
theorem set2 {B : Nat} {a w : World} {g : Nat} {u v : Value} (h : Below B a w) (hg : B ≤ g) : Below B a ((w.setCell ⟨g, 0, none⟩ u).setCell ⟨g, 1, none⟩ v) :=
  (h.setCell (p := ⟨g, 0, none⟩) hg _).setCell (p := ⟨g, 1, none⟩) hg _

set_option maxRecDepth 100000 in
theorem sGaussMul_any (a b c d : Int) (w : World) :
    Calls Try.prog 58 #[.agg #[.int .i64 a, .int .i64 b], .agg #[.int .i64 c, .int .i64 d]] w fun e w' =>
      e = .returned (.tuple #[.agg #[.int .i64 (gMul a b c d).1.1, .int .i64 (gMul a b c d).1.2], .bool (gMul a b c d).2]) ∧ Below w.heap.size w w' := by
  go_enter Try.func58, Try.ntmps58
  go_wp2_with fail
  refine (sGaussValid_any _ _ _).mono ?_
  rintro e w1 ⟨rfl, hb1⟩
  have r0 := ((((Row.new0 w 33 [.int .i64 a, .int .i64 b]).alloc (.cells #[.int .i64 c, .int .i64 d] 33)).alloc (.cells #[.int .i64 0, .int .i64 0] 33)).kept hb1)
  have r1 := (((Row.new1 w (.cells #[.int .i64 a, .int .i64 b] 33) 33 [.int .i64 c, .int .i64 d]).alloc (.cells #[.int .i64 0, .int .i64 0] 33)).kept hb1)
  have r2 := ((Row.new2 w (.cells #[.int .i64 a, .int .i64 b] 33) (.cells #[.int .i64 c, .int .i64 d] 33) 33 [.int .i64 0, .int .i64 0]).kept hb1)
  have Hb := Lib.hid (Below.step bA3 hb1 (by simp; omega))
  clear hb1
  obtain ⟨a0, a1, _, _⟩ := r0.two
  obtain ⟨b0, b1, _, _⟩ := r1.two
  obtain ⟨c0, c1, f0, f1⟩ := r2.two
  cases h1 : gv a b
  · have Hm := Lib.hid (gMul_1 (c := c) (d := d) h1)
    clear h1 r0 r1 r2
    go_wp2_with fail
    refine bodyPost_ret (by simp [results, Try.results58, go_sem, c0, c1]; rfl) rfl ⟨by rw [Hm.out], ?_⟩
    exact set2 Hb.out (by omega)
  · have H1 := Lib.hid h1
    clear h1
    go_wp2_with fail
    refine (sGaussValid_any _ _ _).mono ?_
    rintro e w2 ⟨rfl, hb2⟩
    have r0 := r0.kept hb2
    have r1 := r1.kept hb2
    have r2 := r2.kept hb2
    have Hb2 := Lib.hid (Below.step Hb.out hb2 Hb.out.size)
    clear hb2 a0 a1 b0 b1 c0 c1 f0 f1 Hb
    obtain ⟨a0, a1, _, _⟩ := r0.two
    obtain ⟨b0, b1, _, _⟩ := r1.two
    obtain ⟨c0, c1, f0, f1⟩ := r2.two
    cases h2 : gv c d
    · have Hm := Lib.hid (gMul_2 (a := a) (b := b) h2)
      clear h2 r0 r1 r2
      go_wp2_with fail
      refine bodyPost_ret (by simp [results, Try.results58, go_sem, c0, c1]; rfl) rfl ⟨by rw [Hm.out], ?_⟩
      exact set2 Hb2.out (by omega)
    · obtain ⟨ga, gb⟩ := gv_iff.1 H1.out
      obtain ⟨gc, gd⟩ := gv_iff.1 h2
      have Hm := Lib.hid (gMul_3 H1.out h2)
      have m1 := mul_bd a c _ _ ga gc
      have m2 := mul_bd b d _ _ gb gd
      have m3 := mul_bd a d _ _ ga gd
      have m4 := mul_bd b c _ _ gb gc
      simp only [Int.reduceMul, Int.reduceNeg] at m1 m2 m3 m4
      clear h2 r0 r1
      go_wp2_with fail
      refine (l1Made_any _ _ _).mono ?_
      rintro e w3 ⟨rfl, hb3⟩
      have r2 := r2.kept hb3
      have Hb3 := Lib.hid (Below.step Hb2.out hb3 Hb2.out.size)
      clear hb3 Hb2 a0 a1 b0 b1 c0 c1 f0 f1
      obtain ⟨c0, c1, f0, f1⟩ := r2.two
      clear r2
      generalize hg : gv (a * c - b * d) (a * d + b * c) = g at Hm ⊢
      generalize hx : (if g = true then a * c - b * d else 0) = x at Hm ⊢
      generalize hy : (if g = true then a * d + b * c else 0) = y at Hm ⊢
      clear hg hx hy m1 m2 m3 m4
      go_wp2_with fail
      refine bodyPost_ret (by simp [results, Try.results58, go_sem, c0, c1]; rfl) rfl ⟨by rw [Hm.out], ?_⟩
      exact set2 Hb3.out (by omega)

/-- The conjugate of a valid number. -/
theorem sGaussConj_yes (a b : Int) (w : World) (h : gv a b = true) :
    Calls Try.prog 56 #[.agg #[.int .i64 a, .int .i64 b]] w fun e w' =>
      e = .returned (.tuple #[.agg #[.int .i64 a, .int .i64 (-b)], .bool true]) ∧ Below w.heap.size w w' := by
  obtain ⟨ga, gb⟩ := gv_iff.1 h
  have h2 : gv a (-b) = true := gv_iff.2 ⟨ga, by omega⟩
  have H := Lib.hid h
  have H2 := Lib.hid h2
  clear h h2
  obtain ⟨gb1, gb2⟩ := gb
  go_enter Try.func56, Try.ntmps56
  go_wp2_with fail
  refine (sGaussValid_any _ _ _).mono ?_
  rintro e w1 ⟨rfl, hb1⟩
  rw [H.out]
  have r0 := (((Row.new0 w 33 [.int .i64 a, .int .i64 b]).alloc (.cells #[.int .i64 0, .int .i64 0] 33)).kept hb1)
  have r1 := ((Row.new1 w (.cells #[.int .i64 a, .int .i64 b] 33) 33 [.int .i64 0, .int .i64 0]).kept hb1)
  have Hb := Lib.hid (Below.step bA2 hb1 (by simp; omega))
  clear hb1
  obtain ⟨a0, a1, _, _⟩ := r0.two
  go_wp2_with fail
  refine (l1Made_any _ _ _).mono ?_
  rintro e w2 ⟨rfl, hb2⟩
  rw [H2.out]
  have r1 := r1.kept hb2
  have Hb2 := Lib.hid (Below.step Hb.out hb2 Hb.out.size)
  clear hb2 Hb a0 a1 r0
  obtain ⟨c0, c1, f0, f1⟩ := r1.two
  clear r1
  go_wp2_with fail
  refine bodyPost_ret (by simp [results, Try.results56, go_sem, c0, c1]; rfl) rfl ⟨by simp, ?_⟩
  exact set2 Hb2.out (by omega)

/-- The norm; -1 of an invalid number. -/
def gNorm (a b : Int) : Int := if gv a b then a * a + b * b else -1
theorem gaussNorm_any (a b : Int) (w : World) :
    Calls Try.prog 31 #[.agg #[.int .i64 a, .int .i64 b]] w fun e w' => e = .returned (.int .i64 (gNorm a b)) ∧ Below w.heap.size w w' := by
  go_enter Try.func31, Try.ntmps31
  go_wp2_with fail
  refine (gaussValid_any _ _ _).mono ?_
  rintro e w1 ⟨rfl, hb1⟩
  have r0 := ((Row.new0 w 33 [.int .i64 a, .int .i64 b]).kept hb1)
  have Hb := Lib.hid (Below.step bA1 hb1 (by simp))
  clear hb1
  obtain ⟨a0, a1, _, _⟩ := r0.two
  clear r0
  cases h1 : gv a b
  · have Hm := Lib.hid (show gNorm a b = -1 by unfold gNorm; rw [h1]; rfl)
    clear h1
    go_wp2_with fail
    go_ret
    exact ⟨ret_int Hm.out.symm, Hb.out⟩
  · obtain ⟨ga, gb⟩ := gv_iff.1 h1
    have Hm := Lib.hid (show gNorm a b = a * a + b * b by unfold gNorm; rw [h1]; rfl)
    have m1 := mul_bd a a _ _ ga ga
    have m2 := mul_bd b b _ _ gb gb
    simp only [Int.reduceMul, Int.reduceNeg] at m1 m2
    clear h1
    go_wp2_with fail
    go_ret
    exact ⟨ret_int Hm.out.symm, Hb.out⟩

theorem eqGauss_any (a b c d : Int) (w : World) :
    Calls Try.prog 24 #[.agg #[.int .i64 a, .int .i64 b], .agg #[.int .i64 c, .int .i64 d]] w fun e w' => e = .returned (.bool (decide ((a, b) = (c, d)))) ∧ Below w.heap.size w w' := by
  by_cases h1 : a = c
  · subst h1
    by_cases h2 : b = d
    · subst h2
      go_enter Try.func24, Try.ntmps24
      go_wp2_with fail
      go_ret
      exact ⟨ret_bool (by simp), bA2⟩
    · have hb : (b != d) = true := by rw [bne_iff_ne]; exact h2
      have H2 := Lib.hid h2
      clear h2
      go_enter Try.func24, Try.ntmps24
      go_wp2_with fail
      go_ret
      exact ⟨ret_bool (by simp [H2.out]), bA2⟩
  · have hb : (a != c) = true := by rw [bne_iff_ne]; exact h1
    have H1 := Lib.hid h1
    clear h1
    go_enter Try.func24, Try.ntmps24
    go_wp2_with fail
    go_ret
    exact ⟨ret_bool (by simp [H1.out]), bA2⟩

theorem toGauss_any (a b : Int) (w : World) :
    Calls Try.prog 59 #[.agg #[.int .i64 a, .int .i64 b]] w fun e w' => e = .returned (.agg #[.int .i64 a, .int .i64 b]) ∧ Below w.heap.size w w' := by
  go_enter Try.func59, Try.ntmps59
  go_wp2_with fail
  refine bodyPost_ret (v := .agg #[.int .i64 a, .int .i64 b]) (by simp [results, Try.results59, go_sem]) rfl ⟨rfl, ?_⟩
  exact bA3

theorem lrest4_any (n : Int) (w : World) :
    Calls Try.prog 47 #[.int .i64 n, .int .i64 4] w fun e w' => e = .returned (.int .i64 (n % 4)) ∧ w = w' := by
  go_enter Try.func47, Try.ntmps47
  go_wp2
  go_ret
  exact ⟨ret_int (circle4_eq n), rfl⟩
end Go.Proofs.Ytklhjofhmcaflaa
