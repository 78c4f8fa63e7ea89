/- What the laws on grids have in common. -/
import Derived.Test.YtfandpgjlahnpaaGridA
import Derived.Test.YtfandpgjlahnpaaDrawG
namespace Go.Proofs.Ytfandpgjlahnpaa
open Go.RowKit
theorem gridR_len (ants seen : List (Int × Int)) : ((gridR ants seen).getD []).length ≤ 16 := by
  cases h : gridR ants seen with
  | none => simp
  | some g => have := (gridO_is (gridR_is h).2.2).1; simp; omega
theorem gv_of {gs : List (Int × Int)} (h : allV gs = true) : gLe 1000000000 gs := fun y hy => gv_iff.1 (List.all_eq_true.1 h y hy)
theorem gv_get {gs : List (Int × Int)} (h : gLe 1000000000 gs) (k : Nat) : gv (gs.getD k (0, 0)).1 (gs.getD k (0, 0)).2 = true := gv_iff.2 (gLe_get h (by omega) k)
set_option maxHeartbeats 400000 in
theorem iGaussConj_yes (a b : Int) (w : World) (h : gv a b = true) :
    Calls Try.prog 49 #[.agg #[.int .i64 a, .int .i64 b]] w fun e w' => e = .returned (.tuple #[.agg #[.int .i64 a, .int .i64 (-b)], .bool true]) ∧ Below w.heap.size w w' := by
  obtain ⟨ga, gb⟩ := gv_iff.1 h
  have H := Lib.hid h
  clear h
  go_enter Try.func49, Try.ntmps49
  go_wp2_with fail
  refine (gaussValid_any _ _ _).mono ?_
  rintro e w1 ⟨rfl, hb1⟩
  rw [H.out]
  have r0 := (((Row.new0 w 31 [.int .i64 a, .int .i64 b]).alloc (.cells #[.int .i64 0, .int .i64 0] 31)).kept hb1)
  have r1 := ((Row.new1 w (.cells #[.int .i64 a, .int .i64 b] 31) 31 [.int .i64 0, .int .i64 0]).kept hb1)
  have Hb := Lib.hid (Below.step bA2 hb1 (by simp; omega))
  clear hb1
  obtain ⟨a0, a1, _, _⟩ := r0.two
  go_wp2_with fail
  refine (gaussConj_any _ _ _ gb).mono ?_
  rintro e w2 ⟨rfl, hb2⟩
  have r1 := r1.kept hb2
  have Hb2 := Lib.hid (Below.step Hb.out hb2 Hb.out.size)
  clear hb2 Hb a0 a1 r0
  obtain ⟨c0, c1, f0, f1⟩ := r1.two
  clear r1
  go_wp2_with fail
  refine bodyPost_ret (v := .tuple #[.agg #[.int .i64 a, .int .i64 (-b)], .bool true]) (by simp [results, Try.results49, go_sem, c0, c1]) rfl ⟨rfl, ?_⟩
  exact (Hb2.out.setCell (p := ⟨w.heap.size + 1, 0, none⟩) (by show w.heap.size ≤ w.heap.size + 1; omega) _).setCell (p := ⟨w.heap.size + 1, 1, none⟩) (by show w.heap.size ≤ w.heap.size + 1; omega) _
theorem conj_cell (k : Nat) (h : k < 16) : cellI (-((k : Int) % 4)) (-((k : Int) / 4)) = (oppN k : Int) := by
  have : ∀ k : Nat, k < 16 → cellI (-((k : Int) % 4)) (-((k : Int) / 4)) = (oppN k : Int) := by decide +kernel
  exact this k h
end Go.Proofs.Ytfandpgjlahnpaa
