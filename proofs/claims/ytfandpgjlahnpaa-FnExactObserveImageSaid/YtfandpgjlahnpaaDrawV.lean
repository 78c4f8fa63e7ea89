/- The draws of two observations to be solved. -/
import Derived.Test.YtfandpgjlahnpaaDrawN
import Derived.Test.YtfandpgjlahnpaaTurnT
import Derived.Test.YtfandpgjlahnpaaA4
namespace Go.Proofs.Ytfandpgjlahnpaa
open Go.RowKit

theorem rd_lt {w : World} {B : Nat} {A : Option Addr} {xs : List Value} (h : Rd w B A xs) : ∀ b off, A = some ⟨b, off, none⟩ → b < B ∨ xs = [] := fun b off e => by
  cases xs with
  | nil => exact .inr rfl
  | cons x r =>
    obtain ⟨b', off', e', hb, _⟩ := h 0 x rfl
    rw [e] at e'
    injection e' with e'
    injection e' with e1
    exact .inl (by omega)
theorem turnR_le (n : Int) (gs : List (Int × Int)) (q : List Int) : (turnR n gs q).length ≤ 21 := by
  unfold turnR
  split
  · rename_i h
    have h1 : obsV n gs = true := by
      unfold turnOK at h
      rw [Bool.and_eq_true] at h
      exact h.1
    obtain ⟨k, rfl, k2, k7, _⟩ := obsV_of h1
    rw [turnedOf_len, Int.toNat_natCast]
    have := bm_pairs k k2 k7; have := bm_le k; omega
  · simp
theorem turnR_ge {n : Int} {gs : List (Int × Int)} {q : List Int} (h : turnOK n gs q = true) : 1 ≤ (turnR n gs q).length := by
  unfold turnR
  rw [h, if_pos rfl]
  have h1 : obsV n gs = true := by
    unfold turnOK at h
    rw [Bool.and_eq_true] at h
    exact h.1
  obtain ⟨k, rfl, k2, k7, _⟩ := obsV_of h1
  rw [turnedOf_len, Int.toNat_natCast]
  have := bm_pairs k k2 k7; have := bm_cases k; omega
theorem l91Part_any (R : Nat) (p : Int) (w : World) (hp : 0 ≤ p ∧ p ≤ 900000) (h : IsRd w R p) :
    Calls Try.prog 143 #[.pointer (some ⟨R, 0, none⟩)] w fun e w' => ∃ x : Int, e = .returned (.int .i64 x) ∧ IsRd w' R (p + 2) ∧ w.grownBy w' (some R) := by
  have hlt := h.lt
  go_enter Try.func143, Try.ntmps143
  go_wp2_with fail
  refine (pick2 R p 12 _ (by omega) (by omega) h).mono ?_
  rintro e w1 ⟨x, rfl, x0, x12, hrd1, g1⟩
  have hw1 := hrd1.lt
  by_cases hx0 : x = 0
  · subst hx0
    go_wp2_with fail
    have rb := Row.new w1 3 [.int .i64 1000000000, .int .i64 (-1000000000), .int .i64 30000, .int .i64 (-30000)]
    have g2 := World.grownBy_alloc w1 (.cells #[.int .i64 1000000000, .int .i64 (-1000000000), .int .i64 30000, .int .i64 (-30000)] 3) (some R)
    refine (pick2 R (p + 1) 4 _ (by omega) (by omega) (h.kept (Below.refl _ _) |> fun _ => hrd1.kept bA1)).mono ?_
    rintro e w2 ⟨y, rfl, y0, y4, hrd2, g3⟩
    have rb := rb.grown g3 (by simp; omega)
    have G := grown_trans (grown_trans g1 g2) g3
    obtain ⟨v, hv⟩ : ∃ v : Int, w2.cell? ⟨w1.heap.size, y.toNat, none⟩ = some (.int .i64 v) := by
      rw [rb.cell]
      have : y = 0 ∨ y = 1 ∨ y = 2 ∨ y = 3 := by omega
      rcases this with rfl | rfl | rfl | rfl <;> exact ⟨_, rfl⟩
    obtain ⟨a, rfl⟩ : ∃ a : Nat, y = a := ⟨y.toNat, by omega⟩
    rw [Int.toNat_natCast] at hv
    have Hrd2 := Lib.hid hrd2; clear hrd2
    have hidX := Lib.hid G; clear G; have G := hidX; clear hidX
    clear rb g1 g2 g3
    go_wp2_with fail
    go_ret
    exact ⟨v, rfl, by rw [show p + 2 = p + 1 + 1 from by omega]; exact Hrd2.out, G.out⟩
  · have hx0 : (x == 0) = false := beq_eq_false_iff_ne.2 hx0
    by_cases hx1 : x = 1
    · subst hx1
      go_wp2_with fail
      refine (pick2 R (p + 1) 200 _ (by omega) (by omega) hrd1).mono ?_
      rintro e w2 ⟨y, rfl, y0, y4, hrd2, g2⟩
      have G := grown_trans g1 g2
      have Hrd2 := Lib.hid hrd2; clear hrd2
      have hidX := Lib.hid G; clear G; have G := hidX; clear hidX
      clear g1 g2
      go_wp2_with fail
      go_ret
      exact ⟨_, rfl, by rw [show p + 2 = p + 1 + 1 from by omega]; exact Hrd2.out, G.out⟩
    · have hx1 : (x == 1) = false := beq_eq_false_iff_ne.2 hx1
      go_wp2_with fail
      refine (pick2 R (p + 1) 13 _ (by omega) (by omega) hrd1).mono ?_
      rintro e w2 ⟨y, rfl, y0, y4, hrd2, g2⟩
      have G := grown_trans g1 g2
      have Hrd2 := Lib.hid hrd2; clear hrd2
      have hidX := Lib.hid G; clear G; have G := hidX; clear hidX
      clear g1 g2
      go_wp2_with fail
      go_ret
      exact ⟨_, rfl, by rw [show p + 2 = p + 1 + 1 from by omega]; exact Hrd2.out, G.out⟩

theorem l91Gauss_any (R : Nat) (p : Int) (w : World) (hp : 0 ≤ p ∧ p ≤ 800000) (h : IsRd w R p) :
    Calls Try.prog 139 #[.pointer (some ⟨R, 0, none⟩)] w fun e w' => ∃ x y : Int, e = .returned (.agg #[.int .i64 x, .int .i64 y]) ∧ IsRd w' R (p + 4) ∧ w.grownBy w' (some R) := by
  have hlt := h.lt
  have r0 := Row.new w 31 [.int .i64 0, .int .i64 0]
  have g0 := World.grownBy_alloc w (.cells #[.int .i64 0, .int .i64 0] 31) (some R)
  have h1 := h.kept (bA1 (o := .cells #[.int .i64 0, .int .i64 0] 31))
  go_enter Try.func139, Try.ntmps139
  go_wp2_with fail
  refine (l91Part_any R p _ (by omega) h1).mono ?_
  rintro e w1 ⟨x, rfl, hrd1, g1⟩
  go_wp2_with fail
  refine (l91Part_any R (p + 2) _ (by omega) hrd1).mono ?_
  rintro e w2 ⟨y, rfl, hrd2, g2⟩
  have r2 := (r0.grown g1 (by simp; omega)).grown g2 (by simp; omega)
  obtain ⟨c0, c1, f0, f1⟩ := r2.two
  have G := grown_trans (grown_trans g0 g1) g2
  have r3 := (r2.set_ 0 (.int .i64 x)).set_ 1 (.int .i64 y)
  have hrd3 := (hrd2.over (grown_set w2 w.heap.size 0 (.int .i64 x)) (fun j e => by cases e; omega)).over (grown_set _ w.heap.size 1 (.int .i64 y)) (fun j e => by cases e; omega)
  have G3 := grown_far (grown_far G (grown_set w2 w.heap.size 0 (.int .i64 x)) (fun j e => by cases e; exact Nat.le_refl _)) (grown_set _ w.heap.size 1 (.int .i64 y)) (fun j e => by cases e; exact Nat.le_refl _)
  rw [show p + 2 + 2 = p + 4 from by omega] at hrd3
  have Hrd3 := Lib.hid hrd3; clear hrd3
  have hidX := Lib.hid G3; clear G3; have G3 := hidX; clear hidX
  clear g0 g1 g2 G h1
  go_wp2_with fail
  generalize (w2.setCell ⟨w.heap.size, 0, none⟩ (.int .i64 x)).setCell ⟨w.heap.size, 1, none⟩ (.int .i64 y) = V at r3 Hrd3 G3 ⊢
  obtain ⟨d0, d1, _, _⟩ := r3.two
  refine bodyPost_ret (v := .agg #[.int .i64 x, .int .i64 y]) (by simp [results, Try.results139, go_sem, d0, d1]) rfl ⟨x, y, rfl, Hrd3.out, G3.out⟩

end Go.Proofs.Ytfandpgjlahnpaa
