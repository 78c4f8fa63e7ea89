/- 'spec.l21Back' and 'spec.l23Mask'. -/
import Derived.Test.YtfandpgjlahnpaaSkyT
import Derived.StillTailTactics
namespace Go.Proofs.Ytfandpgjlahnpaa
open Go.RowKit

theorem bcl {B : Nat} {w w' : World} (h : Below B w w') {b : Nat} (hb : b < B) (o : Nat) : w'.cell? ⟨b, o, none⟩ = w.cell? ⟨b, o, none⟩ := h.cell (p := ⟨b, o, none⟩) hb
theorem trT_unit (g : List (Int × Int)) (t n : Nat) : trT g (-1) t (n + 1) =
    ((trT g (-1) t n).1 + (g.getD n (0, 0)).1 * (unit (-(ph t n))).1 - (g.getD n (0, 0)).2 * (unit (-(ph t n))).2,
     (trT g (-1) t n).2 + (g.getD n (0, 0)).1 * (unit (-(ph t n))).2 + (g.getD n (0, 0)).2 * (unit (-(ph t n))).1) := by
  rw [trT_succ]
  unfold trA turnAt
  dsimp only
  rw [show (-1 : Int) * ph t n = -(ph t n) from by omega]
  congr 1 <;> omega

set_option maxRecDepth 100000 in
set_option maxHeartbeats 2000000 in
theorem l21Back_any (A : Option Addr) (cap : Nat) (g : List (Int × Int)) (x y : Int) (t : Nat) (w : World) (_ht : t < 16) (hx : 0 ≤ x ∧ x ≤ 3) (hy : 0 ≤ y ∧ y ≤ 3)
    (hph : ∀ k : Nat, x * ((k : Int) % 4) + y * ((k : Int) / 4) = ph t k) (hg : g.length = 16) (hb : gLe 1000000000 g) (hr : Rd w w.heap.size A (g.flatMap pairCells)) :
    Calls Try.prog 118 #[.slice A 16 cap, .int .i64 x, .int .i64 y] w fun e w' => e = .returned (.agg #[.int .i64 (trT g (-1) t 16).1, .int .i64 (trT g (-1) t 16).2]) ∧ Below w.heap.size w w' := by
  obtain ⟨G, hG⟩ : ∃ G, w.heap.size + 1 = G := ⟨_, rfl⟩
  have r0 := Row.new w 31 [.int .i64 0, .int .i64 0]
  have r1 := Row.new1 w (.cells #[.int .i64 0, .int .i64 0] 31) 31 [.int .i64 0, .int .i64 0]
  rw [hG] at r1
  have Hg := Lib.hid hg; clear hg
  have Hb := Lib.hid hb; clear hb
  have Hph := Lib.hid hph; clear hph
  go_enter Try.func118, Try.ntmps118
  go_wp2_with fail
  have HG := Lib.hid hG; clear hG
  go_loopw [8] (fun i wr => ∃ k : Nat, k ≤ 16 ∧ i = .int .i64 k ∧ Row wr w.heap.size 31 [.int .i64 0, .int .i64 0] ∧ Row wr G 31 [.int .i64 (trT g (-1) t k).1, .int .i64 (trT g (-1) t k).2] ∧ Below w.heap.size w wr) (fun i _ => 16 - (intOf i).toNat)
  case atStart => exact ⟨0, by omega, rfl, r0.alloc _, r1, bA2⟩
  case round =>
    clear r0 r1
    obtain ⟨k, hk, rfl, r0, r1, hbel⟩ := hrel
    have hbs := hbel.size
    by_cases hlt : k < 16
    · have hk16 : (k : Int) < 16 := by omega
      go_wp2_with fail
      refine (l21Cells_any _).mono ?_
      rintro e w' ⟨rfl, rfl⟩
      obtain ⟨b, off, rfl, hb, g1, g2⟩ := rd_pair hr (getD_of (gs := g) (k := k) (by rw [Hg.out]; exact hlt))
      have hgz := gLe_get Hb.out (by omega) k
      have hS := trT_bd Hb.out (by omega) (-1) t k
      have hS1 := trT_unit g t k
      have hpc := Hph.out k
      have mx := mul_bd x ((k : Int) % 4) 3 3 (by omega) (by omega)
      have my := mul_bd y ((k : Int) / 4) 3 3 (by omega) (by omega)
      simp only [Int.reduceMul, Int.reduceNeg] at mx my
      generalize g.getD k (0, 0) = gz at *
      generalize trT g (-1) t k = S at *
      have hpc2 : -(x * ((k : Int) % 4)) - y * ((k : Int) / 4) = -(ph t k) := by omega
      have HS1 := Lib.hid hS1; clear hS1
      have Hpc := Lib.hid hpc; clear hpc
      have Hpc2 := Lib.hid hpc2; clear hpc2
      go_wp2_with fail
      refine (sGaussUnit_any _ _).mono ?_
      rw [Hpc2.out]
      rintro e w3 ⟨rfl, b3⟩
      have r0 := r0.kept b3
      have r1 := r1.kept b3
      have r1w := r1
      have hbel := hbel.trans (b3.mono hbs)
      have hbs3 := hbel.size
      have hu := unit_1 (-(ph t k))
      generalize (unit (-(ph t k))).1 = p at *
      generalize (unit (-(ph t k))).2 = q at *
      have rx := Row.new w3 31 [.int .i64 p, .int .i64 q]
      have r0 := r0.alloc (.cells #[.int .i64 p, .int .i64 q] 31)
      have r1 := r1.alloc (.cells #[.int .i64 p, .int .i64 q] 31)
      have hbel := hbel.alloc hbel.size (.cells #[.int .i64 p, .int .i64 q] 31)
      clear b3
      go_wp2_with fail
      have hH : w3.heap.size ≠ G := by have := r1w.lt; omega
      have hc1 := (bcl hbel hb _).trans g1
      have hc2 := (bcl hbel hb _).trans g2
      obtain ⟨W, hW⟩ : ∃ W, w3.alloc (.cells #[.int .i64 p, .int .i64 q] 31) = W := ⟨_, rfl⟩
      obtain ⟨H, hH2⟩ : ∃ H, w3.heap.size = H := ⟨_, rfl⟩
      rw [hW]
      simp only [hW, hH2] at rx r0 r1 hbel hc1 hc2 hH ⊢
      have HW := Lib.hid hW; clear hW
      have HH2 := Lib.hid hH2; clear hH2
      obtain ⟨e0, e1, _, _⟩ := rx.two
      obtain ⟨d0, d1, f0, f1⟩ := r1.two
      have m1 := mul_bd gz.1 p 1000000000 1 hgz.1 hu.1
      have m2 := mul_bd gz.2 q 1000000000 1 hgz.2 hu.2
      have m3 := mul_bd gz.1 q 1000000000 1 hgz.1 hu.2
      have m4 := mul_bd gz.2 p 1000000000 1 hgz.2 hu.1
      simp only [Int.reduceNeg, Int.mul_one] at m1 m2 m3 m4
      have hwb : b < w3.heap.size := by omega
      have hbG : b ≠ G := by have := HG.out; omega
      have hHG : H ≠ G := hH
      have i1 : IntKind.i64.wrap (gz.1 * p) = gz.1 * p := IntWalk.i64_in _ (by omega)
      have i2 : IntKind.i64.wrap (gz.2 * q) = gz.2 * q := IntWalk.i64_in _ (by omega)
      have i3 : IntKind.i64.wrap (gz.1 * q) = gz.1 * q := IntWalk.i64_in _ (by omega)
      have i4 : IntKind.i64.wrap (gz.2 * p) = gz.2 * p := IntWalk.i64_in _ (by omega)
      have i5 : IntKind.i64.wrap (S.1 + gz.1 * p) = S.1 + gz.1 * p := IntWalk.i64_in _ (by omega)
      have i6 : IntKind.i64.wrap (S.1 + gz.1 * p - gz.2 * q) = S.1 + gz.1 * p - gz.2 * q := IntWalk.i64_in _ (by omega)
      have i7 : IntKind.i64.wrap (S.2 + gz.1 * q) = S.2 + gz.1 * q := IntWalk.i64_in _ (by omega)
      have i8 : IntKind.i64.wrap (S.2 + gz.1 * q + gz.2 * p) = S.2 + gz.1 * q + gz.2 * p := IntWalk.i64_in _ (by omega)
      go_still_tail 21, (by kernel_rfl)
      change wpList _ _ _ _ _ W.drew
      go_wp2_with fail
      have r1 := (r1.set_ 0 (.int .i64 (S.1 + gz.1 * p - gz.2 * q))).drew
      have rx := (rx.far hHG (p := ⟨G, 0, none⟩) (.int .i64 (S.1 + gz.1 * p - gz.2 * q))).drew
      have hbel := (hbel.setCell (p := ⟨G, 0, none⟩) (by show w.heap.size ≤ G; have := HG.out; omega) (.int .i64 (S.1 + gz.1 * p - gz.2 * q))).drew
      have r0 := (r0.far (p := ⟨G, 0, none⟩) (by show w.heap.size ≠ G; have := HG.out; omega) (.int .i64 (S.1 + gz.1 * p - gz.2 * q))).drew
      have hc1 := (bcl hbel hb _).trans g1
      have hc2 := (bcl hbel hb _).trans g2
      obtain ⟨V, hV⟩ : ∃ V, (W.setCell ⟨G, 0, none⟩ (.int .i64 (S.1 + gz.1 * p - gz.2 * q))).drew = V := ⟨_, rfl⟩
      rw [hV] at r1 rx hbel hc1 hc2 r0 ⊢
      clear hV e0 e1 d0 d1 f0 f1
      obtain ⟨e0, e1, _, _⟩ := rx.two
      obtain ⟨d0, d1, f0, f1⟩ := r1.two
      go_still_tail 21, (by kernel_rfl)
      change wpList _ _ _ _ _ V.drew
      have r1 := (r1.set_ 1 (.int .i64 (S.2 + gz.1 * q + gz.2 * p))).drew
      have r0 := (r0.far (p := ⟨G, 1, none⟩) (by show w.heap.size ≠ G; have := HG.out; omega) (.int .i64 (S.2 + gz.1 * q + gz.2 * p))).drew
      have hbel := (hbel.setCell (p := ⟨G, 1, none⟩) (by show w.heap.size ≤ G; have := HG.out; omega) (.int .i64 (S.2 + gz.1 * q + gz.2 * p))).drew
      go_wp2_with fail
      go_roundw
      case measure => simp [intOf]; omega
      case rel => exact ⟨k + 1, by omega, by go_num, r0, by rw [HS1.out]; exact r1, hbel⟩
    · obtain rfl : k = 16 := by omega
      go_wp2_with fail
      refine (l21Cells_any _).mono ?_
      rintro e w' ⟨rfl, rfl⟩
      obtain ⟨d0, d1, _, _⟩ := r1.two
      obtain ⟨_, _, f0, f1⟩ := r0.two
      have hlt0 := r0.lt
      generalize hS : trT g (-1) t 16 = S at *
      have HS := Lib.hid hS; clear hS
      go_wp2_with fail
      have r2 := (r0.set_ 0 (.int .i64 S.1)).set_ 1 (.int .i64 S.2)
      have hb2 := set2 hbel (g := w.heap.size) (Nat.le_refl _) (u := .int .i64 S.1) (v := .int .i64 S.2)
      generalize (wr.setCell ⟨w.heap.size, 0, none⟩ (.int .i64 S.1)).setCell ⟨w.heap.size, 1, none⟩ (.int .i64 S.2) = W at r2 hb2 ⊢
      obtain ⟨c0, c1, _, _⟩ := r2.two
      refine bodyPost_ret (v := .agg #[.int .i64 S.1, .int .i64 S.2]) (by simp [results, Try.results118, go_sem, c0, c1]) rfl ⟨by rw [HS.out], hb2⟩
end Go.Proofs.Ytfandpgjlahnpaa
