/- The draws of a sky. -/
import Derived.Test.YtbadeopjfmafcaaDoorDrawC
import Derived.Test.YtbadeopjfmafcaaDoorSkyB
namespace Go.Proofs.YtbadeopjfmafcaaDoor
open Go.RowKit

set_option maxRecDepth 100000 in
set_option maxHeartbeats 2000000 in
theorem l92Sky_str (R : Nat) (p : Int) (w : World) (hp : 0 ≤ p ∧ p ≤ 800000) (h : IsRd w R p) :
    Calls Tryd.prog 45 #[.pointer (some ⟨R, 0, none⟩)] w fun e w' =>
      ∃ (A : Option Addr) (k c : Nat) (s : List Int) (p' : Int), e = .returned (.slice A k c) ∧ s.length = k ∧ (15 ≤ k ∧ k ≤ 16) ∧ Rd w' w'.heap.size A (s.map (Value.int .i64)) ∧ (0 ≤ p' ∧ p' ≤ p + 100) ∧ IsRd w' R p' ∧ w.grownBy w' (some R) ∧ ∃ o, A = some ⟨w.heap.size, o, none⟩ ∧ k ≤ c := by
  obtain ⟨Z, hZ⟩ : ∃ Z, List.replicate 16 (Value.int .i64 0) = Z := ⟨_, rfl⟩
  have hmk : ∀ W : World, (Instr.makeSlice 22 (.int .i64 16) (.int .i64 16)).run Tryd.prog W = .ok (.slice (some ⟨W.heap.size, 0, none⟩) 16 16) (W.alloc (.cells Z.toArray 3)) := fun W => by
    rw [← hZ]; exact run_make1 (P := Tryd.prog) 22 3 (.int .i64 0) 8 Tryd.underlying22 (by kernel_rfl) rfl 16 (by omega) (by omega) W
  have hlt := h.lt
  have hz2 : Z = (List.replicate 16 (0 : Int)).map (Value.int .i64) := by rw [← hZ]; rfl
  have r0 := Row.new w 3 Z
  rw [hz2] at r0
  have h1 := h.kept (bA1 (o := .cells Z.toArray 3))
  have g0 := World.grownBy_alloc w (.cells Z.toArray 3) (some R)
  obtain ⟨W, hW⟩ : ∃ W, w.alloc (.cells Z.toArray 3) = W := ⟨_, rfl⟩
  have hWs : W.heap.size = w.heap.size + 1 := by rw [← hW, World.size_alloc]
  rw [← hz2] at r0
  simp only [hW] at r0 h1 g0
  rw [hz2] at r0
  have HW := Lib.hid hW
  clear hZ hz2 hW
  go_enter Tryd.func45, Tryd.ntmps45
  go_wp2_with fail
  refine (l21Cells_any _).mono ?_
  rintro e w' ⟨rfl, rfl⟩
  go_wp2_with fail
  rw [HW.out]
  refine (pick2 R p 6 _ (by omega) (by omega) h1).mono ?_
  rintro e w1 ⟨x, rfl, x0, x7, hrd1, g1⟩
  have r1 := r0.grown g1 (by simp; omega)
  have G1 := grown_trans g0 g1
  obtain ⟨n, rfl⟩ : ∃ n : Nat, x = n := ⟨x.toNat, by omega⟩
  clear hmk h1 g0 g1 r0 h
  go_wp2_with fail
  go_loopw [5] (fun i wr => ∃ (k : Nat) (cs : List Int), k ≤ n ∧ i = .int .i64 k ∧ cs.length = 16 ∧ Row wr w.heap.size 3 (cs.map (Value.int .i64)) ∧ IsRd wr R (p + 1 + 2 * k) ∧ w.grownBy wr (some R)) (fun i _ => n - (intOf i).toNat)
  case atStart => exact ⟨0, _, by omega, rfl, by simp, r1, by simpa using hrd1, G1⟩
  case round =>
    obtain ⟨k, cs, hk, rfl, hcs, hrow, hrd, hgr⟩ := hrel
    have Hcs := Lib.hid hcs; clear hcs
    by_cases hlt2 : k < n
    · go_wp2_with fail
      refine (l21Cells_any _).mono ?_
      rintro e w' ⟨rfl, rfl⟩
      go_wp2_with fail
      refine (pick2 R (p + 1 + 2 * k) 16 _ (by omega) (by omega) hrd).mono ?_
      rintro e w2 ⟨x, rfl, x0, x16, hrd2, g2⟩
      obtain ⟨a, rfl⟩ : ∃ a : Nat, x = a := ⟨x.toNat, by omega⟩
      have r2 := hrow.grown g2 (by simp; omega)
      have G2 := grown_trans hgr g2
      have hw2 := hrd2.lt
      go_wp2_with fail
      refine (pick2 R (p + 1 + 2 * k + 1) 30 _ (by omega) (by omega) hrd2).mono ?_
      rintro e w3 ⟨y, rfl, y0, y30, hrd3, g3⟩
      have r3 := r2.grown g3 (by simp; omega)
      have G3 := grown_trans G2 g3
      clear r2 G2 hrow hgr hrd hrd2
      have ca := r3.cell a
      rw [ints_get (by rw [Hcs.out]; omega)] at ca
      have fa := r3.frozen a
      have r4 := r3.set_ a (.int .i64 (y - 3))
      rw [← List.map_set] at r4
      have hrd4 := hrd3.over (grown_set w3 w.heap.size a (.int .i64 (y - 3))) (fun j e => by cases e; omega)
      have G4 := grown_far G3 (grown_set w3 w.heap.size a (.int .i64 (y - 3))) (fun j e => by cases e; exact Nat.le_refl _)
      obtain ⟨D, hD⟩ : ∃ D, cs.set a (y - 3) = D := ⟨_, rfl⟩
      have hDl : D.length = 16 := by rw [← hD, List.length_set]; exact Hcs.out
      rw [hD] at r4
      have HDl := Lib.hid hDl; clear hDl
      have R4 := Lib.hid r4; clear r4
      have Hrd4 := Lib.hid hrd4; clear hrd4
      have hidX := Lib.hid G4; clear G4; have G4 := hidX; clear hidX
      clear r3 hrd3 G3 g2 g3 hD
      go_wp2_with fail
      go_roundw
      case measure => simp [intOf]; omega
      case rel => exact ⟨k + 1, D, by omega, by go_num, HDl.out, R4.out, by rw [show p + 1 + 2 * ((k + 1 : Nat) : Int) = p + 1 + 2 * k + 1 + 1 by omega]; exact Hrd4.out, G4.out⟩
    · obtain rfl : k = n := by omega
      go_wp2_with fail
      refine (pick2 R (p + 1 + 2 * k) 40 _ (by omega) (by omega) hrd).mono ?_
      rintro e w2 ⟨x, rfl, x0, x12, hrd2, g2⟩
      have r2 := hrow.grown g2 (by simp; omega)
      have G2 := grown_trans hgr g2
      clear hrow hrd hgr g2 r1 hrd1 G1
      obtain ⟨q, hq⟩ : ∃ q, p + 1 + 2 * (k : Int) + 1 = q := ⟨_, rfl⟩
      have hq0 : 0 ≤ q ∧ q ≤ p + 20 := by omega
      rw [hq] at hrd2
      clear hq
      by_cases hx0 : x = 0
      · subst hx0
        go_wp2_with fail
        have hw2 := hrd2.lt
        have hw3 := r2.lt
        have rb := Row.new w2 3 [.int .i64 100001, .int .i64 100000]
        have g3 := World.grownBy_alloc w2 (.cells #[.int .i64 100001, .int .i64 100000] 3) (some R)
        refine (pick2 R q 2 _ (by omega) (by omega) (hrd2.kept bA1)).mono ?_
        rintro e w4 ⟨y, rfl, y0, y2, hrd4, g4⟩
        have rb := rb.grown g4 (by simp; omega)
        have r4 := (r2.alloc (.cells #[.int .i64 100001, .int .i64 100000] 3)).grown g4 (by simp; omega)
        have G4 := grown_trans (grown_trans G2 g3) g4
        obtain ⟨v, hv⟩ : ∃ v : Int, w4.cell? ⟨w2.heap.size, y.toNat, none⟩ = some (.int .i64 v) := by
          rw [rb.cell]
          have : y = 0 ∨ y = 1 := by omega
          rcases this with rfl | rfl
          · exact ⟨_, rfl⟩
          · exact ⟨_, rfl⟩
        obtain ⟨a, rfl⟩ : ∃ a : Nat, y = a := ⟨y.toNat, by omega⟩
        rw [Int.toNat_natCast] at hv
        have ca := r4.cell 0
        rw [ints_get (by rw [Hcs.out]; omega)] at ca
        have fa := r4.frozen 0
        have r5 := r4.set_ 0 (.int .i64 v)
        rw [← List.map_set] at r5
        have hrd5 := hrd4.over (grown_set w4 w.heap.size 0 (.int .i64 v)) (fun j e => by cases e; omega)
        have G5 := grown_far G4 (grown_set w4 w.heap.size 0 (.int .i64 v)) (fun j e => by cases e; exact Nat.le_refl _)
        have R5 := Lib.hid r5; clear r5
        have Hrd5 := Lib.hid hrd5; clear hrd5
        have hidX := Lib.hid G5; clear G5; have G5 := hidX; clear hidX
        clear rb r4 r2 hrd2 hrd4 G4 G2 g3 g4
        go_wp2_with fail
        go_ret
        exact ⟨_, _, _, cs.set 0 v, _, rfl, by rw [List.length_set]; exact Hcs.out, by omega, R5.out.rd, by omega, Hrd5.out, G5.out, _, rfl, by omega⟩
      · have hx0 : (x == 0) = false := beq_eq_false_iff_ne.2 hx0
        by_cases hx1 : x = 1
        · subst hx1
          go_wp2_with fail
          go_ret
          refine ⟨_, _, _, cs.drop 1, _, rfl, by rw [List.length_drop, Hcs.out], by omega, ?_, by omega, hrd2, G2, _, rfl, by omega⟩
          intro i u hu
          rw [List.map_drop, List.getElem?_drop] at hu
          obtain ⟨b, off, e, hb, hc⟩ := r2.rd (1 + i) u hu
          cases e
          exact ⟨_, _, rfl, hb, by rw [← hc]; congr 2; omega⟩
        · have hx1 : (x == 1) = false := beq_eq_false_iff_ne.2 hx1
          go_wp2_with fail
          go_ret
          exact ⟨_, _, _, cs, _, rfl, Hcs.out, by omega, r2.rd, by omega, hrd2, G2, _, rfl, by omega⟩
theorem l92Sky_any (R : Nat) (p : Int) (w : World) (hp : 0 ≤ p ∧ p ≤ 800000) (h : IsRd w R p) :
    Calls Tryd.prog 45 #[.pointer (some ⟨R, 0, none⟩)] w fun e w' =>
      ∃ (A : Option Addr) (k c : Nat) (s : List Int) (p' : Int), e = .returned (.slice A k c) ∧ s.length = k ∧ (15 ≤ k ∧ k ≤ 16) ∧ Rd w' w'.heap.size A (s.map (Value.int .i64)) ∧ (0 ≤ p' ∧ p' ≤ p + 100) ∧ IsRd w' R p' ∧ w.grownBy w' (some R) :=
  (l92Sky_str R p w hp h).mono fun _ _ ⟨A, k, c, s, p', h1, h2, h3, h4, h5, h6, h7, _⟩ => ⟨A, k, c, s, p', h1, h2, h3, h4, h5, h6, h7⟩

end Go.Proofs.YtbadeopjfmafcaaDoor
