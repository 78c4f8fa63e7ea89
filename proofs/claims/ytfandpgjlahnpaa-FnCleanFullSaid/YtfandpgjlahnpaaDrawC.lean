/- The draws of a coverage. -/
import Derived.Test.YtfandpgjlahnpaaDraw
import Derived.Test.YtfandpgjlahnpaaA1
namespace Go.Proofs.Ytfandpgjlahnpaa
open Go.RowKit

set_option maxRecDepth 100000 in
set_option maxHeartbeats 2000000 in
theorem l92Cover_any (R : Nat) (p : Int) (w : World) (hp : 0 ≤ p ∧ p ≤ 800000) (h : IsRd w R p) :
    Calls Try.prog 81 #[.pointer (some ⟨R, 0, none⟩)] w fun e w' =>
      ∃ (A : Option Addr) (k c : Nat) (cs : List Bool) (p' : Int), e = .returned (.slice A k c) ∧ cs.length = k ∧ k ≤ 16 ∧ Rd w' w'.heap.size A (cs.map Value.bool) ∧ (0 ≤ p' ∧ p' ≤ p + 100) ∧ IsRd w' R p' ∧ w.grownBy w' (some R) := by
  obtain ⟨Z, hZ⟩ : ∃ Z, List.replicate 16 (Value.bool false) = Z := ⟨_, rfl⟩
  have hmk : ∀ W : World, (Instr.makeSlice 38 (.int .i64 16) (.int .i64 16)).run Try.prog W = .ok (.slice (some ⟨W.heap.size, 0, none⟩) 16 16) (W.alloc (.cells Z.toArray 4)) := fun W => by
    rw [← hZ]; exact run_make1 (P := Try.prog) 38 4 (.bool false) 1 Try.underlying38 (by kernel_rfl) rfl 16 (by omega) (by omega) W
  have hlt := h.lt
  have r0 := Row.new w 4 Z
  have hz2 : Z = (List.replicate 16 false).map Value.bool := by rw [← hZ]; rfl
  rw [hz2] at r0
  have h1 := h.kept (bA1 (o := .cells Z.toArray 4))
  have g0 := World.grownBy_alloc w (.cells Z.toArray 4) (some R)
  obtain ⟨W, hW⟩ : ∃ W, w.alloc (.cells Z.toArray 4) = W := ⟨_, rfl⟩
  have hWs : W.heap.size = w.heap.size + 1 := by rw [← hW, World.size_alloc]
  rw [← hz2] at r0
  simp only [hW] at r0 h1 g0
  rw [hz2] at r0
  have HW := Lib.hid hW
  clear hZ hz2 hW
  go_enter Try.func81, Try.ntmps81
  go_wp2_with fail
  refine (l21Cells_any _).mono ?_
  rintro e w' ⟨rfl, rfl⟩
  go_wp2_with fail
  rw [HW.out]
  refine (pick2 R p 7 _ (by omega) (by omega) h1).mono ?_
  rintro e w1 ⟨x, rfl, x0, x7, hrd1, g1⟩
  have r1 := r0.grown g1 (by simp; omega)
  have G1 := grown_trans g0 g1
  obtain ⟨n, rfl⟩ : ∃ n : Nat, x = n := ⟨x.toNat, by omega⟩
  clear hmk h1 g0 g1 r0 h
  go_wp2_with fail
  go_loopw [5] (fun i wr => ∃ (k : Nat) (cs : List Bool), k ≤ n ∧ i = .int .i64 k ∧ cs.length = 16 ∧ Row wr w.heap.size 4 (cs.map Value.bool) ∧ IsRd wr R (p + 1 + k) ∧ w.grownBy wr (some R)) (fun i _ => n - (intOf i).toNat)
  case atStart => exact ⟨0, _, by omega, rfl, by simp, r1, by simpa using hrd1, G1⟩
  case round =>
    obtain ⟨k, cs, hk, rfl, hcs, hrow, hrd, hgr⟩ := hrel
    have Hcs := Lib.hid hcs; clear hcs
    by_cases hlt2 : k < n
    · go_wp2_with fail
      refine (l21Cells_any _).mono ?_
      rintro e w' ⟨rfl, rfl⟩
      go_wp2_with fail
      refine (pick2 R (p + 1 + k) 16 _ (by omega) (by omega) hrd).mono ?_
      rintro e w2 ⟨x, rfl, x0, x16, hrd2, g2⟩
      obtain ⟨a, rfl⟩ : ∃ a : Nat, x = a := ⟨x.toNat, by omega⟩
      have r2 := hrow.grown g2 (by simp; omega)
      have G2 := grown_trans hgr g2
      have ho := oppN_lt a
      have hoi := oppI_nat a (by omega)
      unfold oppI at hoi
      have ca := r2.cell a
      rw [bools_get (by rw [Hcs.out]; omega)] at ca
      have fa := r2.frozen a
      have fo := r2.frozen (oppN a)
      have r3 := r2.set_ a (.bool true)
      have cb := r3.cell (oppN a)
      rw [← List.map_set, bools_get (by rw [List.length_set, Hcs.out]; omega)] at cb
      have r4 := r3.set_ (oppN a) (.bool true)
      rw [← List.map_set, ← List.map_set] at r4
      have hrd4 := (hrd2.over (grown_set w2 w.heap.size a (.bool true)) (fun j e => by cases e; omega)).over (grown_set _ w.heap.size (oppN a) (.bool true)) (fun j e => by cases e; omega)
      have G4 := grown_far (grown_far G2 (grown_set w2 w.heap.size a (.bool true)) (fun j e => by cases e; exact Nat.le_refl _)) (grown_set _ w.heap.size (oppN a) (.bool true)) (fun j e => by cases e; exact Nat.le_refl _)
      generalize oppN a = o at *
      obtain ⟨D, hD⟩ : ∃ D, (cs.set a true).set o true = D := ⟨_, rfl⟩
      have hDl : D.length = 16 := by rw [← hD, List.length_set, List.length_set]; exact Hcs.out
      rw [hD] at r4
      have HDl := Lib.hid hDl; clear hDl
      have R4 := Lib.hid r4; clear r4
      have Hrd4 := Lib.hid hrd4; clear hrd4
      have hidX := Lib.hid G4; clear G4; have G4 := hidX; clear hidX
      clear hrow hrd hgr r2 r3 hrd2 g2 G2 hD
      go_wp2_with fail
      refine (l21At_any _ _ _).mono ?_
      rintro e w' ⟨rfl, rfl⟩
      rw [hoi]
      go_wp2_with fail
      go_roundw
      case measure => simp [intOf]; omega
      case rel => exact ⟨k + 1, D, by omega, by go_num, HDl.out, R4.out, by rw [show p + 1 + ((k + 1 : Nat) : Int) = p + 1 + k + 1 by omega]; exact Hrd4.out, G4.out⟩
    · obtain rfl : k = n := by omega
      go_wp2_with fail
      refine (pick2 R (p + 1 + k) 12 _ (by omega) (by omega) hrd).mono ?_
      rintro e w2 ⟨x, rfl, x0, x12, hrd2, g2⟩
      have r2 := hrow.grown g2 (by simp; omega)
      have G2 := grown_trans hgr g2
      clear hrow hrd hgr g2 r1 hrd1 G1
      obtain ⟨q, hq⟩ : ∃ q, p + 1 + (k : Int) + 1 = q := ⟨_, rfl⟩
      have hq0 : 0 ≤ q ∧ q ≤ p + 20 := by omega
      rw [hq] at hrd2
      clear hq
      by_cases hx0 : x = 0
      · subst hx0
        go_wp2_with fail
        go_loopw [7] (fun i wr => ∃ (m : Nat) (cs : List Bool), m ≤ 16 ∧ i = .int .i64 m ∧ cs.length = 16 ∧ Row wr w.heap.size 4 (cs.map Value.bool) ∧ IsRd wr R q ∧ w.grownBy wr (some R)) (fun i _ => 16 - (intOf i).toNat)
        case atStart => exact ⟨0, cs, by omega, rfl, Hcs.out, r2, hrd2, G2⟩
        case round =>
          obtain ⟨m, cs, hm, rfl, hcs, hrow, hrd, hgr⟩ := hrel
          have Hcs := Lib.hid hcs; clear hcs
          by_cases hlt3 : m < 16
          · have ca := hrow.cell m
            rw [bools_get (by rw [Hcs.out]; omega)] at ca
            have fa := hrow.frozen m
            have r3 := hrow.set_ m (.bool true)
            rw [← List.map_set] at r3
            have hrd3 := hrd.over (grown_set _ w.heap.size m (.bool true)) (fun j e => by cases e; omega)
            have G3 := grown_far hgr (grown_set _ w.heap.size m (.bool true)) (fun j e => by cases e; exact Nat.le_refl _)
            obtain ⟨D, hD⟩ : ∃ D, cs.set m true = D := ⟨_, rfl⟩
            have hDl : D.length = 16 := by rw [← hD, List.length_set]; exact Hcs.out
            rw [hD] at r3
            have HDl := Lib.hid hDl; clear hDl
            have R3 := Lib.hid r3; clear r3
            have Hrd3 := Lib.hid hrd3; clear hrd3
            have hidX := Lib.hid G3; clear G3; have G3 := hidX; clear hidX
            clear hrow hrd hgr hD r2 hrd2 G2
            go_wp2_with fail
            go_roundw
            case measure => simp [intOf]; omega
            case rel => exact ⟨m + 1, D, by omega, by go_num, HDl.out, R3.out, Hrd3.out, G3.out⟩
          · obtain rfl : m = 16 := by omega
            clear r2 hrd2 G2
            go_wp2_with fail
            refine (pick2 R q 30 _ (by omega) (by omega) hrd).mono ?_
            rintro e w5 ⟨y, rfl, y0, y30, hrd5, g5⟩
            have r5 := hrow.grown g5 (by simp; omega)
            have G5 := grown_trans hgr g5
            clear hrow hrd hgr g5
            have hl5 := r5.lt
            by_cases hy0 : y = 0
            · subst hy0
              have ca := r5.cell 1
              rw [bools_get (by rw [Hcs.out]; omega)] at ca
              have fa := r5.frozen 1
              generalize cs.getD 1 false = v at *
              have r6 := r5.set_ 1 (.bool (!v))
              rw [← List.map_set] at r6
              have hrd6 := hrd5.over (grown_set _ w.heap.size 1 (.bool (!v))) (fun j e => by cases e; omega)
              have G6 := grown_far G5 (grown_set _ w.heap.size 1 (.bool (!v))) (fun j e => by cases e; exact Nat.le_refl _)
              have R6 := Lib.hid r6; clear r6
              have Hrd6 := Lib.hid hrd6; clear hrd6
              have hidX := Lib.hid G6; clear G6; have G6 := hidX; clear hidX
              clear r5 hrd5 G5
              go_wp2_with fail
              go_ret
              exact ⟨_, _, _, cs.set 1 (!v), _, rfl, by rw [List.length_set]; exact Hcs.out, by omega, R6.out.rd, by omega, Hrd6.out, G6.out⟩
            · have hy0 : (y == 0) = false := beq_eq_false_iff_ne.2 hy0
              by_cases hy1 : y = 1
              · subst hy1
                go_wp2_with fail
                go_ret
                refine ⟨_, _, _, cs.drop 2, _, rfl, by rw [List.length_drop, Hcs.out], by omega, ?_, by omega, hrd5, G5⟩
                intro i u hu
                rw [List.map_drop, List.getElem?_drop] at hu
                obtain ⟨b, off, e, hb, hc⟩ := r5.rd (2 + i) u hu
                cases e
                exact ⟨_, _, rfl, hb, by rw [← hc]; congr 2; omega⟩
              · have hy1 : (y == 1) = false := beq_eq_false_iff_ne.2 hy1
                go_wp2_with fail
                go_ret
                exact ⟨_, _, _, cs, _, rfl, Hcs.out, by omega, r5.rd, by omega, hrd5, G5⟩
      · have hx0 : (x == 0) = false := beq_eq_false_iff_ne.2 hx0
        have hrow := r2
        have hrd := hrd2
        have hgr := G2
        go_wp2_with fail
        refine (pick2 R q 30 _ (by omega) (by omega) hrd).mono ?_
        rintro e w5 ⟨y, rfl, y0, y30, hrd5, g5⟩
        have r5 := hrow.grown g5 (by simp; omega)
        have G5 := grown_trans hgr g5
        clear hrow hrd hgr g5
        have hl5 := r5.lt
        by_cases hy0 : y = 0
        · subst hy0
          have ca := r5.cell 1
          rw [bools_get (by rw [Hcs.out]; omega)] at ca
          have fa := r5.frozen 1
          generalize cs.getD 1 false = v at *
          have r6 := r5.set_ 1 (.bool (!v))
          rw [← List.map_set] at r6
          have hrd6 := hrd5.over (grown_set _ w.heap.size 1 (.bool (!v))) (fun j e => by cases e; omega)
          have G6 := grown_far G5 (grown_set _ w.heap.size 1 (.bool (!v))) (fun j e => by cases e; exact Nat.le_refl _)
          have R6 := Lib.hid r6; clear r6
          have Hrd6 := Lib.hid hrd6; clear hrd6
          have hidX := Lib.hid G6; clear G6; have G6 := hidX; clear hidX
          clear r5 hrd5 G5
          go_wp2_with fail
          go_ret
          exact ⟨_, _, _, cs.set 1 (!v), _, rfl, by rw [List.length_set]; exact Hcs.out, by omega, R6.out.rd, by omega, Hrd6.out, G6.out⟩
        · have hy0 : (y == 0) = false := beq_eq_false_iff_ne.2 hy0
          by_cases hy1 : y = 1
          · subst hy1
            go_wp2_with fail
            go_ret
            refine ⟨_, _, _, cs.drop 2, _, rfl, by rw [List.length_drop, Hcs.out], by omega, ?_, by omega, hrd5, G5⟩
            intro i u hu
            rw [List.map_drop, List.getElem?_drop] at hu
            obtain ⟨b, off, e, hb, hc⟩ := r5.rd (2 + i) u hu
            cases e
            exact ⟨_, _, rfl, hb, by rw [← hc]; congr 2; omega⟩
          · have hy1 : (y == 1) = false := beq_eq_false_iff_ne.2 hy1
            go_wp2_with fail
            go_ret
            exact ⟨_, _, _, cs, _, rfl, Hcs.out, by omega, r5.rd, by omega, hrd5, G5⟩
end Go.Proofs.Ytfandpgjlahnpaa
