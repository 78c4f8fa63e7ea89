/- spec.DrawObserveTriple at every code. -/
import Derived.Test.YtklhjofhmcaflaaDrawO
import Derived.Test.YtklhjofhmcaflaaTripleT
namespace Go.Proofs.Ytklhjofhmcaflaa
open Go.RowKit

theorem drawObserveTriple_any (A : Option Addr) (n cap : Nat) (bs : List Int) (w : World) (hn : bs.length = n) (hm : n ≤ 9223372036854775807) (hc : n ≤ cap) (hb : BytesOk bs) (hr : Rd w w.heap.size A (bs.map (Value.int .u8))) :
    Calls Try.prog 30 #[.slice A n cap] w fun e w' =>
      ∃ (N : Nat) (A1 : Option Addr) (k1 c1 : Nat) (gs : List (Int × Int)) (i j k : Int), e = .returned (.tuple #[.int .i64 N, .slice A1 k1 c1, .int .i64 i, .int .i64 j, .int .i64 k]) ∧ 3 ≤ N ∧ N ≤ 6 ∧
        gs.length = k1 ∧ k1 ≤ 22 ∧ Rd w' w'.heap.size A1 (gs.flatMap pairCells) ∧ (0 ≤ i ∧ i ≤ 6) ∧ (0 ≤ j ∧ j ≤ 6) ∧ (0 ≤ k ∧ k ≤ 6) ∧ Below w.heap.size w w' := by
  go_enter Try.func30, Try.ntmps30
  go_wp2_with fail
  refine (l6Open_any A n cap bs w hn hm hc hr).mono ?_
  rintro e w1 ⟨rfl, hR, hb1⟩
  have hrd := isRd_open hn hb hr hR hb1
  clear hR
  go_wp2_with fail
  refine (l91Ants_any _ 0 _ (by omega) hrd).mono ?_
  rintro e w2 ⟨N0, rfl, hN2, hN6, hrd2, g2⟩
  have B2 : Below w.heap.size w w2 := hb1.grown g2 hb1.size fun j e => by cases e; exact Nat.le_refl _
  clear hb1
  have h3 : N0 = 2 ∨ N0 = 3 ∨ 3 < N0 := by omega
  rcases h3 with rfl | rfl | h3
  · go_wp2_with fail
    refine (l93Numbers_any _ 3 _ _ (by omega) (by omega) (by omega) hrd2).mono ?_
    rintro e w3 ⟨A1, k1, c1, gs, p', rfl, hgs, hk1, hr1, hp1, hp2, hrd3, g3⟩
    have B3 : Below w.heap.size w w3 := B2.grown g3 B2.size fun j e => by cases e; exact Nat.le_refl _
    have hap := hr1.apart hrd3 (pairs_int gs) (by rw [pairCells_len]; omega)
    have hgs := Lib.hid hgs
    have hap := Lib.hid hap
    clear g3 hrd2 g2 hrd
    go_wp2_with fail
    refine (pick2 _ _ _ _ (by omega) (by omega) hrd3).mono ?_
    rintro e w4 ⟨i, rfl, hi0, hi1, hrd4, g4⟩
    have B4 : Below w.heap.size w w4 := B3.grown g4 B3.size fun j e => by cases e; exact Nat.le_refl _
    have hr2 := hr1.over g4 hap.out
    have hap := Lib.hid (hr2.apart hrd4 (pairs_int gs) (by rw [pairCells_len]; omega))
    clear g4 hrd3 hr1
    go_wp2_with fail
    refine (pick2 _ _ _ _ (by omega) (by omega) hrd4).mono ?_
    rintro e w5 ⟨j, rfl, hj0, hj1, hrd5, g5⟩
    have B5 : Below w.heap.size w w5 := B4.grown g5 B4.size fun j e => by cases e; exact Nat.le_refl _
    have hr3 := hr2.over g5 hap.out
    have hap := Lib.hid (hr3.apart hrd5 (pairs_int gs) (by rw [pairCells_len]; omega))
    clear g5 hrd4 hr2
    go_wp2_with fail
    refine (pick2 _ _ _ _ (by omega) (by omega) hrd5).mono ?_
    rintro e w6 ⟨k, rfl, hk0, hk2, hrd6, g6⟩
    have B6 : Below w.heap.size w w6 := B5.grown g6 B5.size fun j e => by cases e; exact Nat.le_refl _
    have hr4 := hr3.over g6 hap.out
    have hap := Lib.hid (hr4.apart hrd6 (pairs_int gs) (by rw [pairCells_len]; omega))
    clear g6 hrd5 hr3
    go_wp2_with fail
    refine (pick2 _ _ _ _ (by omega) (by omega) hrd6).mono ?_
    rintro e w7 ⟨x, rfl, hx0, hx1, hrd7, g7⟩
    have B7 : Below w.heap.size w w7 := B6.grown g7 B6.size fun j e => by cases e; exact Nat.le_refl _
    have hr5 := hr4.over g7 hap.out
    clear g7 hrd6 hr4 hap
    by_cases hx : x = 0
    · subst hx
      go_wp2_with fail
      exact bodyPost_ret (v := .tuple #[.int .i64 (3 : Nat), .slice A1 k1 c1, .int .i64 (i + 1 + j + 1 + k), .int .i64 (i + 1 + j), .int .i64 i]) (by simp [results, Try.results30, go_sem]) rfl ⟨3, A1, k1, c1, gs, _, _, _, rfl, by omega, by omega, hgs.out, hk1, hr5, by omega, by omega, by omega, B7⟩
    · have hx : (x == 0) = false := beq_eq_false_iff_ne.2 hx
      go_wp2_with fail
      exact bodyPost_ret (v := .tuple #[.int .i64 (3 : Nat), .slice A1 k1 c1, .int .i64 i, .int .i64 (i + 1 + j), .int .i64 (i + 1 + j + 1 + k)]) (by simp [results, Try.results30, go_sem]) rfl ⟨3, A1, k1, c1, gs, _, _, _, rfl, by omega, by omega, hgs.out, hk1, hr5, by omega, by omega, by omega, B7⟩
  · go_wp2_with fail
    refine (l93Numbers_any _ 3 _ _ (by omega) (by omega) (by omega) hrd2).mono ?_
    rintro e w3 ⟨A1, k1, c1, gs, p', rfl, hgs, hk1, hr1, hp1, hp2, hrd3, g3⟩
    have B3 : Below w.heap.size w w3 := B2.grown g3 B2.size fun j e => by cases e; exact Nat.le_refl _
    have hap := hr1.apart hrd3 (pairs_int gs) (by rw [pairCells_len]; omega)
    have hgs := Lib.hid hgs
    have hap := Lib.hid hap
    clear g3 hrd2 g2 hrd
    go_wp2_with fail
    refine (pick2 _ _ _ _ (by omega) (by omega) hrd3).mono ?_
    rintro e w4 ⟨i, rfl, hi0, hi1, hrd4, g4⟩
    have B4 : Below w.heap.size w w4 := B3.grown g4 B3.size fun j e => by cases e; exact Nat.le_refl _
    have hr2 := hr1.over g4 hap.out
    have hap := Lib.hid (hr2.apart hrd4 (pairs_int gs) (by rw [pairCells_len]; omega))
    clear g4 hrd3 hr1
    go_wp2_with fail
    refine (pick2 _ _ _ _ (by omega) (by omega) hrd4).mono ?_
    rintro e w5 ⟨j, rfl, hj0, hj1, hrd5, g5⟩
    have B5 : Below w.heap.size w w5 := B4.grown g5 B4.size fun j e => by cases e; exact Nat.le_refl _
    have hr3 := hr2.over g5 hap.out
    have hap := Lib.hid (hr3.apart hrd5 (pairs_int gs) (by rw [pairCells_len]; omega))
    clear g5 hrd4 hr2
    go_wp2_with fail
    refine (pick2 _ _ _ _ (by omega) (by omega) hrd5).mono ?_
    rintro e w6 ⟨k, rfl, hk0, hk2, hrd6, g6⟩
    have B6 : Below w.heap.size w w6 := B5.grown g6 B5.size fun j e => by cases e; exact Nat.le_refl _
    have hr4 := hr3.over g6 hap.out
    have hap := Lib.hid (hr4.apart hrd6 (pairs_int gs) (by rw [pairCells_len]; omega))
    clear g6 hrd5 hr3
    go_wp2_with fail
    refine (pick2 _ _ _ _ (by omega) (by omega) hrd6).mono ?_
    rintro e w7 ⟨x, rfl, hx0, hx1, hrd7, g7⟩
    have B7 : Below w.heap.size w w7 := B6.grown g7 B6.size fun j e => by cases e; exact Nat.le_refl _
    have hr5 := hr4.over g7 hap.out
    clear g7 hrd6 hr4 hap
    by_cases hx : x = 0
    · subst hx
      go_wp2_with fail
      exact bodyPost_ret (v := .tuple #[.int .i64 (3 : Nat), .slice A1 k1 c1, .int .i64 (i + 1 + j + 1 + k), .int .i64 (i + 1 + j), .int .i64 i]) (by simp [results, Try.results30, go_sem]) rfl ⟨3, A1, k1, c1, gs, _, _, _, rfl, by omega, by omega, hgs.out, hk1, hr5, by omega, by omega, by omega, B7⟩
    · have hx : (x == 0) = false := beq_eq_false_iff_ne.2 hx
      go_wp2_with fail
      exact bodyPost_ret (v := .tuple #[.int .i64 (3 : Nat), .slice A1 k1 c1, .int .i64 i, .int .i64 (i + 1 + j), .int .i64 (i + 1 + j + 1 + k)]) (by simp [results, Try.results30, go_sem]) rfl ⟨3, A1, k1, c1, gs, _, _, _, rfl, by omega, by omega, hgs.out, hk1, hr5, by omega, by omega, by omega, B7⟩
  · go_wp2_with fail
    refine (l93Numbers_any _ N0 _ _ (by omega) (by omega) (by omega) hrd2).mono ?_
    rintro e w3 ⟨A1, k1, c1, gs, p', rfl, hgs, hk1, hr1, hp1, hp2, hrd3, g3⟩
    have B3 : Below w.heap.size w w3 := B2.grown g3 B2.size fun j e => by cases e; exact Nat.le_refl _
    have hap := hr1.apart hrd3 (pairs_int gs) (by rw [pairCells_len]; omega)
    have hgs := Lib.hid hgs
    have hap := Lib.hid hap
    clear g3 hrd2 g2 hrd
    go_wp2_with fail
    refine (pick2 _ _ _ _ (by omega) (by omega) hrd3).mono ?_
    rintro e w4 ⟨i, rfl, hi0, hi1, hrd4, g4⟩
    have B4 : Below w.heap.size w w4 := B3.grown g4 B3.size fun j e => by cases e; exact Nat.le_refl _
    have hr2 := hr1.over g4 hap.out
    have hap := Lib.hid (hr2.apart hrd4 (pairs_int gs) (by rw [pairCells_len]; omega))
    clear g4 hrd3 hr1
    go_wp2_with fail
    refine (pick2 _ _ _ _ (by omega) (by omega) hrd4).mono ?_
    rintro e w5 ⟨j, rfl, hj0, hj1, hrd5, g5⟩
    have B5 : Below w.heap.size w w5 := B4.grown g5 B4.size fun j e => by cases e; exact Nat.le_refl _
    have hr3 := hr2.over g5 hap.out
    have hap := Lib.hid (hr3.apart hrd5 (pairs_int gs) (by rw [pairCells_len]; omega))
    clear g5 hrd4 hr2
    go_wp2_with fail
    refine (pick2 _ _ _ _ (by omega) (by omega) hrd5).mono ?_
    rintro e w6 ⟨k, rfl, hk0, hk2, hrd6, g6⟩
    have B6 : Below w.heap.size w w6 := B5.grown g6 B5.size fun j e => by cases e; exact Nat.le_refl _
    have hr4 := hr3.over g6 hap.out
    have hap := Lib.hid (hr4.apart hrd6 (pairs_int gs) (by rw [pairCells_len]; omega))
    clear g6 hrd5 hr3
    go_wp2_with fail
    refine (pick2 _ _ _ _ (by omega) (by omega) hrd6).mono ?_
    rintro e w7 ⟨x, rfl, hx0, hx1, hrd7, g7⟩
    have B7 : Below w.heap.size w w7 := B6.grown g7 B6.size fun j e => by cases e; exact Nat.le_refl _
    have hr5 := hr4.over g7 hap.out
    clear g7 hrd6 hr4 hap
    by_cases hx : x = 0
    · subst hx
      go_wp2_with fail
      exact bodyPost_ret (v := .tuple #[.int .i64 (N0 : Nat), .slice A1 k1 c1, .int .i64 (i + 1 + j + 1 + k), .int .i64 (i + 1 + j), .int .i64 i]) (by simp [results, Try.results30, go_sem]) rfl ⟨N0, A1, k1, c1, gs, _, _, _, rfl, by omega, by omega, hgs.out, hk1, hr5, by omega, by omega, by omega, B7⟩
    · have hx : (x == 0) = false := beq_eq_false_iff_ne.2 hx
      go_wp2_with fail
      exact bodyPost_ret (v := .tuple #[.int .i64 (N0 : Nat), .slice A1 k1 c1, .int .i64 i, .int .i64 (i + 1 + j), .int .i64 (i + 1 + j + 1 + k)]) (by simp [results, Try.results30, go_sem]) rfl ⟨N0, A1, k1, c1, gs, _, _, _, rfl, by omega, by omega, hgs.out, hk1, hr5, by omega, by omega, by omega, B7⟩
end Go.Proofs.Ytklhjofhmcaflaa
