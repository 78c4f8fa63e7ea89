/- The draws of two observations to be solved. -/
import Derived.Test.YtcllkocmnohnkaaDrawN
import Derived.Test.YtcllkocmnohnkaaTurnT
import Derived.Test.YtcllkocmnohnkaaA4
namespace Go.Proofs.Ytcllkocmnohnkaa
open Go.RowKit

theorem rd_lt {w : World} {B : Nat} {A : Option Addr} {xs : List Value} (h : Rd w B A xs) : ∀ b off, A = some ⟨b, off, none⟩ → b < B ∨ xs = [] := fun b off e => by
  cases xs with
  | nil => exact .inr rfl
  | cons x r =>
    obtain ⟨b', off', e', hb, _⟩ := h 0 x rfl
    rw [e] at e'
    injection e' with e'
    injection e' with e1
    exact .inl (by omega)
theorem turnR_le (n : Int) (gs : List (Int × Int)) (q : List Int) : (turnR n gs q).length ≤ 21 := by
  unfold turnR
  split
  · rename_i h
    have h1 : obsV n gs = true := by
      unfold turnOK at h
      rw [Bool.and_eq_true] at h
      exact h.1
    obtain ⟨k, rfl, k2, k7, _⟩ := obsV_of h1
    rw [turnedOf_len, Int.toNat_natCast]
    have := bm_pairs k k2 k7; have := bm_le k; omega
  · simp
theorem turnR_ge {n : Int} {gs : List (Int × Int)} {q : List Int} (h : turnOK n gs q = true) : 1 ≤ (turnR n gs q).length := by
  unfold turnR
  rw [h, if_pos rfl]
  have h1 : obsV n gs = true := by
    unfold turnOK at h
    rw [Bool.and_eq_true] at h
    exact h.1
  obtain ⟨k, rfl, k2, k7, _⟩ := obsV_of h1
  rw [turnedOf_len, Int.toNat_natCast]
  have := bm_pairs k k2 k7; have := bm_cases k; omega
theorem l91Part_any (R : Nat) (p : Int) (w : World) (hp : 0 ≤ p ∧ p ≤ 900000) (h : IsRd w R p) :
    Calls Try.prog 180 #[.pointer (some ⟨R, 0, none⟩)] w fun e w' => ∃ x : Int, e = .returned (.int .i64 x) ∧ IsRd w' R (p + 2) ∧ w.grownBy w' (some R) := by
  have hlt := h.lt
  go_enter Try.func180, Try.ntmps180
  go_wp2_with fail
  refine (pick2 R p 12 _ (by omega) (by omega) h).mono ?_
  rintro e w1 ⟨x, rfl, x0, x12, hrd1, g1⟩
  have hw1 := hrd1.lt
  by_cases hx0 : x = 0
  · subst hx0
    go_wp2_with fail
    have rb := Row.new w1 3 [.int .i64 1000000000, .int .i64 (-1000000000), .int .i64 30000, .int .i64 (-30000)]
    have g2 := World.grownBy_alloc w1 (.cells #[.int .i64 1000000000, .int .i64 (-1000000000), .int .i64 30000, .int .i64 (-30000)] 3) (some R)
    refine (pick2 R (p + 1) 4 _ (by omega) (by omega) (h.kept (Below.refl _ _) |> fun _ => hrd1.kept bA1)).mono ?_
    rintro e w2 ⟨y, rfl, y0, y4, hrd2, g3⟩
    have rb := rb.grown g3 (by simp; omega)
    have G := grown_trans (grown_trans g1 g2) g3
    obtain ⟨v, hv⟩ : ∃ v : Int, w2.cell? ⟨w1.heap.size, y.toNat, none⟩ = some (.int .i64 v) := by
      rw [rb.cell]
      have : y = 0 ∨ y = 1 ∨ y = 2 ∨ y = 3 := by omega
      rcases this with rfl | rfl | rfl | rfl <;> exact ⟨_, rfl⟩
    obtain ⟨a, rfl⟩ : ∃ a : Nat, y = a := ⟨y.toNat, by omega⟩
    rw [Int.toNat_natCast] at hv
    have Hrd2 := Lib.hid hrd2; clear hrd2
    have hidX := Lib.hid G; clear G; have G := hidX; clear hidX
    clear rb g1 g2 g3
    go_wp2_with fail
    go_ret
    exact ⟨v, rfl, by rw [show p + 2 = p + 1 + 1 from by omega]; exact Hrd2.out, G.out⟩
  · have hx0 : (x == 0) = false := beq_eq_false_iff_ne.2 hx0
    by_cases hx1 : x = 1
    · subst hx1
      go_wp2_with fail
      refine (pick2 R (p + 1) 200 _ (by omega) (by omega) hrd1).mono ?_
      rintro e w2 ⟨y, rfl, y0, y4, hrd2, g2⟩
      have G := grown_trans g1 g2
      have Hrd2 := Lib.hid hrd2; clear hrd2
      have hidX := Lib.hid G; clear G; have G := hidX; clear hidX
      clear g1 g2
      go_wp2_with fail
      go_ret
      exact ⟨_, rfl, by rw [show p + 2 = p + 1 + 1 from by omega]; exact Hrd2.out, G.out⟩
    · have hx1 : (x == 1) = false := beq_eq_false_iff_ne.2 hx1
      go_wp2_with fail
      refine (pick2 R (p + 1) 13 _ (by omega) (by omega) hrd1).mono ?_
      rintro e w2 ⟨y, rfl, y0, y4, hrd2, g2⟩
      have G := grown_trans g1 g2
      have Hrd2 := Lib.hid hrd2; clear hrd2
      have hidX := Lib.hid G; clear G; have G := hidX; clear hidX
      clear g1 g2
      go_wp2_with fail
      go_ret
      exact ⟨_, rfl, by rw [show p + 2 = p + 1 + 1 from by omega]; exact Hrd2.out, G.out⟩

theorem l91Gauss_any (R : Nat) (p : Int) (w : World) (hp : 0 ≤ p ∧ p ≤ 800000) (h : IsRd w R p) :
    Calls Try.prog 134 #[.pointer (some ⟨R, 0, none⟩)] w fun e w' => ∃ x y : Int, e = .returned (.agg #[.int .i64 x, .int .i64 y]) ∧ IsRd w' R (p + 4) ∧ w.grownBy w' (some R) := by
  have hlt := h.lt
  have r0 := Row.new w 49 [.int .i64 0, .int .i64 0]
  have g0 := World.grownBy_alloc w (.cells #[.int .i64 0, .int .i64 0] 49) (some R)
  have h1 := h.kept (bA1 (o := .cells #[.int .i64 0, .int .i64 0] 49))
  go_enter Try.func134, Try.ntmps134
  go_wp2_with fail
  refine (l91Part_any R p _ (by omega) h1).mono ?_
  rintro e w1 ⟨x, rfl, hrd1, g1⟩
  go_wp2_with fail
  refine (l91Part_any R (p + 2) _ (by omega) hrd1).mono ?_
  rintro e w2 ⟨y, rfl, hrd2, g2⟩
  have r2 := (r0.grown g1 (by simp; omega)).grown g2 (by simp; omega)
  obtain ⟨c0, c1, f0, f1⟩ := r2.two
  have G := grown_trans (grown_trans g0 g1) g2
  have r3 := (r2.set_ 0 (.int .i64 x)).set_ 1 (.int .i64 y)
  have hrd3 := (hrd2.over (grown_set w2 w.heap.size 0 (.int .i64 x)) (fun j e => by cases e; omega)).over (grown_set _ w.heap.size 1 (.int .i64 y)) (fun j e => by cases e; omega)
  have G3 := grown_far (grown_far G (grown_set w2 w.heap.size 0 (.int .i64 x)) (fun j e => by cases e; exact Nat.le_refl _)) (grown_set _ w.heap.size 1 (.int .i64 y)) (fun j e => by cases e; exact Nat.le_refl _)
  rw [show p + 2 + 2 = p + 4 from by omega] at hrd3
  have Hrd3 := Lib.hid hrd3; clear hrd3
  have hidX := Lib.hid G3; clear G3; have G3 := hidX; clear hidX
  clear g0 g1 g2 G h1
  go_wp2_with fail
  generalize (w2.setCell ⟨w.heap.size, 0, none⟩ (.int .i64 x)).setCell ⟨w.heap.size, 1, none⟩ (.int .i64 y) = V at r3 Hrd3 G3 ⊢
  obtain ⟨d0, d1, _, _⟩ := r3.two
  refine bodyPost_ret (v := .agg #[.int .i64 x, .int .i64 y]) (by simp [results, Try.results134, go_sem, d0, d1]) rfl ⟨x, y, rfl, Hrd3.out, G3.out⟩

set_option maxRecDepth 100000 in
set_option maxHeartbeats 1000000 in
theorem drawObserveSolve_any (A : Option Addr) (n cap : Nat) (bs : List Int) (w : World) (hn : bs.length = n) (hm : n ≤ 9223372036854775807) (hc : n ≤ cap) (hb : BytesOk bs) (hr : Rd w w.heap.size A (bs.map (Value.int .u8))) :
    Calls Try.prog 53 #[.slice A n cap] w fun e w' =>
      ∃ (N : Nat) (A1 : Option Addr) (k1 c1 : Nat) (seen : List (Int × Int)) (A2 : Option Addr) (k2 c2 : Nat) (model : List (Int × Int)), e = .returned (.tuple #[.int .i64 N, .slice A1 k1 c1, .slice A2 k2 c2]) ∧ 2 ≤ N ∧ N ≤ 5 ∧
        seen.length = k1 ∧ k1 ≤ 30 ∧ Rd w' w'.heap.size A1 (seen.flatMap pairCells) ∧ model.length = k2 ∧ k2 ≤ 30 ∧ Rd w' w'.heap.size A2 (model.flatMap pairCells) ∧ Below w.heap.size w w' := by
  go_enter Try.func53, Try.ntmps53
  go_wp2_with fail
  refine (l6Open_any A n cap bs w hn hm hc hr).mono ?_
  rintro e w1 ⟨rfl, hR, hb1⟩
  have hrd := isRd_open hn hb hr hR hb1
  clear hR
  go_wp2_with fail
  refine (l91Ants_any _ 0 _ (by omega) hrd).mono ?_
  rintro e w2 ⟨N0, rfl, hN2, hN6, hrd2, g2⟩
  have B2 : Below w.heap.size w w2 := hb1.grown g2 hb1.size fun j e => by cases e; exact Nat.le_refl _
  clear hb1 g2
  have h3 : N0 = 6 ∨ N0 = 5 ∨ N0 < 5 := by omega
  rcases h3 with rfl | rfl | h3
  · go_wp2_with fail
    refine (l93Numbers_any _ 5 _ _ (by omega) (by omega) (by omega) hrd2).mono ?_
    rintro e w3 ⟨A1, k1, c1, gs, p', rfl, hgs, hk1, hr1, hp1, hp2, hrd3, g3⟩
    have B3 : Below w.heap.size w w3 := B2.grown g3 B2.size fun j e => by cases e; exact Nat.le_refl _
    have hap := hr1.apart hrd3 (pairs_int gs) (by rw [pairCells_len]; omega)
    have hgs := Lib.hid hgs
    have hap := Lib.hid hap
    clear g3 hrd2
    go_wp2_with fail
    refine (l93Quarters_rd _ 5 _ _ (by omega) (by omega) (by omega) hrd3).mono ?_
    rintro e w4 ⟨A2, k2, c2, q, p2, rfl, hq, hk2, hr2, hp3, hrd4, g4⟩
    have B4 : Below w.heap.size w w4 := B3.grown g4 B3.size fun j e => by cases e; exact Nat.le_refl _
    have hr1 := hr1.over g4 hap.out
    have HA4 := Lib.hid (rd_lt hr1)
    have hap := Lib.hid (hr1.apart hrd4 (pairs_int gs) (by rw [pairCells_len]; omega))
    have hq := Lib.hid hq
    clear g4 hrd3
    go_wp2_with fail
    refine (sObserveTurn_any (5 : Nat) A1 A2 k1 c1 k2 c2 gs q _ hgs.out hq.out (by omega) (by omega) hr1 hr2).mono ?_
    rintro e w5 ⟨v, rfl, o5, b5⟩
    have B5 := B4.trans (b5.mono B4.size)
    have hrd5 := hrd4.kept b5
    have hr1 := hr1.ext b5
    have hRs := hrd4.lt
    have hTl := turnR_le (5 : Nat) gs q
    have hT1 := turnR_ge (n := ((5 : Nat) : Int)) (gs := gs) (q := q)
    clear b5 hr2 hrd4
    obtain ⟨ok, hok⟩ : ∃ ok, turnOK ((5 : Nat) : Int) gs q = ok := ⟨_, rfl⟩
    obtain ⟨T, hT⟩ : ∃ T, turnR ((5 : Nat) : Int) gs q = T := ⟨_, rfl⟩
    rw [hok] at hT1
    rw [hT] at o5 hTl hT1
    rw [show turnOK ((5 : Nat) : Int) gs q = ok from hok]
    obtain ⟨A5, c5, rfl⟩ := own_form o5
    have Ho5 := Lib.hid o5
    have hok := Lib.hid hok
    have hT := Lib.hid hT
    clear o5
    cases ok
    · have hap := Lib.hid (hr1.apart hrd5 (pairs_int gs) (by rw [pairCells_len]; omega))
      go_wp2_with fail
      refine (l93Numbers_any _ 5 _ _ (by omega) (by omega) (by omega) hrd5).mono ?_
      rintro e w6 ⟨A6, k6, c6, gs6, p6, rfl, hgs6, hk6, hr6, hp61, hp62, hrd6, g6⟩
      have B6 : Below w.heap.size w w6 := B5.grown g6 B5.size fun j e => by cases e; exact Nat.le_refl _
      have hr1 := hr1.over g6 hap.out
      go_wp2_with fail
      exact bodyPost_ret (v := .tuple #[.int .i64 (5 : Nat), .slice A6 k6 c6, .slice A1 k1 c1]) (by simp [results, Try.results53, go_sem]) rfl ⟨5, A6, k6, c6, gs6, A1, k1, c1, gs, rfl, by omega, by omega, hgs6, by omega, hr6, hgs.out, by omega, hr1, B6⟩
    · have hT1 := hT1 rfl
      have hap := Lib.hid (hr1.apart hrd5 (pairs_int gs) (by rw [pairCells_len]; omega))
      go_wp2_with fail
      refine (pick2 _ p2 8 _ (by omega) (by omega) hrd5).mono ?_
      rintro e w6 ⟨x, rfl, x0, x8, hrd6, g6⟩
      have o6 := own_over Ho5.out g6 (fun j hj e => by have := (own_lt Ho5.out hj).1; injection e with e; omega)
      have B6 : Below w.heap.size w w6 := B5.grown g6 B5.size fun j e => by cases e; exact Nat.le_refl _
      have hr1 := hr1.over g6 hap.out
      clear g6 hrd5
      by_cases hx0 : x = 0
      · subst hx0
        have hap := Lib.hid (hr1.apart hrd6 (pairs_int gs) (by rw [pairCells_len]; omega))
        have Ho6 := Lib.hid o6
        clear o6
        go_wp2_with fail
        refine (l91Gauss_any _ (p2 + 1) _ (by omega) hrd6).mono ?_
        rintro e w7 ⟨x, y, rfl, hrd7, g7⟩
        have o7 := own_over Ho6.out g7 (fun j hj e => by have := (own_lt Ho6.out hj).1; injection e with e; omega)
        have B7 : Below w.heap.size w w7 := B6.grown g7 B6.size fun j e => by cases e; exact Nat.le_refl _
        have hr1 := hr1.over g7 hap.out
        clear g7 hrd6
        obtain ⟨y0, hy0⟩ : ∃ y, T[0]? = some y := ⟨_, List.getElem?_eq_getElem (by omega)⟩
        obtain ⟨g, rfl, hBg, hob, hc, hf, hset⟩ := own_set o7 (i := 0) (u := .int .i64 y0.1) (pairCells_get T 0 y0 hy0).1
        obtain ⟨_, e3, _, _, hc1b, hf1b, _⟩ := own_set o7 (i := 1) (u := .int .i64 y0.2) (pairCells_get T 0 y0 hy0).2
        cases e3
        have o8 := hset (.int .i64 x)
        obtain ⟨_, e4, _, _, _, _, hset2⟩ := own_set o8 (i := 1) (u := .int .i64 y0.2) (by rw [List.getElem?_set_ne (by omega)]; exact (pairCells_get T 0 y0 hy0).2)
        cases e4
        have o9 := hset2 (.int .i64 y)
        have he := pairs_set T 0 (x, y) (by omega)
        simp only [Nat.zero_mul, Nat.zero_add] at he
        have B9 := (B7.setCell (p := ⟨g, 0, none⟩) (Nat.le_trans B4.size hBg) (.int .i64 x)).setCell (p := ⟨g, 1, none⟩) (Nat.le_trans B4.size hBg) (.int .i64 y)
        have hAg : ∀ b off, A1 = some ⟨b, off, none⟩ → b ≠ g ∨ gs.flatMap pairCells = [] := fun b off e => by
          rcases HA4.out b off e with h | h
          · left; omega
          · right; exact h
        have O9 := Lib.hid o9; clear o9
        have hidX := Lib.hid B9; clear B9; have B9 := hidX; clear hidX
        have He := Lib.hid he; clear he
        have HAg := Lib.hid hAg; clear hAg
        clear o7 o8 hset hset2 hrd7 B7 hy0
        go_wp2_with fail
        refine bodyPost_ret (v := .tuple #[.int .i64 (5 : Nat), .slice (some ⟨g, 0, none⟩) T.length c5, .slice A1 k1 c1]) (by simp [results, Try.results53, go_sem]) rfl ⟨5, some ⟨g, 0, none⟩, T.length, c5, T.set 0 (x, y), A1, k1, c1, gs, rfl, by omega, by omega, List.length_set .., by omega, ?_, hgs.out, by omega, ?_, B9.out⟩
        · rw [← He.out]; exact Rd.of_own O9.out
        · exact (hr1.over (grown_set w7 g 0 (.int .i64 x)) HAg.out).over (grown_set _ g 1 (.int .i64 y)) HAg.out
      · have hx0 : (x == 0) = false := beq_eq_false_iff_ne.2 hx0
        have hr6 := Rd.of_own o6
        have Hr6 := Lib.hid hr6
        clear o6 hr6
        go_wp2_with fail
        exact bodyPost_ret (v := .tuple #[.int .i64 (5 : Nat), .slice A5 T.length c5, .slice A1 k1 c1]) (by simp [results, Try.results53, go_sem]) rfl ⟨5, A5, T.length, c5, T, A1, k1, c1, gs, rfl, by omega, by omega, rfl, by omega, Hr6.out, hgs.out, by omega, hr1, B6⟩
  · go_wp2_with fail
    refine (l93Numbers_any _ 5 _ _ (by omega) (by omega) (by omega) hrd2).mono ?_
    rintro e w3 ⟨A1, k1, c1, gs, p', rfl, hgs, hk1, hr1, hp1, hp2, hrd3, g3⟩
    have B3 : Below w.heap.size w w3 := B2.grown g3 B2.size fun j e => by cases e; exact Nat.le_refl _
    have hap := hr1.apart hrd3 (pairs_int gs) (by rw [pairCells_len]; omega)
    have hgs := Lib.hid hgs
    have hap := Lib.hid hap
    clear g3 hrd2
    go_wp2_with fail
    refine (l93Quarters_rd _ 5 _ _ (by omega) (by omega) (by omega) hrd3).mono ?_
    rintro e w4 ⟨A2, k2, c2, q, p2, rfl, hq, hk2, hr2, hp3, hrd4, g4⟩
    have B4 : Below w.heap.size w w4 := B3.grown g4 B3.size fun j e => by cases e; exact Nat.le_refl _
    have hr1 := hr1.over g4 hap.out
    have HA4 := Lib.hid (rd_lt hr1)
    have hap := Lib.hid (hr1.apart hrd4 (pairs_int gs) (by rw [pairCells_len]; omega))
    have hq := Lib.hid hq
    clear g4 hrd3
    go_wp2_with fail
    refine (sObserveTurn_any (5 : Nat) A1 A2 k1 c1 k2 c2 gs q _ hgs.out hq.out (by omega) (by omega) hr1 hr2).mono ?_
    rintro e w5 ⟨v, rfl, o5, b5⟩
    have B5 := B4.trans (b5.mono B4.size)
    have hrd5 := hrd4.kept b5
    have hr1 := hr1.ext b5
    have hRs := hrd4.lt
    have hTl := turnR_le (5 : Nat) gs q
    have hT1 := turnR_ge (n := ((5 : Nat) : Int)) (gs := gs) (q := q)
    clear b5 hr2 hrd4
    obtain ⟨ok, hok⟩ : ∃ ok, turnOK ((5 : Nat) : Int) gs q = ok := ⟨_, rfl⟩
    obtain ⟨T, hT⟩ : ∃ T, turnR ((5 : Nat) : Int) gs q = T := ⟨_, rfl⟩
    rw [hok] at hT1
    rw [hT] at o5 hTl hT1
    rw [show turnOK ((5 : Nat) : Int) gs q = ok from hok]
    obtain ⟨A5, c5, rfl⟩ := own_form o5
    have Ho5 := Lib.hid o5
    have hok := Lib.hid hok
    have hT := Lib.hid hT
    clear o5
    cases ok
    · have hap := Lib.hid (hr1.apart hrd5 (pairs_int gs) (by rw [pairCells_len]; omega))
      go_wp2_with fail
      refine (l93Numbers_any _ 5 _ _ (by omega) (by omega) (by omega) hrd5).mono ?_
      rintro e w6 ⟨A6, k6, c6, gs6, p6, rfl, hgs6, hk6, hr6, hp61, hp62, hrd6, g6⟩
      have B6 : Below w.heap.size w w6 := B5.grown g6 B5.size fun j e => by cases e; exact Nat.le_refl _
      have hr1 := hr1.over g6 hap.out
      go_wp2_with fail
      exact bodyPost_ret (v := .tuple #[.int .i64 (5 : Nat), .slice A6 k6 c6, .slice A1 k1 c1]) (by simp [results, Try.results53, go_sem]) rfl ⟨5, A6, k6, c6, gs6, A1, k1, c1, gs, rfl, by omega, by omega, hgs6, by omega, hr6, hgs.out, by omega, hr1, B6⟩
    · have hT1 := hT1 rfl
      have hap := Lib.hid (hr1.apart hrd5 (pairs_int gs) (by rw [pairCells_len]; omega))
      go_wp2_with fail
      refine (pick2 _ p2 8 _ (by omega) (by omega) hrd5).mono ?_
      rintro e w6 ⟨x, rfl, x0, x8, hrd6, g6⟩
      have o6 := own_over Ho5.out g6 (fun j hj e => by have := (own_lt Ho5.out hj).1; injection e with e; omega)
      have B6 : Below w.heap.size w w6 := B5.grown g6 B5.size fun j e => by cases e; exact Nat.le_refl _
      have hr1 := hr1.over g6 hap.out
      clear g6 hrd5
      by_cases hx0 : x = 0
      · subst hx0
        have hap := Lib.hid (hr1.apart hrd6 (pairs_int gs) (by rw [pairCells_len]; omega))
        have Ho6 := Lib.hid o6
        clear o6
        go_wp2_with fail
        refine (l91Gauss_any _ (p2 + 1) _ (by omega) hrd6).mono ?_
        rintro e w7 ⟨x, y, rfl, hrd7, g7⟩
        have o7 := own_over Ho6.out g7 (fun j hj e => by have := (own_lt Ho6.out hj).1; injection e with e; omega)
        have B7 : Below w.heap.size w w7 := B6.grown g7 B6.size fun j e => by cases e; exact Nat.le_refl _
        have hr1 := hr1.over g7 hap.out
        clear g7 hrd6
        obtain ⟨y0, hy0⟩ : ∃ y, T[0]? = some y := ⟨_, List.getElem?_eq_getElem (by omega)⟩
        obtain ⟨g, rfl, hBg, hob, hc, hf, hset⟩ := own_set o7 (i := 0) (u := .int .i64 y0.1) (pairCells_get T 0 y0 hy0).1
        obtain ⟨_, e3, _, _, hc1b, hf1b, _⟩ := own_set o7 (i := 1) (u := .int .i64 y0.2) (pairCells_get T 0 y0 hy0).2
        cases e3
        have o8 := hset (.int .i64 x)
        obtain ⟨_, e4, _, _, _, _, hset2⟩ := own_set o8 (i := 1) (u := .int .i64 y0.2) (by rw [List.getElem?_set_ne (by omega)]; exact (pairCells_get T 0 y0 hy0).2)
        cases e4
        have o9 := hset2 (.int .i64 y)
        have he := pairs_set T 0 (x, y) (by omega)
        simp only [Nat.zero_mul, Nat.zero_add] at he
        have B9 := (B7.setCell (p := ⟨g, 0, none⟩) (Nat.le_trans B4.size hBg) (.int .i64 x)).setCell (p := ⟨g, 1, none⟩) (Nat.le_trans B4.size hBg) (.int .i64 y)
        have hAg : ∀ b off, A1 = some ⟨b, off, none⟩ → b ≠ g ∨ gs.flatMap pairCells = [] := fun b off e => by
          rcases HA4.out b off e with h | h
          · left; omega
          · right; exact h
        have O9 := Lib.hid o9; clear o9
        have hidX := Lib.hid B9; clear B9; have B9 := hidX; clear hidX
        have He := Lib.hid he; clear he
        have HAg := Lib.hid hAg; clear hAg
        clear o7 o8 hset hset2 hrd7 B7 hy0
        go_wp2_with fail
        refine bodyPost_ret (v := .tuple #[.int .i64 (5 : Nat), .slice (some ⟨g, 0, none⟩) T.length c5, .slice A1 k1 c1]) (by simp [results, Try.results53, go_sem]) rfl ⟨5, some ⟨g, 0, none⟩, T.length, c5, T.set 0 (x, y), A1, k1, c1, gs, rfl, by omega, by omega, List.length_set .., by omega, ?_, hgs.out, by omega, ?_, B9.out⟩
        · rw [← He.out]; exact Rd.of_own O9.out
        · exact (hr1.over (grown_set w7 g 0 (.int .i64 x)) HAg.out).over (grown_set _ g 1 (.int .i64 y)) HAg.out
      · have hx0 : (x == 0) = false := beq_eq_false_iff_ne.2 hx0
        have hr6 := Rd.of_own o6
        have Hr6 := Lib.hid hr6
        clear o6 hr6
        go_wp2_with fail
        exact bodyPost_ret (v := .tuple #[.int .i64 (5 : Nat), .slice A5 T.length c5, .slice A1 k1 c1]) (by simp [results, Try.results53, go_sem]) rfl ⟨5, A5, T.length, c5, T, A1, k1, c1, gs, rfl, by omega, by omega, rfl, by omega, Hr6.out, hgs.out, by omega, hr1, B6⟩
  · have h3I : (N0 : Int) < 5 := by omega
    go_wp2_with fail
    refine (l93Numbers_any _ N0 _ _ (by omega) (by omega) (by omega) hrd2).mono ?_
    rintro e w3 ⟨A1, k1, c1, gs, p', rfl, hgs, hk1, hr1, hp1, hp2, hrd3, g3⟩
    have B3 : Below w.heap.size w w3 := B2.grown g3 B2.size fun j e => by cases e; exact Nat.le_refl _
    have hap := hr1.apart hrd3 (pairs_int gs) (by rw [pairCells_len]; omega)
    have hgs := Lib.hid hgs
    have hap := Lib.hid hap
    clear g3 hrd2
    go_wp2_with fail
    refine (l93Quarters_rd _ N0 _ _ (by omega) (by omega) (by omega) hrd3).mono ?_
    rintro e w4 ⟨A2, k2, c2, q, p2, rfl, hq, hk2, hr2, hp3, hrd4, g4⟩
    have B4 : Below w.heap.size w w4 := B3.grown g4 B3.size fun j e => by cases e; exact Nat.le_refl _
    have hr1 := hr1.over g4 hap.out
    have HA4 := Lib.hid (rd_lt hr1)
    have hap := Lib.hid (hr1.apart hrd4 (pairs_int gs) (by rw [pairCells_len]; omega))
    have hq := Lib.hid hq
    clear g4 hrd3
    go_wp2_with fail
    refine (sObserveTurn_any (N0 : Nat) A1 A2 k1 c1 k2 c2 gs q _ hgs.out hq.out (by omega) (by omega) hr1 hr2).mono ?_
    rintro e w5 ⟨v, rfl, o5, b5⟩
    have B5 := B4.trans (b5.mono B4.size)
    have hrd5 := hrd4.kept b5
    have hr1 := hr1.ext b5
    have hRs := hrd4.lt
    have hTl := turnR_le (N0 : Nat) gs q
    have hT1 := turnR_ge (n := ((N0 : Nat) : Int)) (gs := gs) (q := q)
    clear b5 hr2 hrd4
    obtain ⟨ok, hok⟩ : ∃ ok, turnOK ((N0 : Nat) : Int) gs q = ok := ⟨_, rfl⟩
    obtain ⟨T, hT⟩ : ∃ T, turnR ((N0 : Nat) : Int) gs q = T := ⟨_, rfl⟩
    rw [hok] at hT1
    rw [hT] at o5 hTl hT1
    rw [show turnOK ((N0 : Nat) : Int) gs q = ok from hok]
    obtain ⟨A5, c5, rfl⟩ := own_form o5
    have Ho5 := Lib.hid o5
    have hok := Lib.hid hok
    have hT := Lib.hid hT
    clear o5
    cases ok
    · have hap := Lib.hid (hr1.apart hrd5 (pairs_int gs) (by rw [pairCells_len]; omega))
      go_wp2_with fail
      refine (l93Numbers_any _ N0 _ _ (by omega) (by omega) (by omega) hrd5).mono ?_
      rintro e w6 ⟨A6, k6, c6, gs6, p6, rfl, hgs6, hk6, hr6, hp61, hp62, hrd6, g6⟩
      have B6 : Below w.heap.size w w6 := B5.grown g6 B5.size fun j e => by cases e; exact Nat.le_refl _
      have hr1 := hr1.over g6 hap.out
      go_wp2_with fail
      exact bodyPost_ret (v := .tuple #[.int .i64 (N0 : Nat), .slice A6 k6 c6, .slice A1 k1 c1]) (by simp [results, Try.results53, go_sem]) rfl ⟨N0, A6, k6, c6, gs6, A1, k1, c1, gs, rfl, by omega, by omega, hgs6, by omega, hr6, hgs.out, by omega, hr1, B6⟩
    · have hT1 := hT1 rfl
      have hap := Lib.hid (hr1.apart hrd5 (pairs_int gs) (by rw [pairCells_len]; omega))
      go_wp2_with fail
      refine (pick2 _ p2 8 _ (by omega) (by omega) hrd5).mono ?_
      rintro e w6 ⟨x, rfl, x0, x8, hrd6, g6⟩
      have o6 := own_over Ho5.out g6 (fun j hj e => by have := (own_lt Ho5.out hj).1; injection e with e; omega)
      have B6 : Below w.heap.size w w6 := B5.grown g6 B5.size fun j e => by cases e; exact Nat.le_refl _
      have hr1 := hr1.over g6 hap.out
      clear g6 hrd5
      by_cases hx0 : x = 0
      · subst hx0
        have hap := Lib.hid (hr1.apart hrd6 (pairs_int gs) (by rw [pairCells_len]; omega))
        have Ho6 := Lib.hid o6
        clear o6
        go_wp2_with fail
        refine (l91Gauss_any _ (p2 + 1) _ (by omega) hrd6).mono ?_
        rintro e w7 ⟨x, y, rfl, hrd7, g7⟩
        have o7 := own_over Ho6.out g7 (fun j hj e => by have := (own_lt Ho6.out hj).1; injection e with e; omega)
        have B7 : Below w.heap.size w w7 := B6.grown g7 B6.size fun j e => by cases e; exact Nat.le_refl _
        have hr1 := hr1.over g7 hap.out
        clear g7 hrd6
        obtain ⟨y0, hy0⟩ : ∃ y, T[0]? = some y := ⟨_, List.getElem?_eq_getElem (by omega)⟩
        obtain ⟨g, rfl, hBg, hob, hc, hf, hset⟩ := own_set o7 (i := 0) (u := .int .i64 y0.1) (pairCells_get T 0 y0 hy0).1
        obtain ⟨_, e3, _, _, hc1b, hf1b, _⟩ := own_set o7 (i := 1) (u := .int .i64 y0.2) (pairCells_get T 0 y0 hy0).2
        cases e3
        have o8 := hset (.int .i64 x)
        obtain ⟨_, e4, _, _, _, _, hset2⟩ := own_set o8 (i := 1) (u := .int .i64 y0.2) (by rw [List.getElem?_set_ne (by omega)]; exact (pairCells_get T 0 y0 hy0).2)
        cases e4
        have o9 := hset2 (.int .i64 y)
        have he := pairs_set T 0 (x, y) (by omega)
        simp only [Nat.zero_mul, Nat.zero_add] at he
        have B9 := (B7.setCell (p := ⟨g, 0, none⟩) (Nat.le_trans B4.size hBg) (.int .i64 x)).setCell (p := ⟨g, 1, none⟩) (Nat.le_trans B4.size hBg) (.int .i64 y)
        have hAg : ∀ b off, A1 = some ⟨b, off, none⟩ → b ≠ g ∨ gs.flatMap pairCells = [] := fun b off e => by
          rcases HA4.out b off e with h | h
          · left; omega
          · right; exact h
        have O9 := Lib.hid o9; clear o9
        have hidX := Lib.hid B9; clear B9; have B9 := hidX; clear hidX
        have He := Lib.hid he; clear he
        have HAg := Lib.hid hAg; clear hAg
        clear o7 o8 hset hset2 hrd7 B7 hy0
        go_wp2_with fail
        refine bodyPost_ret (v := .tuple #[.int .i64 (N0 : Nat), .slice (some ⟨g, 0, none⟩) T.length c5, .slice A1 k1 c1]) (by simp [results, Try.results53, go_sem]) rfl ⟨N0, some ⟨g, 0, none⟩, T.length, c5, T.set 0 (x, y), A1, k1, c1, gs, rfl, by omega, by omega, List.length_set .., by omega, ?_, hgs.out, by omega, ?_, B9.out⟩
        · rw [← He.out]; exact Rd.of_own O9.out
        · exact (hr1.over (grown_set w7 g 0 (.int .i64 x)) HAg.out).over (grown_set _ g 1 (.int .i64 y)) HAg.out
      · have hx0 : (x == 0) = false := beq_eq_false_iff_ne.2 hx0
        have hr6 := Rd.of_own o6
        have Hr6 := Lib.hid hr6
        clear o6 hr6
        go_wp2_with fail
        exact bodyPost_ret (v := .tuple #[.int .i64 (N0 : Nat), .slice A5 T.length c5, .slice A1 k1 c1]) (by simp [results, Try.results53, go_sem]) rfl ⟨N0, A5, T.length, c5, T, A1, k1, c1, gs, rfl, by omega, by omega, rfl, by omega, Hr6.out, hgs.out, by omega, hr1, B6⟩
end Go.Proofs.Ytcllkocmnohnkaa
