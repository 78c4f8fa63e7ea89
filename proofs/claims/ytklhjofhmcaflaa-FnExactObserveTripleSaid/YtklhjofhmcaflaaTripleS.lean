/- 'spec.ObserveTriple' at every input. -/
import Derived.Test.YtklhjofhmcaflaaTripleI
namespace Go.Proofs.Ytklhjofhmcaflaa
open Go.RowKit

/-- All in range, and no two alike. -/
def apart (n : Int) (q : List Int) : Bool := (List.range q.length).all fun i => inR (q.getD i 0) 0 (n - 1) && (List.range i).all fun k => !(q.getD k 0 == q.getD i 0)
theorem apart_no {n : Int} {q : List Int} (i : Nat) (hi : i < q.length) (h : (inR (q.getD i 0) 0 (n - 1) && (List.range i).all fun k => !(q.getD k 0 == q.getD i 0)) = false) : apart n q = false := by
  unfold apart
  rw [List.all_eq_false]
  exact ⟨i, List.mem_range.2 hi, by rw [h]; simp⟩
theorem apart3 (n i j k : Int) : apart n [i, j, k] = true ↔ (0 ≤ i ∧ i < n ∧ 0 ≤ j ∧ j < n ∧ 0 ≤ k ∧ k < n) ∧ i ≠ j ∧ i ≠ k ∧ j ≠ k := by
  unfold apart
  simp [List.range_succ, inR]
  omega

set_option maxHeartbeats 1000000 in
theorem l13Apart_any (n : Int) (A : Option Addr) (m cap : Nat) (q : List Int) (w : World) (hn : 2 ≤ n ∧ n ≤ 7) (hq : q.length = m) (hm : m ≤ 1000) (hr : Rd w w.heap.size A (q.map (Value.int .i64))) :
    Calls Try.prog 55 #[.int .i64 n, .slice A m cap] w fun e w' => e = .returned (.bool (apart n q)) ∧ Below w.heap.size w w' := by
  have Hq := Lib.hid hq; clear hq
  go_enter Try.func55, Try.ntmps55
  go_wp2_with fail
  go_loopw [5] (fun i wr => ∃ a : Nat, a ≤ m ∧ i = .int .i64 a ∧ ((List.range a).all fun i => inR (q.getD i 0) 0 (n - 1) && (List.range i).all fun k => !(q.getD k 0 == q.getD i 0)) = true ∧ Below w.heap.size w wr) (fun i _ => m - (intOf i).toNat)
  case atStart => exact ⟨0, by omega, rfl, rfl, Below.refl _ _⟩
  case round =>
    obtain ⟨a, ha, rfl, hall, hbel⟩ := hrel
    have hr' := hr.ext hbel
    have Hall := Lib.hid hall; clear hall
    have Hbel := Lib.hid hbel; clear hbel
    by_cases hlt : a < m
    · have hqa : q[a]? = some (q.getD a 0) := by rw [List.getD_eq_getElem?_getD, List.getElem?_eq_getElem (by rw [Hq.out]; exact hlt)]; rfl
      obtain ⟨b, off, rfl, hb, hc⟩ := hr' a (.int .i64 (q.getD a 0)) (by rw [List.getElem?_map, hqa]; rfl)
      obtain ⟨x, hx⟩ : ∃ x, q.getD a 0 = x := ⟨_, rfl⟩
      rw [hx] at hc
      have Hqa := Lib.hid hqa; clear hqa
      have Hx := Lib.hid hx; clear hx
      go_wp2_with fail
      refine (l6In_any x 0 (n - 1) _).mono ?_
      rintro e w1 ⟨rfl, rfl⟩
      cases hin : inR x 0 (n - 1)
      · have Hin := Lib.hid hin; clear hin
        go_wp2_with fail
        go_ret
        refine ⟨ret_bool ?_, Hbel.out⟩
        symm
        exact apart_no a (by rw [Hq.out]; exact hlt) (by rw [Hx.out, Hin.out]; rfl)
      · have Hin := Lib.hid hin; clear hin
        go_wp2_with fail
        go_loopw [6] (fun i wr2 => ∃ c : Nat, c ≤ a ∧ i = .int .i64 c ∧ ((List.range c).all fun k => !(q.getD k 0 == x)) = true ∧ Below wr.heap.size wr wr2) (fun i _ => a - (intOf i).toNat)
        case atStart => exact ⟨0, by omega, rfl, rfl, Below.refl _ _⟩
        case round =>
          obtain ⟨c, hca, rfl, hall2, hbel2⟩ := hrel
          have hr2 := hr'.ext hbel2
          have hbel3 := Hbel.out.trans (hbel2.mono Hbel.out.size)
          have Hall2 := Lib.hid hall2; clear hall2
          have Hbel2 := Lib.hid hbel2; clear hbel2
          have Hbel3 := Lib.hid hbel3; clear hbel3
          clear hc
          by_cases hlt2 : c < a
          · have hqc : q[c]? = some (q.getD c 0) := by rw [List.getD_eq_getElem?_getD, List.getElem?_eq_getElem (by rw [Hq.out]; omega)]; rfl
            obtain ⟨y, hy⟩ : ∃ y, q.getD c 0 = y := ⟨_, rfl⟩
            obtain ⟨_, _, e2, hb2, hc2⟩ := hr2 c (.int .i64 y) (by rw [List.getElem?_map, hqc, hy]; rfl)
            cases e2
            obtain ⟨_, _, e2, hb3, hc3⟩ := hr2 a (.int .i64 x) (by rw [List.getElem?_map, Hqa.out, Hx.out]; rfl)
            cases e2
            have Hqc := Lib.hid hqc; clear hqc
            have Hy := Lib.hid hy; clear hy
            by_cases hyx : y = x
            · have hyb : (y == x) = true := by rw [hyx]; simp
              have Hyx := Lib.hid hyx; clear hyx
              go_wp2_with fail
              go_quiet (fail)
              go_wp2_with fail
              go_ret
              refine ⟨ret_bool ?_, below_drewN Hbel3.out _⟩
              symm
              refine apart_no a (by rw [Hq.out]; exact hlt) ?_
              rw [Bool.and_eq_false_iff]
              right
              rw [List.all_eq_false]
              exact ⟨c, List.mem_range.2 hlt2, by rw [Hx.out, Hy.out, Hyx.out]; simp⟩
            · have hyb : (y == x) = false := beq_eq_false_iff_ne.2 hyx
              have Hyx := Lib.hid hyb
              clear hyx
              go_wp2_with fail
              go_quiet (fail)
              go_wp2_with fail
              go_roundw
              case measure => simp [intOf]; omega
              case rel =>
                refine ⟨c + 1, by omega, by go_num, ?_, below_drewN Hbel2.out _⟩
                rw [all_range_succ, Hall2.out, Hy.out, Hyx.out]; rfl
          · obtain rfl : c = a := by omega
            go_wp2_with fail
            go_roundw
            case measure => simp [intOf]; omega
            case rel =>
              refine ⟨c + 1, by omega, by go_num, ?_, Hbel3.out⟩
              rw [all_range_succ, Hall.out, Hx.out, Hin.out, Hall2.out]; rfl
    · obtain rfl : a = m := by omega
      go_wp2_with fail
      go_ret
      refine ⟨ret_bool ?_, Hbel.out⟩
      rw [← Hall.out]; unfold apart; rw [Hq.out]

theorem tripOK_apart {n : Int} {gs : List (Int × Int)} {i j k : Int} (h1 : obsV n gs = true) : tripOK n gs i j k = true ↔ apart n [i, j, k] = true ∧ i ≤ j ∧ j ≤ k := by
  rw [tripOK_iff, apart3, h1]; simp; omega

set_option maxRecDepth 100000 in
set_option maxHeartbeats 2000000 in
theorem sObserveTriple_no (n : Int) (A : Option Addr) (m cap : Nat) (gs : List (Int × Int)) (i j k : Int) (w : World) (hn : gs.length = m) (hm : m ≤ 1000000000) (hr : Rd w w.heap.size A (gs.flatMap pairCells)) (h : tripOK n gs i j k = false) :
    Calls Try.prog 21 #[.int .i64 n, .slice A m cap, .int .i64 i, .int .i64 j, .int .i64 k] w fun e w' => e = .returned (.tuple #[.agg #[.int .i64 0, .int .i64 0], .bool false]) ∧ Below w.heap.size w w' := by
  have Hn := Lib.hid hn; clear hn
  have r0 := Row.new w 33 [.int .i64 0, .int .i64 0]
  have hr' := hr.ext (bA1 (o := .cells #[.int .i64 0, .int .i64 0] 33))
  cases h1 : obsV n gs
  · have H := Lib.hid h; clear h
    have H1 := Lib.hid h1; clear h1
    go_enter Try.func21, Try.ntmps21
    go_wp2_with fail
    refine (l43Ok_any n A m cap gs _ Hn.out hm hr').mono ?_
    rintro e w1 ⟨rfl, b1⟩
    rw [H1.out]
    obtain ⟨c0, c1, f0, f1⟩ := (r0.kept b1).two
    have B1 := (bA1 (w := w)).trans (b1.mono bA1.size)
    clear b1
    go_wp2_with fail
    exact bodyPost_ret (v := .tuple #[.agg #[.int .i64 0, .int .i64 0], .bool false]) (by simp [results, Try.results21, go_sem, c0, c1]) rfl ⟨rfl, (B1.setCell (p := ⟨w.heap.size, 0, none⟩) (Nat.le_refl _) _).setCell (p := ⟨w.heap.size, 1, none⟩) (Nat.le_refl _) _⟩
  · have hn27 : 2 ≤ n ∧ n ≤ 7 := by obtain ⟨N, rfl, _, _, _⟩ := obsV_of h1; omega
    have hcase : apart n [i, j, k] = false ∨ (apart n [i, j, k] = true ∧ (j < i ∨ (i ≤ j ∧ k < j))) := by
      cases ha : apart n [i, j, k]
      · exact .inl rfl
      · right
        refine ⟨rfl, ?_⟩
        have : ¬ (i ≤ j ∧ j ≤ k) := fun hc => by rw [(tripOK_apart h1).2 ⟨ha, hc⟩] at h; cases h
        omega
    clear h
    have H1 := Lib.hid h1; clear h1
    rcases hcase with ha | ⟨ha, hc | ⟨hc, hd⟩⟩
    all_goals
      have Ha := Lib.hid ha
      clear ha
      go_enter Try.func21, Try.ntmps21
      go_wp2_with fail
      refine (l43Ok_any n A m cap gs _ Hn.out hm hr').mono ?_
      rintro e w1 ⟨rfl, b1⟩
      rw [H1.out]
      have r1 := r0.kept b1
      have B1 := (bA1 (w := w)).trans (b1.mono bA1.size)
      clear b1
      have rl := Row.new w1 3 [.int .i64 i, .int .i64 j, .int .i64 k]
      have r1 := r1.alloc (.cells #[.int .i64 i, .int .i64 j, .int .i64 k] 3)
      have B1 := B1.alloc B1.size (.cells #[.int .i64 i, .int .i64 j, .int .i64 k] 3)
      go_wp2_with fail
      refine (l13Apart_any n _ 3 _ [i, j, k] _ hn27 rfl (by omega) rl.rd).mono ?_
      rintro e w2 ⟨rfl, b2⟩
      rw [Ha.out]
      obtain ⟨c0, c1, f0, f1⟩ := (r1.kept b2).two
      have B2 := B1.trans (b2.mono B1.size)
      clear b2 r1 rl
      go_wp2_with fail
      exact bodyPost_ret (v := .tuple #[.agg #[.int .i64 0, .int .i64 0], .bool false]) (by simp [results, Try.results21, go_sem, c0, c1]) rfl ⟨rfl, (B2.setCell (p := ⟨w.heap.size, 0, none⟩) (Nat.le_refl _) _).setCell (p := ⟨w.heap.size, 1, none⟩) (Nat.le_refl _) _⟩
end Go.Proofs.Ytklhjofhmcaflaa
