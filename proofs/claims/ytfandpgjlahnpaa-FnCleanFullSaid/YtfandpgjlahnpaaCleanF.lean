/- 'laws.sameClean' and 'laws.fullCover'. -/
import Derived.Test.YtfandpgjlahnpaaCleanN
import Derived.Test.YtfandpgjlahnpaaCleanP
namespace Go.Proofs.Ytfandpgjlahnpaa
open Go.RowKit

theorem boolInfo : (Try.prog.info? 4).map (fun i => (i.zero, i.size, i.bytes)) = some (some (.bool false), 1, 1) := by kernel_rfl
set_option maxHeartbeats 1000000 in
theorem fullCover_any (w : World) :
    Calls Try.prog 57 #[] w fun e w' => ∃ v, e = .returned v ∧ w'.ownsRow w.heap.size 4 1 v 16 (fullC.map Value.bool) ∧ Below w.heap.size w w' := by
  obtain ⟨i0, hi, hz0, hz1, hz2⟩ := info_parts boolInfo
  have r0 := Row.new w 4 []
  have o2 := r0.own (base := w.heap.size) (n := 0) (size := 1) (Nat.le_refl _) rfl (by decide)
  clear r0
  go_enter Try.func57, Try.ntmps57
  go_wp2_with fail
  go_loopw [1, 2] (fun x i wr => ∃ k : Nat, k ≤ 16 ∧ i = .int .i64 k ∧ wr.ownsRow w.heap.size 4 1 x k ((List.replicate k true).map Value.bool) ∧ Below w.heap.size w wr) (fun _ i _ => 16 - (intOf i).toNat)
  case atStart => exact ⟨0, by omega, rfl, o2, bA1⟩
  case round =>
    clear o2
    obtain ⟨k, hk, rfl, hrow, hbel⟩ := hrel
    by_cases hlt : k < 16
    · have hk16 : (k : Int) < 16 := by omega
      have hbs := hbel.size
      have Hrow := Lib.hid hrow; clear hrow
      have Hbel := Lib.hid hbel; clear hbel
      go_wp2_with (at_builtin; refine wpList_append_own _ rfl _ _ 38 rfl w.heap.size 4 i0 (.bool false) 1 1 (by kernel_rfl) hi hz0 hz1 hz2 rfl (by decide) _ k _ rfl (Hrow.out.alloc _) ⟨wr.heap.size, 0, none⟩ 1 1 [.bool true] rfl rfl (cell_one_new _ _ _) (by simp [Value.oneCell']) (by unfold maxLen; omega) (by omega) (by simp; omega) ?_; intro v' w7 hown' hgrow _; obtain ⟨g', cap', rfl⟩ := ownsRow_succ hown')
      have hb7 := (Hbel.out.alloc hbs _).grown hgrow (by simp; omega) fun j hj => (own_lt Hrow.out hj).1
      have Hb7 := Lib.hid hb7; clear hb7
      have Hown' := Lib.hid hown'; clear hown'
      clear hgrow
      go_wp2_with fail
      go_roundw
      case measure => simp [intOf]; omega
      case rel =>
        refine ⟨k + 1, by omega, by go_num, ?_, Hb7.out⟩
        rw [List.replicate_succ', List.map_append]
        exact Hown'.out
    · obtain rfl : k = 16 := by omega
      have Hrow := Lib.hid hrow; clear hrow
      go_wp2_with fail
      go_ret
      exact ⟨_, rfl, Hrow.out, hbel⟩

set_option maxHeartbeats 1000000 in
theorem sameClean_yes (A1 B1 A2 B2 : Option Addr) (n m c1 c2 c3 c4 : Nat) (M L : List Int) (w : World) (hM : M.length = n) (hL : L.length = m) (h1 : n ≤ 16) (h2 : m ≤ 16)
    (r1 : Rd w w.heap.size A1 (M.map (Value.int .i64))) (r2 : Rd w w.heap.size B1 (L.map (Value.int .i64))) (r3 : Rd w w.heap.size A2 (M.map (Value.int .i64))) (r4 : Rd w w.heap.size B2 (L.map (Value.int .i64))) :
    Calls Try.prog 56 #[.agg #[.slice A1 n c1, .slice B1 m c2], .agg #[.slice A2 n c3, .slice B2 m c4]] w fun e w' => e = .returned (.bool true) ∧ Below w.heap.size w w' := by
  have b0 := bA2 (w := w) (o := .cells #[.slice A1 n c1, .slice B1 m c2] 44) (o' := .cells #[.slice A2 n c3, .slice B2 m c4] 44)
  have e1 := (Row.new w 44 [.slice A1 n c1, .slice B1 m c2]).alloc (.cells #[.slice A2 n c3, .slice B2 m c4] 44)
  have e2 := Row.new1 w (.cells #[.slice A1 n c1, .slice B1 m c2] 44) 44 [.slice A2 n c3, .slice B2 m c4]
  have r1 := r1.ext b0
  have r2 := r2.ext b0
  have r3 := r3.ext b0
  have r4 := r4.ext b0
  obtain ⟨p0, p1, _, _⟩ := e1.two
  obtain ⟨q0, q1, _, _⟩ := e2.two
  have HM := Lib.hid hM; clear hM
  have HL := Lib.hid hL; clear hL
  go_enter Try.func56, Try.ntmps56
  go_wp2_with fail
  refine (sameInts_any A1 A2 n n c1 c3 M M _ HM.out HM.out (by omega) r1 r3).mono ?_
  rintro e w1 ⟨rfl, b1⟩
  rw [decide_eq_true (rfl : M = M)]
  have e1 := e1.kept b1
  have e2 := e2.kept b1
  have extX := (r2.below b1).more b1.size; clear r2; have r2 := extX; clear extX
  have extX := (r4.below b1).more b1.size; clear r4; have r4 := extX; clear extX
  have BW := b0.trans (b1.mono b0.size)
  clear b1 p0 p1 q0 q1
  obtain ⟨p0, p1, _, _⟩ := e1.two
  obtain ⟨q0, q1, _, _⟩ := e2.two
  go_wp2_with fail
  refine (sameInts_any B1 B2 m m c2 c4 L L _ HL.out HL.out (by omega) r2 r4).mono ?_
  rintro e w2 ⟨rfl, b2⟩
  rw [decide_eq_true (rfl : L = L)]
  go_wp2_with fail
  go_ret
  exact ⟨rfl, BW.trans (b2.mono BW.size)⟩
end Go.Proofs.Ytfandpgjlahnpaa
