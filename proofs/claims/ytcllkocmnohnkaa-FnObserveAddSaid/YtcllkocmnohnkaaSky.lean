/- Skies: slices of numbers in range, copied into slices of Gaussian integers and back. -/
import Derived.Test.YtcllkocmnohnkaaOwn
import Derived.Test.YtcllkocmnohnkaaGaussS
import Derived.Test.YtcllkocmnohnkaaInts
import Derived.Maps.AppendAt
namespace Go.Proofs.Ytcllkocmnohnkaa
open Go.RowKit

/-- All numbers of a list are at most so great. -/
def allR (m : Int) (xs : List Int) : Bool := xs.all fun x => inR x (-m) m
theorem allR_iff {m : Int} {xs : List Int} : allR m xs = true ↔ ∀ x ∈ xs, -m ≤ x ∧ x ≤ m := by
  unfold allR; rw [List.all_eq_true]; exact ⟨fun h x hx => inR_iff.1 (h x hx), fun h x hx => inR_iff.2 (h x hx)⟩
def skyV (s : List Int) : Bool := s.length == 16 && allR 100000 s
theorem skyV_iff {s : List Int} : skyV s = true ↔ s.length = 16 ∧ ∀ x ∈ s, -100000 ≤ x ∧ x ≤ 100000 := by
  unfold skyV; rw [Bool.and_eq_true, allR_iff]; simp

theorem allInRange_any (A : Option Addr) (n cap : Nat) (s : List Int) (m : Int) (w : World) (hn : s.length = n) (hm : n ≤ 1000000000) (h0 : 0 ≤ m) (h1 : m ≤ 4000000000) (hr : Rd w w.heap.size A (s.map (Value.int .i64))) :
    Calls Try.prog 168 #[.slice A n cap, .int .i64 m] w fun e w' => e = .returned (.bool (allR m s)) ∧ w = w' := by
  have Hn := Lib.hid hn; clear hn
  go_enter Try.func168, Try.ntmps168
  go_wp2_with fail
  go_loop [9] (fun i => ∃ k : Nat, k ≤ n ∧ i = .int .i64 k ∧ allR m (s.take k) = true) (fun i => n - (intOf i).toNat)
  case atStart => exact ⟨0, by omega, rfl, rfl⟩
  case round =>
    obtain ⟨k, hk, rfl, hall⟩ := hrel
    have Hall := Lib.hid hall; clear hall
    by_cases hlt : k < n
    · obtain ⟨b, off, rfl, hb, hc⟩ := hr k _ (ints_get (by rw [Hn.out]; exact hlt))
      have hmem : s.getD k 0 ∈ s := getD_mem (by rw [Hn.out]; exact hlt)
      have hts := take_succ_getD (l := s) (d := 0) (k := k) (by rw [Hn.out]; exact hlt)
      generalize s.getD k 0 = x at *
      have Hts := Lib.hid hts; clear hts
      go_wp2_with fail
      refine (inRange_any x m _ h0 h1).mono ?_
      rintro e w' ⟨rfl, rfl⟩
      cases hx : inR x (-m) m
      · have Hx := Lib.hid hx; clear hx
        go_wp2_with fail
        go_ret
        refine ⟨ret_bool ?_, rfl⟩
        symm
        unfold allR
        rw [List.all_eq_false]
        exact ⟨x, hmem, by rw [Hx.out]; simp⟩
      · have Hx := Lib.hid hx; clear hx
        go_wp2_with fail
        go_round
        case measure => simp [intOf]; omega
        case rel =>
          refine ⟨k + 1, by omega, by go_num, ?_⟩
          rw [Hts.out]
          unfold allR
          rw [List.all_append]
          have := Hall.out
          unfold allR at this
          rw [this]
          simpa using Hx.out
    · obtain rfl : k = n := by omega
      go_wp2_with fail
      go_ret
      refine ⟨ret_bool ?_, rfl⟩
      rw [← Hall.out, List.take_of_length_le (by rw [Hn.out]; exact Nat.le_refl _)]

theorem skyValid_any (A : Option Addr) (n cap : Nat) (s : List Int) (w : World) (hn : s.length = n) (hm : n ≤ 1000000000) (hr : Rd w w.heap.size A (s.map (Value.int .i64))) :
    Calls Try.prog 101 #[.slice A n cap] w fun e w' => e = .returned (.bool (skyV s)) ∧ w = w' := by
  by_cases h : n = 16
  · subst h
    go_enter Try.func101, Try.ntmps101
    go_wp2_with fail
    refine (allInRange_any A 16 cap s 100000 _ hn hm (by omega) (by omega) hr).mono ?_
    rintro e w' ⟨rfl, rfl⟩
    have Hn := Lib.hid hn; clear hn
    go_wp2_with fail
    go_ret
    refine ⟨ret_bool ?_, rfl⟩
    unfold skyV; rw [Hn.out]; rfl
  · have hb : ((n : Int) == 16) = false := by rw [beq_eq_false_iff_ne]; omega
    go_enter Try.func101, Try.ntmps101
    go_wp2_with fail
    go_ret
    refine ⟨ret_bool ?_, rfl⟩
    unfold skyV; rw [beq_eq_false_iff_ne.2 (by omega)]; rfl

/-- What 'skyChecked' hands on. -/
def okS (ok : Bool) (v : Value) : Value := if ok then v else .slice none 0 0
theorem skyChecked_any (A : Option Addr) (n cap : Nat) (s : List Int) (w : World) (hn : s.length = n) (hm : n ≤ 1000000000) (hr : Rd w w.heap.size A (s.map (Value.int .i64))) :
    Calls Try.prog 102 #[.slice A n cap] w fun e w' => e = .returned (.tuple #[okS (skyV s) (.slice A n cap), .bool (skyV s)]) ∧ w = w' := by
  go_enter Try.func102, Try.ntmps102
  go_wp2_with fail
  refine (skyValid_any A n cap s _ hn hm hr).mono ?_
  rintro e w' ⟨rfl, rfl⟩
  cases hv : skyV s
  · clear hn
    go_wp2_with fail
    refine bodyPost_ret (v := .tuple #[.slice none 0 0, .bool false]) (by simp [results, Try.results102, go_sem]) rfl ⟨by rw [hv]; rfl, rfl⟩
  · clear hn
    go_wp2_with fail
    refine bodyPost_ret (v := .tuple #[.slice A n cap, .bool true]) (by simp [results, Try.results102, go_sem]) rfl ⟨by rw [hv]; rfl, rfl⟩

/-- A number as a Gaussian integer. -/
def reG (s : List Int) : List (Int × Int) := s.map fun x => (x, 0)
set_option maxHeartbeats 1000000 in
theorem realGrid_any (A : Option Addr) (n cap : Nat) (s : List Int) (w : World) (hn : s.length = n) (hm : n ≤ 1000000) (hr : Rd w w.heap.size A (s.map (Value.int .i64))) :
    Calls Try.prog 127 #[.slice A n cap] w fun e w' => ∃ v, e = .returned v ∧ w'.ownsRow w.heap.size 49 2 v n ((reG s).flatMap pairCells) ∧ Below w.heap.size w w' := by
  obtain ⟨i1, hj, hy0, hy1, hy2⟩ := info_parts gaussInfo
  have Hn := Lib.hid hn; clear hn
  go_enter Try.func127, Try.ntmps127
  go_wp2_with fail
  go_loopw [3, 8] (fun v i wr => ∃ k : Nat, k ≤ n ∧ i = .int .i64 k ∧ wr.ownsRow w.heap.size 49 2 v k ((reG (s.take k)).flatMap pairCells) ∧ Below w.heap.size w wr) (fun _ i _ => n - (intOf i).toNat)
  case atStart => exact ⟨0, by omega, rfl, World.ownsRow_nil _ _ _ _, Below.refl _ _⟩
  case round =>
    obtain ⟨k, hk, rfl, hrow, hbel⟩ := hrel
    by_cases hlt : k < n
    · obtain ⟨b, off, rfl, hb, hc⟩ := (hr.below hbel) k _ (ints_get (by rw [Hn.out]; exact hlt))
      have hts := take_succ_getD (l := s) (d := 0) (k := k) (by rw [Hn.out]; exact hlt)
      generalize s.getD k 0 = x at *
      have hbs := hbel.size
      have Hts := Lib.hid hts; clear hts
      have Hrow := Lib.hid hrow; clear hrow
      have Hbel := Lib.hid hbel; clear hbel
      go_wp2_with (at_builtin; refine wpList_append_own _ rfl _ _ 38 rfl w.heap.size 49 i1 (.agg #[.int .i64 0, .int .i64 0]) 2 16 (by kernel_rfl) hj hy0 hy1 hy2 rfl (by decide) _ k _ rfl (Hrow.out.alloc _) ⟨wr.heap.size, 0, none⟩ 1 1 [.int .i64 (x), .int .i64 (0)] rfl rfl (cell_two_new _ _ _ _) (by simp [Value.oneCell']) (by unfold maxLen; omega) (by omega) (by simp; omega) ?_; intro v' w7 hown' hgrow _; obtain ⟨g', cap', rfl⟩ := ownsRow_succ hown')
      have hb7 := (Hbel.out.alloc hbs _).grown hgrow (by simp; omega) fun j hj => (own_lt Hrow.out hj).1
      have Hb7 := Lib.hid hb7; clear hb7
      have Hown' := Lib.hid hown'; clear hown'
      clear hgrow
      go_wp2_with fail
      go_roundw
      case measure => simp [intOf]; omega
      case rel =>
        refine ⟨k + 1, by omega, by go_num, ?_, Hb7.out⟩
        rw [Hts.out]
        unfold reG
        rw [List.map_append, List.flatMap_append]
        exact Hown'.out
    · obtain rfl : k = n := by omega
      rw [List.take_of_length_le (by rw [Hn.out]; exact Nat.le_refl _)] at hrow
      have Hrow := Lib.hid hrow; clear hrow
      go_wp2_with fail
      go_ret
      exact ⟨_, rfl, Hrow.out, hbel⟩

set_option maxHeartbeats 1000000 in
theorem realParts_any (A : Option Addr) (n cap : Nat) (gs : List (Int × Int)) (w : World) (hn : gs.length = n) (hm : n ≤ 1000000) (hr : Rd w w.heap.size A (gs.flatMap pairCells)) :
    Calls Try.prog 125 #[.slice A n cap] w fun e w' => ∃ v, e = .returned v ∧ w'.ownsRow w.heap.size 3 1 v n ((gs.map (·.1)).map (Value.int .i64)) ∧ Below w.heap.size w w' := by
  obtain ⟨i0, hi, hz0, hz1, hz2⟩ := info_parts intInfo
  have Hn := Lib.hid hn; clear hn
  go_enter Try.func125, Try.ntmps125
  go_wp2_with fail
  go_loopw [3, 8] (fun v i wr => ∃ k : Nat, k ≤ n ∧ i = .int .i64 k ∧ wr.ownsRow w.heap.size 3 1 v k (((gs.take k).map (·.1)).map (Value.int .i64)) ∧ Below w.heap.size w wr) (fun _ i _ => n - (intOf i).toNat)
  case atStart => exact ⟨0, by omega, rfl, World.ownsRow_nil _ _ _ _, Below.refl _ _⟩
  case round =>
    obtain ⟨k, hk, rfl, hrow, hbel⟩ := hrel
    by_cases hlt : k < n
    · obtain ⟨b, off, rfl, hb, hc, hc2⟩ := rd_pair (hr.below hbel) (getD_of (gs := gs) (k := k) (by rw [Hn.out]; exact hlt))
      have hts := take_succ_getD (l := gs) (d := (0, 0)) (k := k) (by rw [Hn.out]; exact hlt)
      generalize gs.getD k (0, 0) = x at *
      have hbs := hbel.size
      have Hts := Lib.hid hts; clear hts
      have Hrow := Lib.hid hrow; clear hrow
      have Hbel := Lib.hid hbel; clear hbel
      go_wp2_with (at_builtin; refine wpList_append_own _ rfl _ _ 25 rfl w.heap.size 3 i0 (.int .i64 0) 1 8 (by kernel_rfl) hi hz0 hz1 hz2 rfl (by decide) _ k _ rfl ((Hrow.out.alloc _).alloc _) ⟨wr.heap.size + 1, 0, none⟩ 1 1 [.int .i64 (x.1)] rfl rfl (cell_one_new1 _ _ _ _) (by simp [Value.oneCell']) (by unfold maxLen; omega) (by omega) (by simp; omega) ?_; intro v' w7 hown' hgrow _; obtain ⟨g', cap', rfl⟩ := ownsRow_succ hown')
      have hb7 := ((Hbel.out.alloc hbs _).alloc (by simp; omega) _).grown hgrow (by simp; omega) fun j hj => (own_lt Hrow.out hj).1
      have Hb7 := Lib.hid hb7; clear hb7
      have Hown' := Lib.hid hown'; clear hown'
      clear hgrow
      go_wp2_with fail
      go_roundw
      case measure => simp [intOf]; omega
      case rel =>
        refine ⟨k + 1, by omega, by go_num, ?_, Hb7.out⟩
        rw [Hts.out, List.map_append, List.map_append]
        exact Hown'.out
    · obtain rfl : k = n := by omega
      rw [List.take_of_length_le (by rw [Hn.out]; exact Nat.le_refl _)] at hrow
      have Hrow := Lib.hid hrow; clear hrow
      go_wp2_with fail
      go_ret
      exact ⟨_, rfl, Hrow.out, hbel⟩
end Go.Proofs.Ytcllkocmnohnkaa
