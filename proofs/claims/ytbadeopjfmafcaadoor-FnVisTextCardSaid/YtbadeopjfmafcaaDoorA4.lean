/- Skies: slices of numbers in range, copied into slices of Gaussian integers and back. · 'impl.transform'. -/
import Derived.Test.YtbadeopjfmafcaaDoorA3
import Derived.Maps.AppendAt
namespace Go.Proofs.YtbadeopjfmafcaaDoor
open Go.RowKit

/-- All numbers of a list are at most so great. -/
def allR (m : Int) (xs : List Int) : Bool := xs.all fun x => inR x (-m) m
theorem allR_iff {m : Int} {xs : List Int} : allR m xs = true ↔ ∀ x ∈ xs, -m ≤ x ∧ x ≤ m := by
  unfold allR; rw [List.all_eq_true]; exact ⟨fun h x hx => inR_iff.1 (h x hx), fun h x hx => inR_iff.2 (h x hx)⟩
def skyV (s : List Int) : Bool := s.length == 16 && allR 100000 s
theorem skyV_iff {s : List Int} : skyV s = true ↔ s.length = 16 ∧ ∀ x ∈ s, -100000 ≤ x ∧ x ≤ 100000 := by
  unfold skyV; rw [Bool.and_eq_true, allR_iff]; simp

theorem allInRange_any (A : Option Addr) (n cap : Nat) (s : List Int) (m : Int) (w : World) (hn : s.length = n) (hm : n ≤ 1000000000) (h0 : 0 ≤ m) (h1 : m ≤ 4000000000) (hr : Rd w w.heap.size A (s.map (Value.int .i64))) :
    Calls Tryd.prog 63 #[.slice A n cap, .int .i64 m] w fun e w' => e = .returned (.bool (allR m s)) ∧ w = w' := by
  have Hn := Lib.hid hn; clear hn
  go_enter Tryd.func63, Tryd.ntmps63
  go_wp2_with fail
  go_loop [9] (fun i => ∃ k : Nat, k ≤ n ∧ i = .int .i64 k ∧ allR m (s.take k) = true) (fun i => n - (intOf i).toNat)
  case atStart => exact ⟨0, by omega, rfl, rfl⟩
  case round =>
    obtain ⟨k, hk, rfl, hall⟩ := hrel
    have Hall := Lib.hid hall; clear hall
    by_cases hlt : k < n
    · obtain ⟨b, off, rfl, hb, hc⟩ := hr k _ (ints_get (by rw [Hn.out]; exact hlt))
      have hmem : s.getD k 0 ∈ s := getD_mem (by rw [Hn.out]; exact hlt)
      have hts := take_succ_getD (l := s) (d := 0) (k := k) (by rw [Hn.out]; exact hlt)
      generalize s.getD k 0 = x at *
      have Hts := Lib.hid hts; clear hts
      go_wp2_with fail
      refine (inRange_any x m _ h0 h1).mono ?_
      rintro e w' ⟨rfl, rfl⟩
      cases hx : inR x (-m) m
      · have Hx := Lib.hid hx; clear hx
        go_wp2_with fail
        go_ret
        refine ⟨ret_bool ?_, rfl⟩
        symm
        unfold allR
        rw [List.all_eq_false]
        exact ⟨x, hmem, by rw [Hx.out]; simp⟩
      · have Hx := Lib.hid hx; clear hx
        go_wp2_with fail
        go_round
        case measure => simp [intOf]; omega
        case rel =>
          refine ⟨k + 1, by omega, by go_num, ?_⟩
          rw [Hts.out]
          unfold allR
          rw [List.all_append]
          have := Hall.out
          unfold allR at this
          rw [this]
          simpa using Hx.out
    · obtain rfl : k = n := by omega
      go_wp2_with fail
      go_ret
      refine ⟨ret_bool ?_, rfl⟩
      rw [← Hall.out, List.take_of_length_le (by rw [Hn.out]; exact Nat.le_refl _)]

theorem skyValid_any (A : Option Addr) (n cap : Nat) (s : List Int) (w : World) (hn : s.length = n) (hm : n ≤ 1000000000) (hr : Rd w w.heap.size A (s.map (Value.int .i64))) :
    Calls Tryd.prog 30 #[.slice A n cap] w fun e w' => e = .returned (.bool (skyV s)) ∧ w = w' := by
  by_cases h : n = 16
  · subst h
    go_enter Tryd.func30, Tryd.ntmps30
    go_wp2_with fail
    refine (allInRange_any A 16 cap s 100000 _ hn hm (by omega) (by omega) hr).mono ?_
    rintro e w' ⟨rfl, rfl⟩
    have Hn := Lib.hid hn; clear hn
    go_wp2_with fail
    go_ret
    refine ⟨ret_bool ?_, rfl⟩
    unfold skyV; rw [Hn.out]; rfl
  · have hb : ((n : Int) == 16) = false := by rw [beq_eq_false_iff_ne]; omega
    go_enter Tryd.func30, Tryd.ntmps30
    go_wp2_with fail
    go_ret
    refine ⟨ret_bool ?_, rfl⟩
    unfold skyV; rw [beq_eq_false_iff_ne.2 (by omega)]; rfl

/-- What 'skyChecked' hands on. -/
def okS (ok : Bool) (v : Value) : Value := if ok then v else .slice none 0 0
theorem skyChecked_any (A : Option Addr) (n cap : Nat) (s : List Int) (w : World) (hn : s.length = n) (hm : n ≤ 1000000000) (hr : Rd w w.heap.size A (s.map (Value.int .i64))) :
    Calls Tryd.prog 48 #[.slice A n cap] w fun e w' => e = .returned (.tuple #[okS (skyV s) (.slice A n cap), .bool (skyV s)]) ∧ w = w' := by
  go_enter Tryd.func48, Tryd.ntmps48
  go_wp2_with fail
  refine (skyValid_any A n cap s _ hn hm hr).mono ?_
  rintro e w' ⟨rfl, rfl⟩
  cases hv : skyV s
  · clear hn
    go_wp2_with fail
    refine bodyPost_ret (v := .tuple #[.slice none 0 0, .bool false]) (by simp [results, Tryd.results48, go_sem]) rfl ⟨by rw [hv]; rfl, rfl⟩
  · clear hn
    go_wp2_with fail
    refine bodyPost_ret (v := .tuple #[.slice A n cap, .bool true]) (by simp [results, Tryd.results48, go_sem]) rfl ⟨by rw [hv]; rfl, rfl⟩

/-- A number as a Gaussian integer. -/
def reG (s : List Int) : List (Int × Int) := s.map fun x => (x, 0)
end Go.Proofs.YtbadeopjfmafcaaDoor

namespace Go.Proofs.YtbadeopjfmafcaaDoor
open Go.RowKit

/-- The power of i at cell a for the wave t. -/
def ph (t a : Nat) : Int := ((t % 4 * (a % 4) + t / 4 * (a / 4) : Nat) : Int)
def trA (g : List (Int × Int)) (sg : Int) (t a : Nat) : Int × Int := turnAt (g.getD a (0, 0)) (sg * ph t a)
/-- The sum over the first n cells. -/
def trT (g : List (Int × Int)) (sg : Int) (t n : Nat) : Int × Int := (((List.range n).map fun a => (trA g sg t a).1).sum, ((List.range n).map fun a => (trA g sg t a).2).sum)
theorem trT_zero (g : List (Int × Int)) (sg : Int) (t : Nat) : trT g sg t 0 = (0, 0) := rfl
theorem trT_succ (g : List (Int × Int)) (sg : Int) (t n : Nat) : trT g sg t (n + 1) = ((trT g sg t n).1 + (trA g sg t n).1, (trT g sg t n).2 + (trA g sg t n).2) := by
  unfold trT
  rw [List.range_succ, List.map_append, List.map_append, List.sum_append, List.sum_append]
  simp
/-- The transform. -/
def trf (g : List (Int × Int)) (sg : Int) : List (Int × Int) := (List.range 16).map fun t => trT g sg t 16
theorem trf_len (g : List (Int × Int)) (sg : Int) : (trf g sg).length = 16 := by simp [trf]
theorem trf_get (g : List (Int × Int)) (sg : Int) (t : Nat) (h : t < 16) : (trf g sg).getD t (0, 0) = trT g sg t 16 := by
  unfold trf; rw [List.getD_eq_getElem?_getD, List.getElem?_map, List.getElem?_range h]; rfl
theorem turnAt_bd {g : Int × Int} {M : Int} (k : Int) (h1 : -M ≤ g.1 ∧ g.1 ≤ M) (h2 : -M ≤ g.2 ∧ g.2 ≤ M) : (-M ≤ (turnAt g k).1 ∧ (turnAt g k).1 ≤ M) ∧ -M ≤ (turnAt g k).2 ∧ (turnAt g k).2 ≤ M := by
  rcases unit_cases k with ⟨_, e⟩ | ⟨_, e⟩ | ⟨_, e⟩ | ⟨_, e⟩ <;> (unfold turnAt; rw [e]; simp; omega)
/-- All parts of all numbers are at most so great. -/
def gLe (M : Int) (g : List (Int × Int)) : Prop := ∀ x ∈ g, (-M ≤ x.1 ∧ x.1 ≤ M) ∧ -M ≤ x.2 ∧ x.2 ≤ M
theorem gLe_get {M : Int} {g : List (Int × Int)} (h : gLe M g) (hM : 0 ≤ M) (a : Nat) : (-M ≤ (g.getD a (0, 0)).1 ∧ (g.getD a (0, 0)).1 ≤ M) ∧ -M ≤ (g.getD a (0, 0)).2 ∧ (g.getD a (0, 0)).2 ≤ M := by
  by_cases ha : a < g.length
  · exact h _ (getD_mem ha)
  · rw [List.getD_eq_getElem?_getD, List.getElem?_eq_none (by omega)]; simp; omega
theorem trT_bd {M : Int} {g : List (Int × Int)} (h : gLe M g) (hM : 0 ≤ M) (sg : Int) (t n : Nat) : (-(n * M) ≤ (trT g sg t n).1 ∧ (trT g sg t n).1 ≤ n * M) ∧ -(n * M) ≤ (trT g sg t n).2 ∧ (trT g sg t n).2 ≤ n * M := by
  induction n with
  | zero => rw [trT_zero]; simp
  | succ n ih =>
    rw [trT_succ]
    have := turnAt_bd (sg * ph t n) (gLe_get h hM n).1 (gLe_get h hM n).2
    have e : ((n + 1 : Nat) : Int) * M = n * M + M := by rw [Int.natCast_succ, Int.add_mul, Int.one_mul]
    rw [e]
    unfold trA
    dsimp only
    omega
theorem trf_le {M : Int} {g : List (Int × Int)} (h : gLe M g) (hM : 0 ≤ M) (sg : Int) : gLe (16 * M) (trf g sg) := by
  intro x hx
  unfold trf at hx
  obtain ⟨t, _, rfl⟩ := List.mem_map.1 hx
  exact trT_bd h hM sg t 16
/-- The transform of which t numbers are done, and n terms of the next one. -/
def trRow (g : List (Int × Int)) (sg : Int) (t n : Nat) : List (Int × Int) := (List.range 16).map fun k => if k < t then trT g sg k 16 else if k = t then trT g sg k n else (0, 0)
theorem trRow_len (g : List (Int × Int)) (sg : Int) (t n : Nat) : (trRow g sg t n).length = 16 := by simp [trRow]
theorem trRow_get (g : List (Int × Int)) (sg : Int) (t n k : Nat) (h : k < 16) : (trRow g sg t n).getD k (0, 0) = if k < t then trT g sg k 16 else if k = t then trT g sg k n else (0, 0) := by
  unfold trRow; rw [List.getD_eq_getElem?_getD, List.getElem?_map, List.getElem?_range h]; rfl
theorem trRow_start (g : List (Int × Int)) (sg : Int) : trRow g sg 0 0 = List.replicate 16 (0, 0) := by
  refine List.ext_getElem (by simp [trRow]) fun i h1 h2 => ?_
  simp only [trRow, List.getElem_map, List.getElem_range, List.getElem_replicate]
  rw [if_neg (by omega)]
  split <;> rfl
theorem trRow_next (g : List (Int × Int)) (sg : Int) (t : Nat) : trRow g sg t 16 = trRow g sg (t + 1) 0 := by
  refine List.ext_getElem (by simp [trRow]) fun i h1 h2 => ?_
  simp only [trRow, List.getElem_map, List.getElem_range]
  by_cases h : i < t
  · rw [if_pos h, if_pos (by omega)]
  · by_cases h2 : i = t
    · rw [if_neg h, if_pos h2, if_pos (by omega)]
    · rw [if_neg h, if_neg h2, if_neg (by omega)]
      split <;> rfl
theorem trRow_all (g : List (Int × Int)) (sg : Int) : trRow g sg 16 0 = trf g sg := by
  refine List.ext_getElem (by simp [trRow, trf]) fun i h1 h2 => ?_
  simp only [trRow, trf, List.getElem_map, List.getElem_range]
  rw [if_pos (by simp [trf] at h2; omega)]
theorem trRow_set (g : List (Int × Int)) (sg : Int) (t n : Nat) : (trRow g sg t n).set t (trT g sg t (n + 1)) = trRow g sg t (n + 1) := by
  refine List.ext_getElem (by simp [trRow]) fun i h1 h2 => ?_
  rw [List.getElem_set]
  simp only [trRow, List.getElem_map, List.getElem_range]
  split
  · rename_i e; subst e; rw [if_neg (by omega), if_pos rfl]
  · rename_i e
    by_cases h : i < t
    · rw [if_pos h, if_pos h]
    · rw [if_neg h, if_neg h, if_neg (by omega), if_neg (by omega)]
theorem pairs_set (gs : List (Int × Int)) (k : Nat) (x : Int × Int) (h : k < gs.length) : ((gs.flatMap pairCells).set (k * 2) (.int .i64 x.1)).set (k * 2 + 1) (.int .i64 x.2) = (gs.set k x).flatMap pairCells := by
  induction gs generalizing k with
  | nil => simp at h
  | cons g gs ih =>
    cases k with
    | zero => simp [pairCells]
    | succ k =>
      have := ih k (by simpa using h)
      simp only [List.flatMap_cons, List.set_cons_succ]
      rw [← this]
      simp only [pairCells, List.cons_append, List.nil_append]
      rw [show (k + 1) * 2 = (k * 2 + 1) + 1 by omega, List.set_cons_succ, List.set_cons_succ, List.set_cons_succ]
      rfl

end Go.Proofs.YtbadeopjfmafcaaDoor
