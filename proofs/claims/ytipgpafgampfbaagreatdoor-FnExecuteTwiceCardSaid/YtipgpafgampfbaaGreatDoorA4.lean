/- Skies: slices of numbers in range, copied into slices of Gaussian integers and back. · 'impl.transform'. -/
import Derived.Test.YtipgpafgampfbaaGreatDoorA3
import Derived.Maps.AppendAt
namespace Go.Proofs.YtipgpafgampfbaaGreatDoor
open Go.RowKit

/-- All numbers of a list are at most so great. -/
def allR (m : Int) (xs : List Int) : Bool := xs.all fun x => inR x (-m) m
theorem allR_iff {m : Int} {xs : List Int} : allR m xs = true ↔ ∀ x ∈ xs, -m ≤ x ∧ x ≤ m := by
  unfold allR; rw [List.all_eq_true]; exact ⟨fun h x hx => inR_iff.1 (h x hx), fun h x hx => inR_iff.2 (h x hx)⟩
def skyV (s : List Int) : Bool := s.length == 16 && allR 100000 s
theorem skyV_iff {s : List Int} : skyV s = true ↔ s.length = 16 ∧ ∀ x ∈ s, -100000 ≤ x ∧ x ≤ 100000 := by
  unfold skyV; rw [Bool.and_eq_true, allR_iff]; simp

theorem allInRange_any (A : Option Addr) (n cap : Nat) (s : List Int) (m : Int) (w : World) (hn : s.length = n) (hm : n ≤ 1000000000) (h0 : 0 ≤ m) (h1 : m ≤ 4000000000) (hr : Rd w w.heap.size A (s.map (Value.int .i64))) :
    Calls Tryz.prog 106 #[.slice A n cap, .int .i64 m] w fun e w' => e = .returned (.bool (allR m s)) ∧ w = w' := by
  have Hn := Lib.hid hn; clear hn
  go_enter Tryz.func106, Tryz.ntmps106
  go_wp2_with fail
  go_loop [9] (fun i => ∃ k : Nat, k ≤ n ∧ i = .int .i64 k ∧ allR m (s.take k) = true) (fun i => n - (intOf i).toNat)
  case atStart => exact ⟨0, by omega, rfl, rfl⟩
  case round =>
    obtain ⟨k, hk, rfl, hall⟩ := hrel
    have Hall := Lib.hid hall; clear hall
    by_cases hlt : k < n
    · obtain ⟨b, off, rfl, hb, hc⟩ := hr k _ (ints_get (by rw [Hn.out]; exact hlt))
      have hmem : s.getD k 0 ∈ s := getD_mem (by rw [Hn.out]; exact hlt)
      have hts := take_succ_getD (l := s) (d := 0) (k := k) (by rw [Hn.out]; exact hlt)
      generalize s.getD k 0 = x at *
      have Hts := Lib.hid hts; clear hts
      go_wp2_with fail
      refine (inRange_any x m _ h0 h1).mono ?_
      rintro e w' ⟨rfl, rfl⟩
      cases hx : inR x (-m) m
      · have Hx := Lib.hid hx; clear hx
        go_wp2_with fail
        go_ret
        refine ⟨ret_bool ?_, rfl⟩
        symm
        unfold allR
        rw [List.all_eq_false]
        exact ⟨x, hmem, by rw [Hx.out]; simp⟩
      · have Hx := Lib.hid hx; clear hx
        go_wp2_with fail
        go_round
        case measure => simp [intOf]; omega
        case rel =>
          refine ⟨k + 1, by omega, by go_num, ?_⟩
          rw [Hts.out]
          unfold allR
          rw [List.all_append]
          have := Hall.out
          unfold allR at this
          rw [this]
          simpa using Hx.out
    · obtain rfl : k = n := by omega
      go_wp2_with fail
      go_ret
      refine ⟨ret_bool ?_, rfl⟩
      rw [← Hall.out, List.take_of_length_le (by rw [Hn.out]; exact Nat.le_refl _)]

theorem skyValid_any (A : Option Addr) (n cap : Nat) (s : List Int) (w : World) (hn : s.length = n) (hm : n ≤ 1000000000) (hr : Rd w w.heap.size A (s.map (Value.int .i64))) :
    Calls Tryz.prog 64 #[.slice A n cap] w fun e w' => e = .returned (.bool (skyV s)) ∧ w = w' := by
  by_cases h : n = 16
  · subst h
    go_enter Tryz.func64, Tryz.ntmps64
    go_wp2_with fail
    refine (allInRange_any A 16 cap s 100000 _ hn hm (by omega) (by omega) hr).mono ?_
    rintro e w' ⟨rfl, rfl⟩
    have Hn := Lib.hid hn; clear hn
    go_wp2_with fail
    go_ret
    refine ⟨ret_bool ?_, rfl⟩
    unfold skyV; rw [Hn.out]; rfl
  · have hb : ((n : Int) == 16) = false := by rw [beq_eq_false_iff_ne]; omega
    go_enter Tryz.func64, Tryz.ntmps64
    go_wp2_with fail
    go_ret
    refine ⟨ret_bool ?_, rfl⟩
    unfold skyV; rw [beq_eq_false_iff_ne.2 (by omega)]; rfl

/-- What 'skyChecked' hands on. -/
def okS (ok : Bool) (v : Value) : Value := if ok then v else .slice none 0 0
theorem skyChecked_any (A : Option Addr) (n cap : Nat) (s : List Int) (w : World) (hn : s.length = n) (hm : n ≤ 1000000000) (hr : Rd w w.heap.size A (s.map (Value.int .i64))) :
    Calls Tryz.prog 71 #[.slice A n cap] w fun e w' => e = .returned (.tuple #[okS (skyV s) (.slice A n cap), .bool (skyV s)]) ∧ w = w' := by
  go_enter Tryz.func71, Tryz.ntmps71
  go_wp2_with fail
  refine (skyValid_any A n cap s _ hn hm hr).mono ?_
  rintro e w' ⟨rfl, rfl⟩
  cases hv : skyV s
  · clear hn
    go_wp2_with fail
    refine bodyPost_ret (v := .tuple #[.slice none 0 0, .bool false]) (by simp [results, Tryz.results71, go_sem]) rfl ⟨by rw [hv]; rfl, rfl⟩
  · clear hn
    go_wp2_with fail
    refine bodyPost_ret (v := .tuple #[.slice A n cap, .bool true]) (by simp [results, Tryz.results71, go_sem]) rfl ⟨by rw [hv]; rfl, rfl⟩

/-- A number as a Gaussian integer. -/
def reG (s : List Int) : List (Int × Int) := s.map fun x => (x, 0)
set_option maxHeartbeats 1000000 in
theorem realGrid_any (A : Option Addr) (n cap : Nat) (s : List Int) (w : World) (hn : s.length = n) (hm : n ≤ 1000000) (hr : Rd w w.heap.size A (s.map (Value.int .i64))) :
    Calls Tryz.prog 75 #[.slice A n cap] w fun e w' => ∃ v, e = .returned v ∧ w'.ownsRow w.heap.size 132 2 v n ((reG s).flatMap pairCells) ∧ Below w.heap.size w w' := by
  obtain ⟨i1, hj, hy0, hy1, hy2⟩ := info_parts gaussInfo
  have Hn := Lib.hid hn; clear hn
  go_enter Tryz.func75, Tryz.ntmps75
  go_wp2_with fail
  go_loopw [3, 8] (fun v i wr => ∃ k : Nat, k ≤ n ∧ i = .int .i64 k ∧ wr.ownsRow w.heap.size 132 2 v k ((reG (s.take k)).flatMap pairCells) ∧ Below w.heap.size w wr) (fun _ i _ => n - (intOf i).toNat)
  case atStart => exact ⟨0, by omega, rfl, World.ownsRow_nil _ _ _ _, Below.refl _ _⟩
  case round =>
    obtain ⟨k, hk, rfl, hrow, hbel⟩ := hrel
    by_cases hlt : k < n
    · obtain ⟨b, off, rfl, hb, hc⟩ := (hr.below hbel) k _ (ints_get (by rw [Hn.out]; exact hlt))
      have hts := take_succ_getD (l := s) (d := 0) (k := k) (by rw [Hn.out]; exact hlt)
      generalize s.getD k 0 = x at *
      have hbs := hbel.size
      have Hts := Lib.hid hts; clear hts
      have Hrow := Lib.hid hrow; clear hrow
      have Hbel := Lib.hid hbel; clear hbel
      go_wp2_with (at_builtin; refine wpList_append_own _ rfl _ _ 97 rfl w.heap.size 132 i1 (.agg #[.int .i64 0, .int .i64 0]) 2 16 (by kernel_rfl) hj hy0 hy1 hy2 rfl (by decide) _ k _ rfl (Hrow.out.alloc _) ⟨wr.heap.size, 0, none⟩ 1 1 [.int .i64 (x), .int .i64 (0)] rfl rfl (cell_two_new _ _ _ _) (by simp [Value.oneCell']) (by unfold maxLen; omega) (by omega) (by simp; omega) ?_; intro v' w7 hown' hgrow _; obtain ⟨g', cap', rfl⟩ := ownsRow_succ hown')
      have hb7 := (Hbel.out.alloc hbs _).grown hgrow (by simp; omega) fun j hj => (own_lt Hrow.out hj).1
      have Hb7 := Lib.hid hb7; clear hb7
      have Hown' := Lib.hid hown'; clear hown'
      clear hgrow
      go_wp2_with fail
      go_roundw
      case measure => simp [intOf]; omega
      case rel =>
        refine ⟨k + 1, by omega, by go_num, ?_, Hb7.out⟩
        rw [Hts.out]
        unfold reG
        rw [List.map_append, List.flatMap_append]
        exact Hown'.out
    · obtain rfl : k = n := by omega
      rw [List.take_of_length_le (by rw [Hn.out]; exact Nat.le_refl _)] at hrow
      have Hrow := Lib.hid hrow; clear hrow
      go_wp2_with fail
      go_ret
      exact ⟨_, rfl, Hrow.out, hbel⟩

set_option maxHeartbeats 1000000 in
theorem realParts_any (A : Option Addr) (n cap : Nat) (gs : List (Int × Int)) (w : World) (hn : gs.length = n) (hm : n ≤ 1000000) (hr : Rd w w.heap.size A (gs.flatMap pairCells)) :
    Calls Tryz.prog 72 #[.slice A n cap] w fun e w' => ∃ v, e = .returned v ∧ w'.ownsRow w.heap.size 3 1 v n ((gs.map (·.1)).map (Value.int .i64)) ∧ Below w.heap.size w w' := by
  obtain ⟨i0, hi, hz0, hz1, hz2⟩ := info_parts intInfo
  have Hn := Lib.hid hn; clear hn
  go_enter Tryz.func72, Tryz.ntmps72
  go_wp2_with fail
  go_loopw [3, 8] (fun v i wr => ∃ k : Nat, k ≤ n ∧ i = .int .i64 k ∧ wr.ownsRow w.heap.size 3 1 v k (((gs.take k).map (·.1)).map (Value.int .i64)) ∧ Below w.heap.size w wr) (fun _ i _ => n - (intOf i).toNat)
  case atStart => exact ⟨0, by omega, rfl, World.ownsRow_nil _ _ _ _, Below.refl _ _⟩
  case round =>
    obtain ⟨k, hk, rfl, hrow, hbel⟩ := hrel
    by_cases hlt : k < n
    · obtain ⟨b, off, rfl, hb, hc, hc2⟩ := rd_pair (hr.below hbel) (getD_of (gs := gs) (k := k) (by rw [Hn.out]; exact hlt))
      have hts := take_succ_getD (l := gs) (d := (0, 0)) (k := k) (by rw [Hn.out]; exact hlt)
      generalize gs.getD k (0, 0) = x at *
      have hbs := hbel.size
      have Hts := Lib.hid hts; clear hts
      have Hrow := Lib.hid hrow; clear hrow
      have Hbel := Lib.hid hbel; clear hbel
      go_wp2_with (at_builtin; refine wpList_append_own _ rfl _ _ 32 rfl w.heap.size 3 i0 (.int .i64 0) 1 8 (by kernel_rfl) hi hz0 hz1 hz2 rfl (by decide) _ k _ rfl ((Hrow.out.alloc _).alloc _) ⟨wr.heap.size + 1, 0, none⟩ 1 1 [.int .i64 (x.1)] rfl rfl (cell_one_new1 _ _ _ _) (by simp [Value.oneCell']) (by unfold maxLen; omega) (by omega) (by simp; omega) ?_; intro v' w7 hown' hgrow _; obtain ⟨g', cap', rfl⟩ := ownsRow_succ hown')
      have hb7 := ((Hbel.out.alloc hbs _).alloc (by simp; omega) _).grown hgrow (by simp; omega) fun j hj => (own_lt Hrow.out hj).1
      have Hb7 := Lib.hid hb7; clear hb7
      have Hown' := Lib.hid hown'; clear hown'
      clear hgrow
      go_wp2_with fail
      go_roundw
      case measure => simp [intOf]; omega
      case rel =>
        refine ⟨k + 1, by omega, by go_num, ?_, Hb7.out⟩
        rw [Hts.out, List.map_append, List.map_append]
        exact Hown'.out
    · obtain rfl : k = n := by omega
      rw [List.take_of_length_le (by rw [Hn.out]; exact Nat.le_refl _)] at hrow
      have Hrow := Lib.hid hrow; clear hrow
      go_wp2_with fail
      go_ret
      exact ⟨_, rfl, Hrow.out, hbel⟩
end Go.Proofs.YtipgpafgampfbaaGreatDoor

namespace Go.Proofs.YtipgpafgampfbaaGreatDoor
open Go.RowKit

/-- The power of i at cell a for the wave t. -/
def ph (t a : Nat) : Int := ((t % 4 * (a % 4) + t / 4 * (a / 4) : Nat) : Int)
def trA (g : List (Int × Int)) (sg : Int) (t a : Nat) : Int × Int := turnAt (g.getD a (0, 0)) (sg * ph t a)
/-- The sum over the first n cells. -/
def trT (g : List (Int × Int)) (sg : Int) (t n : Nat) : Int × Int := (((List.range n).map fun a => (trA g sg t a).1).sum, ((List.range n).map fun a => (trA g sg t a).2).sum)
theorem trT_zero (g : List (Int × Int)) (sg : Int) (t : Nat) : trT g sg t 0 = (0, 0) := rfl
theorem trT_succ (g : List (Int × Int)) (sg : Int) (t n : Nat) : trT g sg t (n + 1) = ((trT g sg t n).1 + (trA g sg t n).1, (trT g sg t n).2 + (trA g sg t n).2) := by
  unfold trT
  rw [List.range_succ, List.map_append, List.map_append, List.sum_append, List.sum_append]
  simp
/-- The transform. -/
def trf (g : List (Int × Int)) (sg : Int) : List (Int × Int) := (List.range 16).map fun t => trT g sg t 16
theorem trf_len (g : List (Int × Int)) (sg : Int) : (trf g sg).length = 16 := by simp [trf]
theorem trf_get (g : List (Int × Int)) (sg : Int) (t : Nat) (h : t < 16) : (trf g sg).getD t (0, 0) = trT g sg t 16 := by
  unfold trf; rw [List.getD_eq_getElem?_getD, List.getElem?_map, List.getElem?_range h]; rfl
theorem turnAt_bd {g : Int × Int} {M : Int} (k : Int) (h1 : -M ≤ g.1 ∧ g.1 ≤ M) (h2 : -M ≤ g.2 ∧ g.2 ≤ M) : (-M ≤ (turnAt g k).1 ∧ (turnAt g k).1 ≤ M) ∧ -M ≤ (turnAt g k).2 ∧ (turnAt g k).2 ≤ M := by
  rcases unit_cases k with ⟨_, e⟩ | ⟨_, e⟩ | ⟨_, e⟩ | ⟨_, e⟩ <;> (unfold turnAt; rw [e]; simp; omega)
/-- All parts of all numbers are at most so great. -/
def gLe (M : Int) (g : List (Int × Int)) : Prop := ∀ x ∈ g, (-M ≤ x.1 ∧ x.1 ≤ M) ∧ -M ≤ x.2 ∧ x.2 ≤ M
theorem gLe_get {M : Int} {g : List (Int × Int)} (h : gLe M g) (hM : 0 ≤ M) (a : Nat) : (-M ≤ (g.getD a (0, 0)).1 ∧ (g.getD a (0, 0)).1 ≤ M) ∧ -M ≤ (g.getD a (0, 0)).2 ∧ (g.getD a (0, 0)).2 ≤ M := by
  by_cases ha : a < g.length
  · exact h _ (getD_mem ha)
  · rw [List.getD_eq_getElem?_getD, List.getElem?_eq_none (by omega)]; simp; omega
theorem trT_bd {M : Int} {g : List (Int × Int)} (h : gLe M g) (hM : 0 ≤ M) (sg : Int) (t n : Nat) : (-(n * M) ≤ (trT g sg t n).1 ∧ (trT g sg t n).1 ≤ n * M) ∧ -(n * M) ≤ (trT g sg t n).2 ∧ (trT g sg t n).2 ≤ n * M := by
  induction n with
  | zero => rw [trT_zero]; simp
  | succ n ih =>
    rw [trT_succ]
    have := turnAt_bd (sg * ph t n) (gLe_get h hM n).1 (gLe_get h hM n).2
    have e : ((n + 1 : Nat) : Int) * M = n * M + M := by rw [Int.natCast_succ, Int.add_mul, Int.one_mul]
    rw [e]
    unfold trA
    dsimp only
    omega
theorem trf_le {M : Int} {g : List (Int × Int)} (h : gLe M g) (hM : 0 ≤ M) (sg : Int) : gLe (16 * M) (trf g sg) := by
  intro x hx
  unfold trf at hx
  obtain ⟨t, _, rfl⟩ := List.mem_map.1 hx
  exact trT_bd h hM sg t 16
/-- The transform of which t numbers are done, and n terms of the next one. -/
def trRow (g : List (Int × Int)) (sg : Int) (t n : Nat) : List (Int × Int) := (List.range 16).map fun k => if k < t then trT g sg k 16 else if k = t then trT g sg k n else (0, 0)
theorem trRow_len (g : List (Int × Int)) (sg : Int) (t n : Nat) : (trRow g sg t n).length = 16 := by simp [trRow]
theorem trRow_get (g : List (Int × Int)) (sg : Int) (t n k : Nat) (h : k < 16) : (trRow g sg t n).getD k (0, 0) = if k < t then trT g sg k 16 else if k = t then trT g sg k n else (0, 0) := by
  unfold trRow; rw [List.getD_eq_getElem?_getD, List.getElem?_map, List.getElem?_range h]; rfl
theorem trRow_start (g : List (Int × Int)) (sg : Int) : trRow g sg 0 0 = List.replicate 16 (0, 0) := by
  refine List.ext_getElem (by simp [trRow]) fun i h1 h2 => ?_
  simp only [trRow, List.getElem_map, List.getElem_range, List.getElem_replicate]
  rw [if_neg (by omega)]
  split <;> rfl
theorem trRow_next (g : List (Int × Int)) (sg : Int) (t : Nat) : trRow g sg t 16 = trRow g sg (t + 1) 0 := by
  refine List.ext_getElem (by simp [trRow]) fun i h1 h2 => ?_
  simp only [trRow, List.getElem_map, List.getElem_range]
  by_cases h : i < t
  · rw [if_pos h, if_pos (by omega)]
  · by_cases h2 : i = t
    · rw [if_neg h, if_pos h2, if_pos (by omega)]
    · rw [if_neg h, if_neg h2, if_neg (by omega)]
      split <;> rfl
theorem trRow_all (g : List (Int × Int)) (sg : Int) : trRow g sg 16 0 = trf g sg := by
  refine List.ext_getElem (by simp [trRow, trf]) fun i h1 h2 => ?_
  simp only [trRow, trf, List.getElem_map, List.getElem_range]
  rw [if_pos (by simp [trf] at h2; omega)]
theorem trRow_set (g : List (Int × Int)) (sg : Int) (t n : Nat) : (trRow g sg t n).set t (trT g sg t (n + 1)) = trRow g sg t (n + 1) := by
  refine List.ext_getElem (by simp [trRow]) fun i h1 h2 => ?_
  rw [List.getElem_set]
  simp only [trRow, List.getElem_map, List.getElem_range]
  split
  · rename_i e; subst e; rw [if_neg (by omega), if_pos rfl]
  · rename_i e
    by_cases h : i < t
    · rw [if_pos h, if_pos h]
    · rw [if_neg h, if_neg h, if_neg (by omega), if_neg (by omega)]
theorem pairs_set (gs : List (Int × Int)) (k : Nat) (x : Int × Int) (h : k < gs.length) : ((gs.flatMap pairCells).set (k * 2) (.int .i64 x.1)).set (k * 2 + 1) (.int .i64 x.2) = (gs.set k x).flatMap pairCells := by
  induction gs generalizing k with
  | nil => simp at h
  | cons g gs ih =>
    cases k with
    | zero => simp [pairCells]
    | succ k =>
      have := ih k (by simpa using h)
      simp only [List.flatMap_cons, List.set_cons_succ]
      rw [← this]
      simp only [pairCells, List.cons_append, List.nil_append]
      rw [show (k + 1) * 2 = (k * 2 + 1) + 1 by omega, List.set_cons_succ, List.set_cons_succ, List.set_cons_succ]
      rfl

set_option maxRecDepth 100000 in
set_option maxHeartbeats 2000000 in
theorem transform_any (A : Option Addr) (cap : Nat) (gs : List (Int × Int)) (sg : Int) (w : World) (hn : gs.length = 16) (hsg : sg = 1 ∨ sg = -1) (hb : gLe 1000000000 gs) (hr : Rd w w.heap.size A (gs.flatMap pairCells)) :
    Calls Tryz.prog 73 #[.slice A 16 cap, .int .i64 sg] w fun e w' => e = .returned (.slice (some ⟨w.heap.size, 0, none⟩) 16 16) ∧ Row w' w.heap.size 132 ((trf gs sg).flatMap pairCells) ∧ Below w.heap.size w w' := by
  obtain ⟨Z, hZ⟩ : ∃ Z, List.replicate (16 * 2) (Value.int .i64 0) = Z := ⟨_, rfl⟩
  have hmk : ∀ W : World, (Instr.makeSlice 97 (.int .i64 16) (.int .i64 16)).run Tryz.prog W = .ok (.slice (some ⟨W.heap.size, 0, none⟩) 16 16) (W.alloc (.cells Z.toArray 132)) := fun W => by
    rw [← hZ]; exact run_make2 (P := Tryz.prog) 97 132 (.int .i64 0) (.agg #[.int .i64 0, .int .i64 0]) 16 Tryz.underlying97 (by kernel_rfl) rfl 16 (by omega) (by omega) W
  have r0 := Row.new w 132 Z
  have hz2 : Z = (trRow gs sg 0 0).flatMap pairCells := by rw [← hZ, trRow_start]; rfl
  have Hz2 := Lib.hid hz2
  have Hb := Lib.hid hb
  clear hZ hz2 hb
  have Hn := Lib.hid hn; clear hn
  go_enter Tryz.func73, Tryz.ntmps73
  go_wp2_with fail
  clear hmk
  go_loopw [12] (fun i wr => ∃ t : Nat, t ≤ 16 ∧ i = .int .i64 t ∧ Row wr w.heap.size 132 ((trRow gs sg t 0).flatMap pairCells) ∧ Below w.heap.size w wr) (fun i _ => 16 - (intOf i).toNat)
  case atStart => exact ⟨0, by omega, rfl, by rw [← Hz2.out]; exact r0, (Below.refl _ _).alloc (Nat.le_refl _) _⟩
  case round =>
    clear r0
    obtain ⟨t, ht, rfl, hrow, hbel⟩ := hrel
    by_cases hlt : t < 16
    · go_wp2_with fail
      go_loopw [17] (fun i wr => ∃ a : Nat, a ≤ 16 ∧ i = .int .i64 a ∧ Row wr w.heap.size 132 ((trRow gs sg t a).flatMap pairCells) ∧ Below w.heap.size w wr) (fun i _ => 16 - (intOf i).toNat)
      case atStart => exact ⟨0, by omega, rfl, hrow, hbel⟩
      case round =>
        clear hrow hbel
        obtain ⟨a, ha, rfl, hrow, hbel⟩ := hrel
        by_cases hlt2 : a < 16
        · obtain ⟨b, off, rfl, hbb, hc1, hc2⟩ := rd_pair (hr.below hbel) (getD_of (gs := gs) (k := a) (by rw [Hn.out]; exact hlt2))
          have hgz := gLe_get Hb.out (by omega) a
          have hS := trT_bd Hb.out (by omega) sg t a
          have hS1 := trT_succ gs sg t a
          unfold trA at hS1
          have hget := trRow_get gs sg t a t hlt
          rw [if_neg (by omega), if_pos rfl] at hget
          have hset := trRow_set gs sg t a
          have hlen := trRow_len gs sg t a
          generalize hgg : gs.getD a (0, 0) = gz at *
          generalize hSS : trT gs sg t a = S at *
          generalize hSS1 : trT gs sg t (a + 1) = S1 at *
          generalize hRR : trRow gs sg t a = R at *
          generalize hRR1 : trRow gs sg t (a + 1) = R1 at *
          have hbs := hbel.size
          obtain ⟨t1, e1⟩ : ∃ t1 : Nat, t % 4 = t1 := ⟨_, rfl⟩
          obtain ⟨a1, e2⟩ : ∃ a1 : Nat, a % 4 = a1 := ⟨_, rfl⟩
          obtain ⟨t2, e3⟩ : ∃ t2 : Nat, t / 4 = t2 := ⟨_, rfl⟩
          obtain ⟨a2, e4⟩ : ∃ a2 : Nat, a / 4 = a2 := ⟨_, rfl⟩
          have hph : ph t a = ((t1 * a1 + t2 * a2 : Nat) : Int) := by unfold ph; rw [e1, e2, e3, e4]
          have m1 : t1 * a1 ≤ 3 * 3 := Nat.mul_le_mul (by omega) (by omega)
          have m2 : t2 * a2 ≤ 3 * 3 := Nat.mul_le_mul (by omega) (by omega)
          have i1 : ((t : Int)).tmod 4 = (t1 : Int) := by rw [Int.tmod_eq_emod_of_nonneg (by omega)]; omega
          have i2 : ((a : Int)).tmod 4 = (a1 : Int) := by rw [Int.tmod_eq_emod_of_nonneg (by omega)]; omega
          have i3 : ((t : Int)).tdiv 4 = (t2 : Int) := by rw [Int.tdiv_eq_ediv_of_nonneg (by omega)]; omega
          have i4 : ((a : Int)).tdiv 4 = (a2 : Int) := by rw [Int.tdiv_eq_ediv_of_nonneg (by omega)]; omega
          have j3 : IntKind.i64.wrap (t2 : Int) = t2 := IntWalk.i64_in _ (by omega)
          have j4 : IntKind.i64.wrap (a2 : Int) = a2 := IntWalk.i64_in _ (by omega)
          have i5 : IntKind.i64.wrap ((t1 : Int) * a1) = ((t1 * a1 : Nat) : Int) := by rw [← Int.natCast_mul]; exact IntWalk.i64_in _ (by omega)
          have i6 : IntKind.i64.wrap ((t2 : Int) * a2) = ((t2 * a2 : Nat) : Int) := by rw [← Int.natCast_mul]; exact IntWalk.i64_in _ (by omega)
          have i7 : IntKind.i64.wrap (((t1 * a1 : Nat) : Int) + ((t2 * a2 : Nat) : Int)) = ph t a := by rw [hph, ← Int.natCast_add]; exact IntWalk.i64_in _ (by omega)
          have i8 : IntKind.i64.wrap (sg * ph t a) = sg * ph t a := IntWalk.i64_in _ (by rw [hph]; rcases hsg with rfl | rfl <;> omega)
          have hT := turnAt_bd (sg * ph t a) hgz.1 hgz.2
          obtain ⟨q, hq⟩ : ∃ q, sg * ph t a = q := ⟨_, rfl⟩
          rw [hq] at hS1 hT i8
          generalize hTT : turnAt gz q = T at *
          have c0 := hrow.cell (t * 2)
          have c1 := hrow.cell (t * 2 + 1)
          have z0 := hrow.frozen (t * 2)
          have z1 := hrow.frozen (t * 2 + 1)
          have hRt : R[t]? = some S := by rw [getD_of (by rw [hlen]; exact hlt), hget]
          rw [(pairCells_get R t S hRt).1] at c0
          rw [(pairCells_get R t S hRt).2] at c1
          have hbl := hrow.lt
          have Hget := Lib.hid hget; clear hget
          have Hset := Lib.hid hset; clear hset
          have Hlen := Lib.hid hlen; clear hlen
          have Hgg := Lib.hid hgg; clear hgg
          have HSS := Lib.hid hSS; clear hSS
          have HSS1 := Lib.hid hSS1; clear hSS1
          have HRR := Lib.hid hRR; clear hRR
          have HRR1 := Lib.hid hRR1; clear hRR1
          have Hph := Lib.hid hph; clear hph
          have E1 := Lib.hid e1; clear e1
          have E2 := Lib.hid e2; clear e2
          have E3 := Lib.hid e3; clear e3
          have E4 := Lib.hid e4; clear e4
          have I1 := Lib.hid i1; clear i1
          have I2 := Lib.hid i2; clear i2
          have I3 := Lib.hid i3; clear i3
          have I4 := Lib.hid i4; clear i4
          have I5 := Lib.hid i5; clear i5
          have I6 := Lib.hid i6; clear i6
          have I7 := Lib.hid i7; clear i7
          have I8 := Lib.hid i8; clear i8
          have J3 := Lib.hid j3; clear j3
          have J4 := Lib.hid j4; clear j4
          have HS1 := Lib.hid hS1; clear hS1
          have HTT := Lib.hid hTT; clear hTT
          have HRt := Lib.hid hRt; clear hRt
          have Hq := Lib.hid hq; clear hq
          go_wp2_with fail
          have rb := Row.new wr 132 [.int .i64 gz.1, .int .i64 gz.2]
          have rr := hrow.alloc (.cells #[.int .i64 gz.1, .int .i64 gz.2] 132)
          have hbW := hbel.alloc hbs (.cells #[.int .i64 gz.1, .int .i64 gz.2] 132)
          obtain ⟨W, hW⟩ : ∃ W, wr.alloc (.cells #[.int .i64 gz.1, .int .i64 gz.2] 132) = W := ⟨_, rfl⟩
          simp only [hW] at rb rr hbW
          rw [hW]
          have HW := Lib.hid hW
          clear hW
          have Lo : ∀ w', Below W.heap.size W w' → (Instr.loadAt 132 (.pointer (some ⟨w.heap.size, 0 + t * 2, none⟩))).run Tryz.prog w' = .ok (.agg #[.int .i64 S.1, .int .i64 S.2]) w' := fun w' h => by
            have d0 := (rr.kept h).cell (t * 2)
            have d1 := (rr.kept h).cell (t * 2 + 1)
            rw [(pairCells_get R t S HRt.out).1] at d0
            rw [(pairCells_get R t S HRt.out).2] at d1
            rw [Nat.zero_add]
            exact ld_two (by kernel_rfl) (by kernel_rfl) d0 d1
          have Lb : ∀ w', Below W.heap.size W w' → (Instr.loadAt 132 (.pointer (some ⟨wr.heap.size, 0, none⟩))).run Tryz.prog w' = .ok (.agg #[.int .i64 gz.1, .int .i64 gz.2]) w' := fun w' h => ld_two (by kernel_rfl) (by kernel_rfl) ((rb.kept h).cell 0) ((rb.kept h).cell 1)
          refine wp_region_N [24] [24] (by kernel_rfl) (by kernel_rfl) ?_
          refine wpStill_go (v := .slice (some ⟨w.heap.size, 0, none⟩) 16 16) rfl rfl (stays_run fun w' h => ex_move rfl rfl) ?_
          simp only [Act.put, List.setIfInBounds_toArray, List.set_cons_succ, List.set_cons_zero]
          refine wpStill_go (v := .int .i64 t) rfl rfl (stays_run fun w' h => ex_move rfl rfl) ?_
          simp only [Act.put, List.setIfInBounds_toArray, List.set_cons_succ, List.set_cons_zero]
          refine wpStill_go (v := .slice (some ⟨w.heap.size, 0, none⟩) 16 16) rfl rfl (stays_run fun w' h => ex_move rfl rfl) ?_
          simp only [Act.put, List.setIfInBounds_toArray, List.set_cons_succ, List.set_cons_zero]
          refine wpStill_go (v := .int .i64 t) rfl rfl (stays_run fun w' h => ex_move rfl rfl) ?_
          simp only [Act.put, List.setIfInBounds_toArray, List.set_cons_succ, List.set_cons_zero]
          refine wpStill_go (v := .pointer (some ⟨w.heap.size, 0 + t * 2, none⟩)) rfl rfl (stays_run fun w' h => ex_index rfl (by kernel_rfl) (by kernel_rfl) rfl rfl (hlt)) ?_
          simp only [Act.put, List.setIfInBounds_toArray, List.set_cons_succ, List.set_cons_zero]
          refine wpStill_go (v := .agg #[.int .i64 S.1, .int .i64 S.2]) rfl rfl (stays_run fun w' h => ex_load rfl rfl (Lo w' h)) ?_
          simp only [Act.put, List.setIfInBounds_toArray, List.set_cons_succ, List.set_cons_zero]
          refine wpStill_go (v := .agg #[.int .i64 gz.1, .int .i64 gz.2]) rfl rfl (stays_run fun w' h => ex_load rfl rfl (Lb w' h)) ?_
          simp only [Act.put, List.setIfInBounds_toArray, List.set_cons_succ, List.set_cons_zero]
          refine wpStill_go (v := .int .i64 sg) rfl rfl (stays_run fun w' h => ex_move rfl rfl) ?_
          simp only [Act.put, List.setIfInBounds_toArray, List.set_cons_succ, List.set_cons_zero]
          refine wpStill_go (v := .int .i64 t) rfl rfl (stays_run fun w' h => ex_move rfl rfl) ?_
          simp only [Act.put, List.setIfInBounds_toArray, List.set_cons_succ, List.set_cons_zero]
          refine wpStill_go (v := .int .i64 t1) rfl rfl (stays_run fun w' h => by simp [go_sem, I1.out]) ?_
          simp only [Act.put, List.setIfInBounds_toArray, List.set_cons_succ, List.set_cons_zero]
          refine wpStill_go (v := .int .i64 a) rfl rfl (stays_run fun w' h => ex_move rfl rfl) ?_
          simp only [Act.put, List.setIfInBounds_toArray, List.set_cons_succ, List.set_cons_zero]
          refine wpStill_go (v := .int .i64 a1) rfl rfl (stays_run fun w' h => by simp [go_sem, I2.out]) ?_
          simp only [Act.put, List.setIfInBounds_toArray, List.set_cons_succ, List.set_cons_zero]
          refine wpStill_go (v := .int .i64 ((t1 * a1 : Nat) : Int)) rfl rfl (stays_run fun w' h => by simp only [← I5.out]; simp [go_sem]) ?_
          simp only [Act.put, List.setIfInBounds_toArray, List.set_cons_succ, List.set_cons_zero]
          refine wpStill_go (v := .int .i64 t) rfl rfl (stays_run fun w' h => ex_move rfl rfl) ?_
          simp only [Act.put, List.setIfInBounds_toArray, List.set_cons_succ, List.set_cons_zero]
          refine wpStill_go (v := .int .i64 t2) rfl rfl (stays_run fun w' h => by simp [go_sem, I3.out, J3.out]) ?_
          simp only [Act.put, List.setIfInBounds_toArray, List.set_cons_succ, List.set_cons_zero]
          refine wpStill_go (v := .int .i64 a) rfl rfl (stays_run fun w' h => ex_move rfl rfl) ?_
          simp only [Act.put, List.setIfInBounds_toArray, List.set_cons_succ, List.set_cons_zero]
          refine wpStill_go (v := .int .i64 a2) rfl rfl (stays_run fun w' h => by simp [go_sem, I4.out, J4.out]) ?_
          simp only [Act.put, List.setIfInBounds_toArray, List.set_cons_succ, List.set_cons_zero]
          refine wpStill_go (v := .int .i64 ((t2 * a2 : Nat) : Int)) rfl rfl (stays_run fun w' h => by simp only [← I6.out]; simp [go_sem]) ?_
          simp only [Act.put, List.setIfInBounds_toArray, List.set_cons_succ, List.set_cons_zero]
          refine wpStill_go (v := .int .i64 (ph t a)) rfl rfl (stays_run fun w' h => by simp only [← I7.out]; simp [go_sem]) ?_
          simp only [Act.put, List.setIfInBounds_toArray, List.set_cons_succ, List.set_cons_zero]
          refine wpStill_go (v := .int .i64 q) rfl rfl (stays_run fun w' h => by simp [go_sem]; rw [Hq.out, I8.out]) ?_
          simp only [Act.put, List.setIfInBounds_toArray, List.set_cons_succ, List.set_cons_zero]
          refine wpStill_go (v := .agg #[.int .i64 (unit q).1, .int .i64 (unit q).2]) rfl rfl (stays_call (f := 113) (args := #[.int .i64 q]) (fun w' h => by simp [go_sem]) (fun w' _ => gaussUnit_any q w')) ?_
          simp only [Act.put, List.setIfInBounds_toArray, List.set_cons_succ, List.set_cons_zero]
          refine wpStill_go (v := .agg #[.int .i64 T.1, .int .i64 T.2]) rfl rfl (stays_call (f := 112) (args := #[.agg #[.int .i64 gz.1, .int .i64 gz.2], .agg #[.int .i64 (unit q).1, .int .i64 (unit q).2]]) (fun w' h => by simp [go_sem]) (fun w' _ => by rw [← HTT.out]; exact gTimes_any _ _ _ _ w' hgz.1 hgz.2 (unit_bd q).1 (unit_bd q).2)) ?_
          simp only [Act.put, List.setIfInBounds_toArray, List.set_cons_succ, List.set_cons_zero]
          refine wpStill_go (v := .agg #[.int .i64 S1.1, .int .i64 S1.2]) rfl rfl (stays_call (f := 111) (args := #[.agg #[.int .i64 S.1, .int .i64 S.2], .agg #[.int .i64 T.1, .int .i64 T.2]]) (fun w' h => by simp [go_sem]) (fun w' _ => by rw [HS1.out]; exact gPlus_any _ _ _ _ w' (by omega) (by omega) (by omega) (by omega))) ?_
          simp only [Act.put, List.setIfInBounds_toArray, List.set_cons_succ, List.set_cons_zero]
          refine wpStill_go (v := .pointer (some ⟨w.heap.size, 0 + t * 2, none⟩)) rfl rfl (stays_run fun w' h => ex_index rfl (by kernel_rfl) (by kernel_rfl) rfl rfl (hlt)) ?_
          simp only [Act.put, List.setIfInBounds_toArray, List.set_cons_succ, List.set_cons_zero]
          refine wpStill_skip rfl ?_
          refine wpStill_nil ?_
          repeat (refine wpMark_skip rfl ?_)
          refine wpMark_go rfl (fun m1 hm1 K hK => ?_)
          have E1 := (Below.refl W.heap.size W).drew.trans hm1
          have rm := rr.kept E1
          have d0 := rm.cell (t * 2)
          have d1 := rm.cell (t * 2 + 1)
          rw [(pairCells_get R t S HRt.out).1] at d0
          rw [(pairCells_get R t S HRt.out).2] at d1
          have f0 := rm.frozen (t * 2)
          have f1 := rm.frozen (t * 2 + 1)
          go_wp2_with fail
          refine hK _ _ (fun h => absurd h (by decide)) (wpMark_nil fun m6 hm6 => ?_)
          simp only [onlyN]
          have r6 := ((rm.set_ (t * 2) (.int .i64 S1.1)).set_ (t * 2 + 1) (.int .i64 S1.2)).kept hm6
          rw [pairs_set R t S1 (by rw [Hlen.out]; omega), ← HSS1.out, ← HRR.out, trRow_set] at r6
          have B1 := hbW.trans (E1.mono hbW.size)
          have B2 := (B1.setCell (p := ⟨w.heap.size, t * 2, none⟩) (Nat.le_refl _) (.int .i64 S1.1)).setCell (p := ⟨w.heap.size, t * 2 + 1, none⟩) (Nat.le_refl _) (.int .i64 S1.2)
          have B3 := B2.trans (hm6.mono B2.size)
          clear Lo Lb d0 d1 f0 f1 rm E1 hK c0 c1 z0 z1 rr rb hc1 hc2
          have R6 := Lib.hid r6
          clear r6
          go_wp2_with fail
          go_roundw
          case measure => simp [intOf]; omega
          case rel => exact ⟨a + 1, by omega, by go_num, R6.out, B3⟩
        · obtain rfl : a = 16 := by omega
          rw [trRow_next] at hrow
          have Hrow := Lib.hid hrow; clear hrow
          go_wp2_with fail
          go_roundw
          case measure => simp [intOf]; omega
          case rel => exact ⟨t + 1, by omega, by go_num, Hrow.out, hbel⟩
    · obtain rfl : t = 16 := by omega
      rw [trRow_all] at hrow
      have Hrow := Lib.hid hrow; clear hrow
      go_wp2_with fail
      go_ret
      exact ⟨rfl, Hrow.out, hbel⟩
end Go.Proofs.YtipgpafgampfbaaGreatDoor
