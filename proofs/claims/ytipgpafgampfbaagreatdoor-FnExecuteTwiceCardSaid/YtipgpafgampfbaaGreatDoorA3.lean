/- Slices of ints: the laws' copies, comparisons and marks. · Gaussian integers: what the program's and the reference's functions on them return. · Gaussian integers, more: the reference's product and conjugate, the norm, and the laws' own small functions. · The row's frame: arguments that are slices, opened to what the walks ask of them. · Antennas and baselines: numbers, indices, observations. · Small laws on rows that a call owns, on slices that read as lists, and on the units. · Slices of Gaussian integers: the laws' copies, comparisons and marks. · 'bases(n)': the iterator over the baselines, and its contract for whatever loop body. -/
import Derived.Test.YtipgpafgampfbaaGreatDoorA1
import Derived.Test.YtipgpafgampfbaaGreatDoorA2
import Derived.ProofKit
import Derived.OpenShut
import Derived.ShutString
import Derived.ChangeOld
import Derived.Below
import Derived.Deep.Slices
import Derived.Deep.Fields
import Derived.Deep.Grids
import Derived.Maps.AppendAt
import Derived.Deep.Onto
import Derived.RangeFuncNested
import Derived.RangeFuncBound
import Derived.RangeFuncCalls
import Derived.RangeFuncLeaves
import Derived.RangeFuncFrom
import Derived.WalkKit
import Derived.OwnWalkIn
import Derived.TacticsInMore
import Derived.LoopNIn
import Derived.LoopIn
namespace Go.Proofs.YtipgpafgampfbaaGreatDoor
open Go.RowKit

theorem grown_set (W : World) (b i : Nat) (v : Value) : W.grownBy (W.setCell ⟨b, i, none⟩ v) (some b) :=
  ⟨rfl, rfl, rfl, (KeepsWalks.setCell W _ v).size, fun k _ hk => Below.heap_setCell _ _ _ k (fun e => hk (by rw [e]))⟩
theorem grown_trans {A B C : World} {r : Option Nat} (h : A.grownBy B r) (k : B.grownBy C r) : A.grownBy C r :=
  ⟨k.os.trans h.os, k.tape.trans h.tape, k.output.trans h.output, Nat.le_trans h.size k.size, fun i hi hr => (k.block i (Nat.lt_of_lt_of_le hi h.size) hr).trans (h.block i hi hr)⟩

/-- A cell of an own row: read, and stored. -/
theorem own_set {w : World} {base : Nat} {T : TypeId} {size n cap : Nat} {A : Option Addr} {xs : List Value} (h : w.ownsRow base T size (.slice A n cap) n xs) {i : Nat} {u : Value} (hi : xs[i]? = some u) :
    ∃ g, A = some ⟨g, 0, none⟩ ∧ base ≤ g ∧ (Value.slice A n cap).ownBlock = some g ∧ w.cell? ⟨g, i, none⟩ = some u ∧ w.frozen? ⟨g, i, none⟩ = false ∧ ∀ x, (w.setCell ⟨g, i, none⟩ x).ownsRow base T size (.slice A n cap) n (xs.set i x) := by
  rcases h with ⟨hl, ⟨h1, h2⟩ | ⟨g, cap', cur, hv, hB, hg, h1, h2, h3, h4⟩⟩
  · subst h2
    rw [Nat.zero_mul] at hl
    rw [List.length_eq_zero_iff.1 hl] at hi
    simp at hi
  · injection hv with e1 e2 e3
    subst e1; subst e3
    have hc : cur[i]? = some u := by
      rw [← h4, List.getElem?_take] at hi
      split at hi
      · simpa using hi
      · cases hi
    refine ⟨g, rfl, hB, rfl, ?_, by simp [World.frozen?, hg], fun x => ⟨by simpa using hl, .inr ⟨g, cap, cur.set! i x, rfl, hB, ?_, h1, h2, by simpa using h3, ?_⟩⟩⟩
    · rw [cell_of_row w g i cur T (0, 0) hg]; exact hc
    · simp [World.setCell, Array.getElem?_modify, hg]
    · rw [← h4]; simp [List.take_set]

end Go.Proofs.YtipgpafgampfbaaGreatDoor

namespace Go.Proofs.YtipgpafgampfbaaGreatDoor
open Go.RowKit

/-- Within a limit, at both ends. -/
def inR (n lo hi : Int) : Bool := decide (lo ≤ n) && decide (n ≤ hi)
theorem inR_iff {n lo hi : Int} : inR n lo hi = true ↔ lo ≤ n ∧ n ≤ hi := by unfold inR; simp
theorem inR_no {n lo hi : Int} : inR n lo hi = false ↔ ¬ (lo ≤ n ∧ n ≤ hi) := by
  rw [← Bool.not_eq_true, inR_iff]

theorem inRange_any (n m : Int) (w : World) (h0 : 0 ≤ m) (h1 : m ≤ 4000000000) :
    Calls Tryz.prog 93 #[.int .i64 n, .int .i64 m] w fun e w' => e = .returned (.bool (inR n (-m) m)) ∧ w = w' := by
  by_cases ha : -m ≤ n
  · by_cases hb : n ≤ m
    · have d1 : decide (-m ≤ n) = true := by simpa using ha
      have d2 : decide (n ≤ m) = true := by simpa using hb
      go_enter Tryz.func93, Tryz.ntmps93
      go_wp2
      go_ret
      exact ⟨ret_bool (by simp [inR, ha, hb]), rfl⟩
    · have hb' : m < n := by omega
      go_enter Tryz.func93, Tryz.ntmps93
      go_wp2
      go_ret
      exact ⟨ret_bool (by simp [inR, ha]; omega), rfl⟩
  · have ha' : n < -m := by omega
    go_enter Tryz.func93, Tryz.ntmps93
    go_wp2
    go_ret
    exact ⟨ret_bool (by simp [inR]; omega), rfl⟩

theorem l6In_any (n lo hi : Int) (w : World) :
    Calls Tryz.prog 63 #[.int .i64 n, .int .i64 lo, .int .i64 hi] w fun e w' => e = .returned (.bool (inR n lo hi)) ∧ w = w' := by
  by_cases ha : lo ≤ n
  · go_enter Tryz.func63, Tryz.ntmps63
    go_wp2
    go_ret
    exact ⟨ret_bool (by simp [inR, ha]), rfl⟩
  · have ha' : n < lo := by omega
    go_enter Tryz.func63, Tryz.ntmps63
    go_wp2
    go_ret
    exact ⟨ret_bool (by simp [inR]; omega), rfl⟩

/-! ### A result that is a struct lies in a block of the call's own -/
theorem mul_bd (a b M N : Int) (ha : -M ≤ a ∧ a ≤ M) (hb : -N ≤ b ∧ b ≤ N) : -(M * N) ≤ a * b ∧ a * b ≤ M * N := by
  have h1 : a.natAbs ≤ M.toNat := by omega
  have h2 : b.natAbs ≤ N.toNat := by omega
  have h3 := Nat.mul_le_mul h1 h2
  rw [← Int.natAbs_mul] at h3
  have hM : (M.toNat : Int) = M := by omega
  have hN : (N.toNat : Int) = N := by omega
  have h4 : ((M.toNat * N.toNat : Nat) : Int) = M * N := by rw [Int.natCast_mul, hM, hN]
  have h5 : ((a * b).natAbs : Int) ≤ M * N := by rw [← h4]; exact Int.ofNat_le.2 h3
  omega

theorem and3 (k : Int) : bits .and .i64 k 3 = k % 4 := by
  show IntKind.i64.wrap ((BitVec.ofInt 64 k &&& BitVec.ofInt 64 3).toNat : Int) = _
  rw [BitVec.toNat_and, show (BitVec.ofInt 64 3).toNat = 2 ^ 2 - 1 from rfl, Nat.and_two_pow_sub_one_eq_mod, BitVec.toNat_ofInt, IntKind.wrap_i64]
  omega

/-- i to the power of k. -/
def unit (k : Int) : Int × Int := if k % 4 = 0 then (1, 0) else if k % 4 = 1 then (0, 1) else if k % 4 = 2 then (-1, 0) else (0, -1)
theorem unit_cases (k : Int) : (k % 4 = 0 ∧ unit k = (1, 0)) ∨ (k % 4 = 1 ∧ unit k = (0, 1)) ∨ (k % 4 = 2 ∧ unit k = (-1, 0)) ∨ (k % 4 = 3 ∧ unit k = (0, -1)) := by
  have : k % 4 = 0 ∨ k % 4 = 1 ∨ k % 4 = 2 ∨ k % 4 = 3 := by omega
  unfold unit
  rcases this with h | h | h | h <;> simp [h]

theorem unit_i (w : World) : (Instr.index 153 (.agg #[.int .i64 1, .int .i64 0, .int .i64 0, .int .i64 1, .int .i64 (-1), .int .i64 0, .int .i64 0, .int .i64 (-1)]) (.int .i64 0)).run Tryz.prog w = .ok (.agg #[.int .i64 1, .int .i64 0]) w
    ∧ (Instr.index 153 (.agg #[.int .i64 1, .int .i64 0, .int .i64 0, .int .i64 1, .int .i64 (-1), .int .i64 0, .int .i64 0, .int .i64 (-1)]) (.int .i64 1)).run Tryz.prog w = .ok (.agg #[.int .i64 0, .int .i64 1]) w
    ∧ (Instr.index 153 (.agg #[.int .i64 1, .int .i64 0, .int .i64 0, .int .i64 1, .int .i64 (-1), .int .i64 0, .int .i64 0, .int .i64 (-1)]) (.int .i64 2)).run Tryz.prog w = .ok (.agg #[.int .i64 (-1), .int .i64 0]) w
    ∧ (Instr.index 153 (.agg #[.int .i64 1, .int .i64 0, .int .i64 0, .int .i64 1, .int .i64 (-1), .int .i64 0, .int .i64 0, .int .i64 (-1)]) (.int .i64 3)).run Tryz.prog w = .ok (.agg #[.int .i64 0, .int .i64 (-1)]) w :=
  ⟨by kernel_rfl, by kernel_rfl, by kernel_rfl, by kernel_rfl⟩

set_option maxRecDepth 100000 in
theorem gaussUnit_any (k : Int) (w : World) :
    Calls Tryz.prog 113 #[.int .i64 k] w fun e w' => e = .returned (.agg #[.int .i64 (unit k).1, .int .i64 (unit k).2]) ∧ Below w.heap.size w w' := by
  go_enter Tryz.func113, Tryz.ntmps113
  go_wp2_with fail
  have hu := unit_cases k
  have hb := and3 k
  rcases hu with ⟨h, hu⟩ | ⟨h, hu⟩ | ⟨h, hu⟩ | ⟨h, hu⟩
  all_goals
    rw [h] at hb
    rw [hb]
    clear h hb
    have Hu := Lib.hid hu
    clear hu
    first | rw [(unit_i _).1] | rw [(unit_i _).2.1] | rw [(unit_i _).2.2.1] | rw [(unit_i _).2.2.2]
    simp only [Result.andThen]
    rw [Oper.upon_value]
    go_wp2_with fail
    refine bodyPost_ret (by simp [results, Tryz.results113, go_sem, Hu.out]) rfl ⟨rfl, ?_⟩
    exact (Below.refl _ _).alloc (Nat.le_refl _) _

set_option maxRecDepth 100000 in
theorem sGaussUnit_any (k : Int) (w : World) :
    Calls Tryz.prog 161 #[.int .i64 k] w fun e w' => e = .returned (.agg #[.int .i64 (unit k).1, .int .i64 (unit k).2]) ∧ Below w.heap.size w w' := by
  go_enter Tryz.func161, Tryz.ntmps161
  go_wp2_with fail
  refine (l1Mod_any _ 4 _ (by omega) (by omega)).mono ?_
  rintro e w' ⟨rfl, rfl⟩
  have hu := unit_cases k
  rcases hu with ⟨h, hu⟩ | ⟨h, hu⟩ | ⟨h, hu⟩ | ⟨h, hu⟩
  all_goals
    rw [h]
    clear h
    have Hu := Lib.hid hu
    clear hu
    go_wp2_with fail
    refine bodyPost_ret (by simp [results, Tryz.results161, go_sem, Hu.out]) rfl ⟨rfl, ?_⟩
    exact ((Below.refl _ _).alloc (Nat.le_refl _) _).alloc (by simp) _

def GB (x : Int) : Prop := -1000000000 ≤ x ∧ x ≤ 1000000000
theorem gTimes_any (a b c d : Int) (w : World) (ha : GB a) (hb : GB b) (hc : GB c) (hd : GB d) :
    Calls Tryz.prog 112 #[.agg #[.int .i64 a, .int .i64 b], .agg #[.int .i64 c, .int .i64 d]] w fun e w' => e = .returned (.agg #[.int .i64 (a * c - b * d), .int .i64 (a * d + b * c)]) ∧ Below w.heap.size w w' := by
  have h1 := mul_bd a c _ _ ha hc
  have h2 := mul_bd b d _ _ hb hd
  have h3 := mul_bd a d _ _ ha hd
  have h4 := mul_bd b c _ _ hb hc
  simp only [Int.reduceMul, Int.reduceNeg] at h1 h2 h3 h4
  go_enter Tryz.func112, Tryz.ntmps112
  go_wp2_with fail
  refine bodyPost_ret (v := .agg #[.int .i64 (a * c - b * d), .int .i64 (a * d + b * c)]) (by simp [results, Tryz.results112, go_sem]) rfl ⟨rfl, ?_⟩
  exact (((Below.refl _ _).alloc (Nat.le_refl _) _).alloc (by simp) _).alloc (by simp; omega) _

theorem gPlus_any (a b c d : Int) (w : World) (ha : -4000000000000000000 ≤ a ∧ a ≤ 4000000000000000000) (hb : -4000000000000000000 ≤ b ∧ b ≤ 4000000000000000000) (hc : -4000000000000000000 ≤ c ∧ c ≤ 4000000000000000000) (hd : -4000000000000000000 ≤ d ∧ d ≤ 4000000000000000000) :
    Calls Tryz.prog 111 #[.agg #[.int .i64 a, .int .i64 b], .agg #[.int .i64 c, .int .i64 d]] w fun e w' => e = .returned (.agg #[.int .i64 (a + c), .int .i64 (b + d)]) ∧ Below w.heap.size w w' := by
  go_enter Tryz.func111, Tryz.ntmps111
  go_wp2_with fail
  refine bodyPost_ret (v := .agg #[.int .i64 (a + c), .int .i64 (b + d)]) (by simp [results, Tryz.results111, go_sem]) rfl ⟨rfl, ?_⟩
  exact (((Below.refl _ _).alloc (Nat.le_refl _) _).alloc (by simp) _).alloc (by simp; omega) _

/-! ### Blocks of the call's own, over a callee that leaves what was there -/
theorem Row.two {w : World} {g : Nat} {T : TypeId} {x y : Value} (h : Row w g T [x, y]) : w.cell? ⟨g, 0, none⟩ = some x ∧ w.cell? ⟨g, 1, none⟩ = some y ∧ w.frozen? ⟨g, 0, none⟩ = false ∧ w.frozen? ⟨g, 1, none⟩ = false :=
  ⟨h.cell 0, h.cell 1, h.frozen 0, h.frozen 1⟩
theorem Row.new1 (w : World) (o : Obj) (T : TypeId) (xs : List Value) : Row ((w.alloc o).alloc (.cells xs.toArray T)) (w.heap.size + 1) T xs := by
  have := Row.new (w.alloc o) T xs
  simpa using this
end Go.Proofs.YtipgpafgampfbaaGreatDoor

namespace Go.Proofs.YtipgpafgampfbaaGreatDoor
open Go.RowKit

theorem bA1 {w : World} {o : Obj} : Below w.heap.size w (w.alloc o) := (Below.refl _ _).alloc (Nat.le_refl _) _
theorem bA2 {w : World} {o o' : Obj} : Below w.heap.size w ((w.alloc o).alloc o') := bA1.alloc (by simp) _
theorem bA3 {w : World} {o o' o2 : Obj} : Below w.heap.size w (((w.alloc o).alloc o').alloc o2) := bA2.alloc (by simp; omega) _
theorem set2 {B : Nat} {a w : World} {g : Nat} {u v : Value} (h : Below B a w) (hg : B ≤ g) : Below B a ((w.setCell ⟨g, 0, none⟩ u).setCell ⟨g, 1, none⟩ v) :=
  (h.setCell (p := ⟨g, 0, none⟩) hg _).setCell (p := ⟨g, 1, none⟩) hg _

end Go.Proofs.YtipgpafgampfbaaGreatDoor

namespace Go.Proofs.YtipgpafgampfbaaGreatDoor
open Go.ChangeShapes Go.WideShapes Go.ChangeAt Go.RowKit Go.Deep

section
variable {H : Type} {enc : TypeId × Value → H} {P : Program} {w : World} {d : DataW H} {p : List MemPlace}

theorem rd_of_cells {a : Addr} {xs : List Value} (h : ∀ i u, xs[i]? = some u → w.cell? (a.add i) = some u) : Rd w w.heap.size (some a) xs := fun i u hu => by
  have hlt : i < xs.length := (List.getElem?_eq_some_iff.1 hu).1
  have hc0 := h 0 xs[0] (by simp)
  have hc := h i u hu
  obtain ⟨b, off, spot⟩ := a
  have hs := World.cell?_spot hc0
  have hsp : spot = none := by simpa [Addr.add] using hs
  subst hsp
  have hb := block_lt_of_cell hc0
  refine ⟨b, off, rfl, by simpa [Addr.add] using hb, ?_⟩
  rw [← hc]; congr 1; unfold Addr.add; split <;> simp_all

/-- The length does not exceed the capacity. -/
theorem open_ints_cap {t e : TypeId} {k : IntKind} (ht : P.underlying t = some (.slice e)) (he : P.underlying e = some (.int k)) (hc : P.cellsOf e = 1) {A : Option Addr} {n cap : Nat}
    (h : DataW.Trod enc P w 0 (fun _ => true) true t (.slice A n cap) d p) : n ≤ cap := by
  obtain ⟨fuel, hf⟩ := h
  rcases open_ints ht he hc hf with ⟨hcs, _⟩ | ⟨a, len, c, zs, hcs, _, hl, hm, hz, _, hcell, hwz⟩
  · simp [Value.cells] at hcs
    obtain ⟨rfl, rfl, rfl⟩ := hcs
    exact Nat.le_refl _
  · simp [Value.cells] at hcs
    obtain ⟨rfl, rfl, rfl⟩ := hcs
    omega
/-- The numbers of a kind's range. -/
theorem open_ints_rd {t e : TypeId} {k : IntKind} (ht : P.underlying t = some (.slice e)) (he : P.underlying e = some (.int k)) (hc : P.cellsOf e = 1) {A : Option Addr} {n cap : Nat}
    (h : DataW.Trod enc P w 0 (fun _ => true) true t (.slice A n cap) d p) : n ≤ 9223372036854775807 ∧ ∃ c : List Int, c.length = n ∧ Rd w w.heap.size A (c.map (Value.int k)) ∧ ∀ x ∈ c, (Lit.int k x).wf = true := by
  obtain ⟨fuel, hf⟩ := h
  rcases open_ints ht he hc hf with ⟨hcs, _⟩ | ⟨a, len, c, zs, hcs, _, hl, hm, hz, _, hcell, hwz⟩
  · simp [Value.cells] at hcs
    obtain ⟨rfl, rfl, rfl⟩ := hcs
    exact ⟨by omega, [], rfl, Rd.nil _ _ _, by simp⟩
  · simp [Value.cells] at hcs
    obtain ⟨rfl, rfl, rfl⟩ := hcs
    simp at hz
    refine ⟨by unfold maxLen at hm; omega, zs.take n, by simp; omega, rd_of_cells fun i u hu => ?_, fun x hx => hwz x (List.mem_of_mem_take hx)⟩
    simp only [List.getElem?_map, List.getElem?_take] at hu
    split at hu
    · rename_i hi
      have hlt : i < zs.length := by omega
      rw [hcell i hlt]
      simpa [List.getD, hlt] using hu
    · simp at hu

/-- A pair of integers as two cells. -/
def pairCells (g : Int × Int) : List Value := [.int .i64 g.1, .int .i64 g.2]
theorem pairCells_len (gs : List (Int × Int)) : (gs.flatMap pairCells).length = gs.length * 2 := by
  induction gs with
  | nil => rfl
  | cons g r ih => simp [List.flatMap_cons, pairCells] at ih ⊢; omega
theorem pairCells_get (gs : List (Int × Int)) (i : Nat) (g : Int × Int) (h : gs[i]? = some g) : (gs.flatMap pairCells)[i * 2]? = some (.int .i64 g.1) ∧ (gs.flatMap pairCells)[i * 2 + 1]? = some (.int .i64 g.2) := by
  induction gs generalizing i with
  | nil => simp at h
  | cons a r ih =>
    cases i with
    | zero => simp at h; subst h; exact ⟨rfl, rfl⟩
    | succ i =>
      have := ih i (by simpa using h)
      rw [show (i + 1) * 2 = i * 2 + 2 by omega]
      simpa [List.flatMap_cons, pairCells] using this

end
end Go.Proofs.YtipgpafgampfbaaGreatDoor

namespace Go.Proofs.YtipgpafgampfbaaGreatDoor
open Go.RowKit

theorem isMany_any (n : Int) (w : World) : Calls Tryz.prog 86 #[.int .i64 n] w fun e w' => e = .returned (.bool (inR n 2 7)) ∧ w = w' := by
  by_cases ha : 2 ≤ n
  · go_enter Tryz.func86, Tryz.ntmps86
    go_wp2
    go_ret
    exact ⟨ret_bool (by simp [inR, ha]), rfl⟩
  · have ha' : n < 2 := by omega
    go_enter Tryz.func86, Tryz.ntmps86
    go_wp2
    go_ret
    exact ⟨ret_bool (by simp [inR]; omega), rfl⟩

/-- How many baselines. -/
def bm (n : Int) : Int := if inR n 2 7 then n * (n - 1) / 2 else 0
theorem bm_yes {n : Int} (h : 2 ≤ n ∧ n ≤ 7) : bm n = n * (n - 1) / 2 := by unfold bm; rw [if_pos (inR_iff.2 h)]
theorem bm_no {n : Int} (h : ¬ (2 ≤ n ∧ n ≤ 7)) : bm n = 0 := by unfold bm; rw [if_neg (by rw [inR_iff]; exact h)]
theorem bm_cases (n : Int) : (n = 2 ∧ bm n = 1) ∨ (n = 3 ∧ bm n = 3) ∨ (n = 4 ∧ bm n = 6) ∨ (n = 5 ∧ bm n = 10) ∨ (n = 6 ∧ bm n = 15) ∨ (n = 7 ∧ bm n = 21) ∨ (¬ (2 ≤ n ∧ n ≤ 7) ∧ bm n = 0) := by
  by_cases h : 2 ≤ n ∧ n ≤ 7
  · have := bm_yes h
    have : n = 2 ∨ n = 3 ∨ n = 4 ∨ n = 5 ∨ n = 6 ∨ n = 7 := by omega
    rcases this with rfl | rfl | rfl | rfl | rfl | rfl <;> simp_all
  · exact .inr (.inr (.inr (.inr (.inr (.inr ⟨h, bm_no h⟩)))))

theorem baseMany_any (n : Int) (w : World) : Calls Tryz.prog 45 #[.int .i64 n] w fun e w' => e = .returned (.int .i64 (bm n)) ∧ w = w' := by
  rcases bm_cases n with ⟨rfl, h⟩ | ⟨rfl, h⟩ | ⟨rfl, h⟩ | ⟨rfl, h⟩ | ⟨rfl, h⟩ | ⟨rfl, h⟩ | ⟨hn, h⟩
  case inr.inr.inr.inr.inr.inr =>
    have H := Lib.hid h
    clear h
    go_enter Tryz.func45, Tryz.ntmps45
    go_wp2_with (go_at_call 86; refine (isMany_any _ _).mono ?_; rintro e w' ⟨rfl, rfl⟩; rw [inR_no.2 hn])
    go_ret
    exact ⟨ret_int H.out.symm, rfl⟩
  all_goals
    have H := Lib.hid h
    clear h
    go_enter Tryz.func45, Tryz.ntmps45
    go_wp2_with (go_at_call 86; refine (isMany_any _ _).mono ?_; rintro e w' ⟨rfl, rfl⟩; rw [inR_iff.2 (by omega)])
    go_ret
    exact ⟨ret_int H.out.symm, rfl⟩

theorem sBaseMany_any (n : Int) (w : World) : Calls Tryz.prog 123 #[.int .i64 n] w fun e w' => e = .returned (.int .i64 (bm n)) ∧ w = w' := by
  rcases bm_cases n with ⟨rfl, h⟩ | ⟨rfl, h⟩ | ⟨rfl, h⟩ | ⟨rfl, h⟩ | ⟨rfl, h⟩ | ⟨rfl, h⟩ | ⟨hn, h⟩
  case inr.inr.inr.inr.inr.inr =>
    have H := Lib.hid h
    clear h
    go_enter Tryz.func123, Tryz.ntmps123
    go_wp2_with (go_at_call 63; refine (l6In_any _ _ _ _).mono ?_; rintro e w' ⟨rfl, rfl⟩; rw [inR_no.2 hn])
    go_ret
    exact ⟨ret_int H.out.symm, rfl⟩
  all_goals
    have H := Lib.hid h
    clear h
    go_enter Tryz.func123, Tryz.ntmps123
    go_wp2_with (go_at_call 63; refine (l6In_any _ _ _ _).mono ?_; rintro e w' ⟨rfl, rfl⟩; rw [inR_iff.2 (by omega)])
    go_ret
    exact ⟨ret_int H.out.symm, rfl⟩

/-- The number of the baseline of i and j, i less than j. -/
def bF (n i j : Int) : Int := i * (2 * n - i - 1) / 2 + j - i - 1
theorem bF_spec (n i j : Int) (hi : 0 ≤ i ∧ i ≤ 6) : i * n - i * (i + 1) / 2 + j - i - 1 = bF n i j := by
  have : i = 0 ∨ i = 1 ∨ i = 2 ∨ i = 3 ∨ i = 4 ∨ i = 5 ∨ i = 6 := by omega
  unfold bF
  rcases this with rfl | rfl | rfl | rfl | rfl | rfl | rfl <;> omega
theorem bF_bd (n i j : Int) (hn : 2 ≤ n ∧ n ≤ 7) (hi : 0 ≤ i ∧ i < j) (hj : j < n) : 0 ≤ bF n i j ∧ bF n i j < bm n := by
  rw [bm_yes hn]
  have : i = 0 ∨ i = 1 ∨ i = 2 ∨ i = 3 ∨ i = 4 ∨ i = 5 ∨ i = 6 := by omega
  have : n = 2 ∨ n = 3 ∨ n = 4 ∨ n = 5 ∨ n = 6 ∨ n = 7 := by omega
  unfold bF
  rcases this with rfl | rfl | rfl | rfl | rfl | rfl <;> rcases ‹i = 0 ∨ _› with rfl | rfl | rfl | rfl | rfl | rfl | rfl <;> omega
/-- The reference's BaseIndex, i less than j, both there. -/
theorem sBaseIndex_lt (n i j : Int) (w : World) (hn : 2 ≤ n ∧ n ≤ 7) (hi : 0 ≤ i ∧ i < j) (hj : j < n) :
    Calls Tryz.prog 170 #[.int .i64 n, .int .i64 i, .int .i64 j] w fun e w' => e = .returned (.int .i64 (bF n i j)) ∧ w = w' := by
  have hf := Lib.hid (bF_spec n i j (by omega))
  have hb : (bm n == 0) = false := by
    have := bF_bd n i j hn hi hj
    rw [beq_eq_false_iff_ne]; omega
  obtain ⟨hn1, hn2⟩ := hn
  obtain ⟨hi1, hi2⟩ := hi
  have m1 := mul_bd i n 7 7 (by omega) (by omega)
  have m2 := mul_bd i (i + 1) 7 8 (by omega) (by omega)
  simp only [Int.reduceMul, Int.reduceNeg] at m1 m2
  have m0 : 0 ≤ i * (i + 1) := Int.mul_nonneg hi1 (by omega)
  have i1 : inR i 0 (n - 1) = true := inR_iff.2 (by omega)
  have i2 : inR j 0 (n - 1) = true := inR_iff.2 (by omega)
  have I1 := Lib.hid i1
  have I2 := Lib.hid i2
  clear i1 i2
  have hij : (i == j) = false := by rw [beq_eq_false_iff_ne]; omega
  go_enter Tryz.func170, Tryz.ntmps170
  go_wp2_with fail
  refine (sBaseMany_any _ _).mono ?_
  rintro e w' ⟨rfl, rfl⟩
  go_wp2_with fail
  refine (l6In_any _ _ _ _).mono ?_
  rintro e w' ⟨rfl, rfl⟩
  rw [I1.out]
  go_wp2_with fail
  refine (l6In_any _ _ _ _).mono ?_
  rintro e w' ⟨rfl, rfl⟩
  rw [I2.out]
  go_wp2_with fail
  go_ret
  refine ⟨ret_int ?_, rfl⟩
  rw [← hf.out]

/-! ### Lists of Gaussian integers -/
theorem rd_pair {w : World} {B : Nat} {A : Option Addr} {gs : List (Int × Int)} (h : Rd w B A (gs.flatMap pairCells)) {k : Nat} {g : Int × Int} (hk : gs[k]? = some g) :
    ∃ b off, A = some ⟨b, off, none⟩ ∧ b < B ∧ w.cell? ⟨b, off + k * 2, none⟩ = some (.int .i64 g.1) ∧ w.cell? ⟨b, off + k * 2 + 1, none⟩ = some (.int .i64 g.2) := by
  obtain ⟨p0, p1⟩ := pairCells_get gs k g hk
  obtain ⟨b, off, e, hb, hc⟩ := h _ _ p0
  obtain ⟨b', off', e', _, hc'⟩ := h _ _ p1
  rw [e] at e'
  injection e' with e'
  injection e' with e1 e2
  subst e1; subst e2
  exact ⟨b, off, e, hb, hc, by rw [Nat.add_assoc]; exact hc'⟩

end Go.Proofs.YtipgpafgampfbaaGreatDoor

namespace Go.Proofs.YtipgpafgampfbaaGreatDoor
open Go.RowKit

theorem own_form {w : World} {base : Nat} {T : TypeId} {size n : Nat} {v : Value} {xs : List Value} (h : w.ownsRow base T size v n xs) : ∃ A c, v = .slice A n c := by
  rcases h.2 with ⟨rfl, rfl⟩ | ⟨g, cap, cur, rfl, _⟩
  · exact ⟨none, 0, rfl⟩
  · exact ⟨_, _, rfl⟩
theorem own_over {W W' : World} {base : Nat} {T : TypeId} {size n : Nat} {v : Value} {xs : List Value} {r : Option Nat} (h : W.ownsRow base T size v n xs) (hg : W.grownBy W' r) (hne : ∀ j, v.ownBlock = some j → r ≠ some j) : W'.ownsRow base T size v n xs := by
  refine h.kept hg ?_
  rcases h.2 with ⟨rfl, _⟩ | ⟨g, cap, cur, rfl, _⟩
  · exact .inl rfl
  · exact .inr fun e => hne g rfl e.symm
theorem pairs_int (gs : List (Int × Int)) : ∀ u ∈ gs.flatMap pairCells, ∃ z, u = .int .i64 z := by
  intro u hu
  obtain ⟨g, _, hu⟩ := List.mem_flatMap.1 hu
  simp only [pairCells, List.mem_cons, List.not_mem_nil, or_false] at hu
  rcases hu with rfl | rfl <;> exact ⟨_, rfl⟩
theorem Rd.ext {w w' : World} {A : Option Addr} {xs : List Value} (h : Rd w w.heap.size A xs) (b : Below w.heap.size w w') : Rd w' w'.heap.size A xs := (h.below b).more b.size
theorem getD_of {gs : List (Int × Int)} {k : Nat} (h : k < gs.length) : gs[k]? = some (gs.getD k (0, 0)) := by
  rw [List.getD_eq_getElem?_getD, List.getElem?_eq_getElem h]; rfl
theorem intInfo : (Tryz.prog.info? 3).map (fun i => (i.zero, i.size, i.bytes)) = some (some (.int .i64 0), 1, 8) := by kernel_rfl
/-- A number times i to the power of k. -/
def turnAt (g : Int × Int) (k : Int) : Int × Int := (g.1 * (unit k).1 - g.2 * (unit k).2, g.1 * (unit k).2 + g.2 * (unit k).1)
theorem unit_bd (k : Int) : GB (unit k).1 ∧ GB (unit k).2 := by
  unfold GB; rcases unit_cases k with ⟨_, h⟩ | ⟨_, h⟩ | ⟨_, h⟩ | ⟨_, h⟩ <;> rw [h] <;> simp
theorem gaussInfo : (Tryz.prog.info? 132).map (fun i => (i.zero, i.size, i.bytes)) = some (some (.agg #[.int .i64 0, .int .i64 0]), 2, 16) := by kernel_rfl
/-- A number of a slice of numbers, loaded at an index within. -/
theorem ld_int {w : World} {A : Option Addr} {q : List Int} (hr : Rd w w.heap.size A (q.map (Value.int .i64))) {k : Nat} (hk : k < q.length) :
    ∃ b off, A = some ⟨b, off, none⟩ ∧ ∀ w', Below w.heap.size w w' → (Instr.loadAt 3 (.pointer (some ⟨b, off + k * 1, none⟩))).run Tryz.prog w' = .ok (.int .i64 (q.getD k 0)) w' := by
  obtain ⟨b, off, rfl, hb, hc⟩ := hr k (.int .i64 (q.getD k 0)) (by rw [List.getElem?_map, List.getD_eq_getElem?_getD, List.getElem?_eq_getElem hk]; rfl)
  exact ⟨b, off, rfl, fun w' h => ld_one (by kernel_rfl) (by rw [Nat.mul_one]; exact (h.cell (p := ⟨b, off + k, none⟩) hb).trans hc)⟩
/-- Bytes that can be read. -/
def BytesOk (bs : List Int) : Prop := ∀ x ∈ bs, 0 ≤ x ∧ x ≤ 255
theorem bytesOk_of {bs : List Int} (h : ∀ x ∈ bs, (Lit.int .u8 x).wf = true) : BytesOk bs := fun x hx => by
  have := h x hx
  simp [Lit.wf, IntKind.min, IntKind.max, IntKind.bits, IntKind.signed] at this
  omega
theorem bools_get {cs : List Bool} {k : Nat} (h : k < cs.length) : (cs.map Value.bool)[k]? = some (.bool (cs.getD k false)) := by
  simp [List.getD, h]
theorem cell_two_new (w : World) (x y : Value) (t : TypeId) : ∀ (j : Nat) (u : Value), [x, y][j]? = some u → (w.alloc (.cells #[x, y] t)).cell? ((⟨w.heap.size, 0, none⟩ : Addr).add j) = some u := by
  intro j u hj
  have hn := Row.new w t [x, y]
  rw [← hj, ← hn.cell j]
  exact congrArg _ (addr_add _ _)
theorem cell_one_new1 (w : World) (o : Obj) (x : Value) (t : TypeId) : ∀ (j : Nat) (u : Value), [x][j]? = some u → ((w.alloc o).alloc (.cells #[x] t)).cell? ((⟨w.heap.size + 1, 0, none⟩ : Addr).add j) = some u := by
  have h := cell_one_new (w.alloc o) x t
  rw [World.size_alloc] at h
  exact h
theorem ints_get {q : List Int} {k : Nat} (h : k < q.length) : (q.map (Value.int .i64))[k]? = some (.int .i64 (q.getD k 0)) := by
  simp [List.getD, h]
theorem getD_mem {α : Type} {l : List α} {k : Nat} {d : α} (h : k < l.length) : l.getD k d ∈ l := by
  rw [List.getD_eq_getElem?_getD, List.getElem?_eq_getElem h]; exact List.getElem_mem _
theorem take_succ_getD {α : Type} {l : List α} {k : Nat} {d : α} (h : k < l.length) : l.take (k + 1) = l.take k ++ [l.getD k d] := by
  rw [List.take_add_one, List.getD_eq_getElem?_getD, List.getElem?_eq_getElem h]; rfl
/-- Two rows in different blocks. -/
def Apart (v u : Value) : Prop := ∀ j, v.ownBlock = some j → u.ownBlock ≠ some j
theorem Apart.symm {v u : Value} (h : Apart v u) : Apart u v := fun j hj hv => h j hv hj
theorem bm_le (n : Int) : 0 ≤ bm n ∧ bm n ≤ 21 := by rcases bm_cases n with h | h | h | h | h | h | h <;> omega
end Go.Proofs.YtipgpafgampfbaaGreatDoor

namespace Go.Proofs.YtipgpafgampfbaaGreatDoor
open Go.RowKit

end Go.Proofs.YtipgpafgampfbaaGreatDoor

namespace Go.Proofs.YtipgpafgampfbaaGreatDoor
open Go.RowKit
attribute [local go_sem] Oper.semAt_some

/-- The baselines with a first antenna i of n. -/
def rowOf (n i : Nat) : List (Nat × Nat) := (List.range (n - (i + 1))).map fun d => (i, i + 1 + d)
/-- All baselines whose first antenna is less than i. -/
def upTo (n i : Nat) : List (Nat × Nat) := (List.range i).flatMap (rowOf n)
def pairsN (n : Nat) : List (Nat × Nat) := upTo n n
theorem upTo_succ (n i : Nat) : upTo n (i + 1) = upTo n i ++ rowOf n i := by
  unfold upTo; rw [List.range_succ, List.flatMap_append]; simp
theorem rowOf_take (n i j : Nat) (hj : i < j) (hjn : j < n) : (rowOf n i).take (j + 1 - (i + 1)) = (rowOf n i).take (j - (i + 1)) ++ [(i, j)] := by
  have h1 : j + 1 - (i + 1) = (j - (i + 1)) + 1 := by omega
  rw [h1, List.take_add_one]
  unfold rowOf
  rw [List.getElem?_map, List.getElem?_range (by omega)]
  simp; omega
theorem rowOf_all (n i : Nat) : (rowOf n i).take (n - (i + 1)) = rowOf n i := by
  rw [List.take_of_length_le]; simp [rowOf]
theorem upTo_prefix (n i k : Nat) (h : i ≤ k) : upTo n i <+: upTo n k := by
  induction k with
  | zero => rw [show i = 0 by omega]; exact List.prefix_rfl
  | succ k ih =>
    rcases Nat.lt_or_ge k i with h1 | h1
    · rw [show i = k + 1 by omega]; exact List.prefix_rfl
    · rw [upTo_succ]; exact (ih h1).trans (List.prefix_append _ _)
theorem inner_prefix (n i m : Nat) (hi : i < n) : upTo n i ++ (rowOf n i).take m <+: pairsN n := by
  refine List.IsPrefix.trans ?_ (upTo_prefix n (i + 1) n (by omega))
  rw [upTo_succ]
  exact (List.prefix_append_right_inj _).2 (List.take_prefix _ _)
/-- A baseline: two antennas of n, the first one less. -/
abbrev BP (n : Nat) : Type := { x : Nat × Nat // x.1 < x.2 ∧ x.2 < n }
theorem mem_pairsN {n : Nat} {x : Nat × Nat} (h : x ∈ pairsN n) : x.1 < x.2 ∧ x.2 < n := by
  unfold pairsN upTo at h
  obtain ⟨i, hi, hx⟩ := List.mem_flatMap.1 h
  unfold rowOf at hx
  obtain ⟨d, hd, rfl⟩ := List.mem_map.1 hx
  simp at hd ⊢
  omega
def pairsB (n : Nat) : List (BP n) := (pairsN n).attachWith _ fun _ h => mem_pairsN h
theorem pairsB_map (n : Nat) : (pairsB n).map (·.1) = pairsN n := by
  unfold pairsB; rw [List.attachWith_map_subtype_val]
theorem pairsB_inj {n : Nat} {xs ys : List (BP n)} (h : xs.map (·.1) = ys.map (·.1)) : xs = ys :=
  (List.map_inj_right (fun _ _ h => Subtype.ext h)).1 h

theorem bases_any (n : Int) (w : World) :
    Calls Tryz.prog 80 #[.int .i64 n] w fun e w' => e = .returned (.func (.func 117) #[] #[.pointer (some ⟨w.heap.size, 0, none⟩)]) ∧ w.alloc (.cells #[.int .i64 n] 3) = w' := by
  go_enter Tryz.func80, Tryz.ntmps80
  go_wp2
  go_ret
  exact ⟨rfl, rfl⟩

theorem wideN {m : Nat} : Fence.wide.depth.isSome = true → 1 ≤ m := fun h => by cases h

/-- What a body must keep for the iterator: its cell with n. -/
def KC (Bn n : Nat) (A B : World) : Prop := A.cell? ⟨Bn, 0, none⟩ = some (.int .i64 n) → B.cell? ⟨Bn, 0, none⟩ = some (.int .i64 n)
theorem KC_t {Bn n : Nat} {A B C : World} (h : KC Bn n A B) (k : KC Bn n B C) : KC Bn n A C := fun e => k (h e)
theorem KC_b {Bn n : Nat} (W : World) (l : Nat) (o o' : Obj) (h : W.heap[l]? = some o) (ho : o.isCells = false) : KC Bn n W (W.putObj l o') := fun e => by
  have hne : Bn ≠ l := by
    rintro rfl
    unfold World.cell? at e
    dsimp only at e
    rw [h] at e
    cases o <;> simp_all [Obj.isCells]
  unfold World.cell? at e ⊢
  dsimp only at e ⊢
  rw [World.putObj_heap_other hne]
  exact e
/-- The iterator hands every baseline of n antennas to the loop body, in order, till it says no more. -/
theorem bases1_in (m n : Nat) (h2 : 2 ≤ n) (h7 : n ≤ 7) (l Bn : Nat) (J Jx : List (Nat × Nat) → World → Prop)
    (hY : ∀ pre x W, J pre W → pre ++ [x] <+: pairsN n → YieldAt Fence.wide (m - 1) Tryz.prog l #[.int .i64 (x.1 : Nat), .int .i64 (x.2 : Nat)] W fun e W' =>
      (e = .returned (.bool true) ∧ J (pre ++ [x]) W' ∧ KC Bn n W W') ∨ (e = .returned (.bool false) ∧ Jx (pre ++ [x]) W'))
    (W : World) (hBn : W.cell? ⟨Bn, 0, none⟩ = some (.int .i64 n)) (h0 : J [] W) :
    CallsIn Fence.wide m Tryz.prog 117 #[.func (.yield l) #[] #[], .pointer (some ⟨Bn, 0, none⟩)] W fun e W' => (∃ v, e = .returned v) ∧
      ((∃ ys, ys = pairsN n ∧ J ys W') ∨ (∃ pre, pre <+: pairsN n ∧ Jx pre W')) := by
  refine callsIn_of_wp Tryz.func117 rfl trivial ?_ rfl
  simp only [Tryz.ntmps117, List.size_toArray, List.length_cons, List.length_nil, Nat.reduceAdd, Nat.reduceSub, Array.replicate_succ, Array.replicate_zero, List.push_toArray, List.append_toArray, List.nil_append, List.cons_append]
  gi_wp2
  gi_loopw [3] (fun p wr => ∃ i : Nat, i ≤ n ∧ p = .int .i64 i ∧ J (upTo n i) wr ∧ wr.cell? ⟨Bn, 0, none⟩ = some (.int .i64 n)) (fun p _ => n - (intOf p).toNat)
  case atStart => exact ⟨0, by omega, rfl, h0, hBn⟩
  case round =>
    obtain ⟨i, hi, rfl, hJ, hc⟩ := hrel
    have hmany : inR (n : Int) 2 7 = true := inR_iff.2 (by omega)
    have Hm := Lib.hid hmany; clear hmany
    have HJ := Lib.hid hJ; clear hJ
    by_cases hlt2 : i < n
    · gi_wp2_with fail
      refine ⟨trivial, wideN, (callsIn_wide.2 (isMany_any _ _)).mono ?_⟩
      rintro e w' ⟨rfl, rfl⟩
      rw [Hm.out]
      gi_wp2_with fail
      obtain ⟨wo, hwo⟩ : ∃ wo : World, wo = wr := ⟨_, rfl⟩
      gi_loopw [4] (fun p wr2 => ∃ j : Nat, i < j ∧ j ≤ n ∧ p = .int .i64 j ∧ J (upTo n i ++ (rowOf n i).take (j - (i + 1))) wr2 ∧ wr2.cell? ⟨Bn, 0, none⟩ = some (.int .i64 n)) (fun p _ => n - (intOf p).toNat)
      case atStart => exact ⟨i + 1, by omega, by omega, by go_num, by simpa using HJ.out, hc⟩
      case round =>
        obtain ⟨j, hij, hj, rfl, hJ2, hc2⟩ := hrel
        have HJ2 := Lib.hid hJ2; clear hJ2 HJ hwo hc
        by_cases hlt3 : j < n
        · obtain ⟨fn, tmps, assign, body, hy, hR⟩ := hY _ (i, j) _ HJ2.out (by rw [List.append_assoc, ← rowOf_take n i j hij hlt3]; exact inner_prefix n i _ hlt2)
          dsimp only at hy
          have hrow := rowOf_take n i j hij hlt3
          have Hrow := Lib.hid hrow; clear hrow
          have HR := Lib.hid hR; clear hR
          gi_wp2_with fail
          refine ⟨wideN, HR.out.mono ?_⟩
          rintro e W3 (⟨rfl, hJ3, hk3⟩ | ⟨rfl, hJx3⟩)
          · have hc3 : W3.cell? ⟨Bn, 0, none⟩ = some (.int .i64 n) := hk3 hc2
            have HJ3 := Lib.hid hJ3; clear hJ3 hk3 HR
            gi_wp2_with fail
            go_roundw
            case measure => simp [intOf]; omega
            case rel =>
              refine ⟨j + 1, by omega, by omega, by go_num, ?_, hc3⟩
              rw [Hrow.out, ← List.append_assoc]
              exact HJ3.out
          · have HJ3 := Lib.hid hJx3; clear hJx3 HR
            gi_wp2_with fail
            refine bodyPost_ret (results_none rfl _ _ _) rfl ?_
            refine ⟨⟨_, rfl⟩, .inr ⟨_, ?_, HJ3.out⟩⟩
            rw [List.append_assoc, ← Hrow.out]
            exact inner_prefix n i _ hlt2
        · obtain rfl : j = n := by omega
          gi_wp2_with fail
          go_roundw
          case measure => simp [intOf]; omega
          case rel =>
            refine ⟨i + 1, by omega, by go_num, ?_, hc2⟩
            rw [upTo_succ, ← rowOf_all j i]
            exact HJ2.out
    · obtain rfl : i = n := by omega
      gi_wp2_with fail
      refine ⟨trivial, ?_⟩
      gi_wp2_with fail
      go_end0
      exact ⟨⟨_, rfl⟩, .inl ⟨_, rfl, HJ.out⟩⟩

/-- .. in the words of the law on loops over a function: the body is handed baselines of n. -/
theorem bases_stops (m n : Nat) (h2 : 2 ≤ n) (h7 : n ≤ 7) (Bn : Nat) (w : World) (hBn : w.cell? ⟨Bn, 0, none⟩ = some (.int .i64 n)) (hlt : Bn < w.heap.size) :
    SeqStopsK Fence.wide m Tryz.prog 117 #[.pointer (some ⟨Bn, 0, none⟩)] (fun x : BP n => #[.int .i64 (x.1.1 : Nat), .int .i64 (x.1.2 : Nat)]) (KC Bn n) (fun xs => xs = pairsB n) (fun pre => pre <+: pairsB n) (pairsN n).length w := by
  intro l J Jx W hW _ _ hY h0
  refine (bases1_in m n h2 h7 l Bn (fun pre W => ∃ pb : List (BP n), pb.map (·.1) = pre ∧ J pb W) (fun pre W => ∃ pb : List (BP n), pb.map (·.1) = pre ∧ Jx pb W) ?_ W ((hW.cell (p := ⟨Bn, 0, none⟩) (by simpa using hlt)).trans hBn) ⟨[], rfl, h0⟩).mono ?_
  · rintro pre x W1 ⟨pb, rfl, hJ⟩ hp
    have hx := mem_pairsN (List.IsPrefix.subset hp (List.mem_append_right _ (List.mem_singleton.2 rfl)))
    have hl := hp.length_le
    refine (hY pb ⟨x, hx⟩ W1 hJ (by simp at hl; omega)).mono ?_
    rintro e W' (⟨he, h1, h2⟩ | ⟨he, h1⟩)
    · exact .inl ⟨he, ⟨_, by rw [List.map_append]; rfl, h1⟩, h2⟩
    · exact .inr ⟨he, ⟨_, by rw [List.map_append]; rfl, h1⟩⟩
  · rintro e W' ⟨hv, (⟨ys, rfl, pb, hp, hJ⟩ | ⟨pre, hp, pb, rfl, hJ⟩)⟩
    · exact ⟨hv, .inl ⟨pb, pairsB_inj (hp.trans (pairsB_map n).symm), hJ⟩⟩
    · refine ⟨hv, .inr ⟨pb, ?_, hJ⟩⟩
      rw [← pairsB_map] at hp
      obtain ⟨t, ht⟩ := hp
      refine ⟨(pairsB n).drop pb.length, pairsB_inj ?_⟩
      rw [List.map_append, List.map_drop, ← ht]
      congr 1
      rw [List.drop_append_of_le_length (by simp)]
      simp
theorem bm_pairs (n : Nat) (h2 : 2 ≤ n) (h7 : n ≤ 7) : bm n = ((pairsN n).length : Int) := by
  have : n = 2 ∨ n = 3 ∨ n = 4 ∨ n = 5 ∨ n = 6 ∨ n = 7 := by omega
  rcases this with rfl | rfl | rfl | rfl | rfl | rfl <;> decide
theorem upTo_len_bF (n i j : Nat) (h7 : n ≤ 7) (hi : i < j) (hj : j ≤ n) : (((upTo n i ++ (rowOf n i).take (j - (i + 1))).length : Nat) : Int) = bF n i j := by
  have h1 : ((rowOf n i).take (j - (i + 1))).length = j - (i + 1) := by
    rw [List.length_take, rowOf, List.length_map, List.length_range]; omega
  rw [List.length_append, h1]
  have hn : n = 0 ∨ n = 1 ∨ n = 2 ∨ n = 3 ∨ n = 4 ∨ n = 5 ∨ n = 6 ∨ n = 7 := by omega
  have hi' : i = 0 ∨ i = 1 ∨ i = 2 ∨ i = 3 ∨ i = 4 ∨ i = 5 ∨ i = 6 := by omega
  unfold bF
  rcases hi' with rfl | rfl | rfl | rfl | rfl | rfl | rfl <;> rcases hn with rfl | rfl | rfl | rfl | rfl | rfl | rfl | rfl <;> first | omega | (simp [upTo, rowOf, List.range_succ]; omega)
end Go.Proofs.YtipgpafgampfbaaGreatDoor
