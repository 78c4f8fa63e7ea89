/- Words for memory: a slice that reads as a list of cells, kept over steps that change nothing old. · Cells of a sky: the index of a cell modulo Side, and what the program's small functions on it return. · Coverages: what the program's and the reference's functions on them return. · A row of cells that the call itself made: one block, known whole. · laws.toBoolS copies, laws.eqBoolS compares. -/
import Derived.WalkKit
import Derived.WalkLawsBesides
import Derived.WalkSpells
import Derived.Below
import Derived.Laws.OwnMore
import Derived.Deep.Draws
import Derived.Lib.Hide
import Derived.KernelRfl
import Derived.Test.YtbadeopjfmafcaaDoorProg
import Derived.Outline
import Derived.BigQuiet
import Derived.Laws.MakeOwn
import Derived.OwnWalk
namespace Go.Proofs.YtbadeopjfmafcaaDoor
open Go.RowKit

/-- The slice value '.slice A n c' reads, in world w, as the cells xs, which lie below block B. -/
def Rd (w : World) (B : Nat) (A : Option Addr) (xs : List Value) : Prop :=
  ∀ (i : Nat) (u : Value), xs[i]? = some u → ∃ b off, A = some ⟨b, off, none⟩ ∧ b < B ∧ w.cell? ⟨b, off + i, none⟩ = some u

theorem Rd.nil (w : World) (B : Nat) (A : Option Addr) : Rd w B A [] := fun i u h => by simp at h

theorem Rd.below {w w' : World} {B : Nat} {A : Option Addr} {xs : List Value} (h : Rd w B A xs) (hb : Below B w w') : Rd w' B A xs := fun i u hu => by
  obtain ⟨b, off, e, hlt, hc⟩ := h i u hu
  exact ⟨b, off, e, hlt, (hb.cell (p := ⟨b, off + i, none⟩) hlt).trans hc⟩

theorem Rd.more {w : World} {B B' : Nat} {A : Option Addr} {xs : List Value} (h : Rd w B A xs) (hB : B ≤ B') : Rd w B' A xs := fun i u hu => by
  obtain ⟨b, off, e, hlt, hc⟩ := h i u hu
  exact ⟨b, off, e, by omega, hc⟩

/-- What an own row holds reads so. -/
theorem Rd.of_own {w : World} {base : Nat} {e : TypeId} {size n c : Nat} {A : Option Addr} {xs : List Value} (h : w.ownsRow base e size (.slice A n c) n xs) : Rd w w.heap.size A xs := fun i u hu => by
  obtain ⟨hl, h | ⟨g, cap, cur, hv, _, hh, _, _, hs, rfl⟩⟩ := h
  · rw [h.2] at hl
    simp at hl
    subst hl
    simp at hu
  · injection hv with hA
    subst hA
    have hlt : g < w.heap.size := by
      rcases Nat.lt_or_ge g w.heap.size with h | h
      · exact h
      · rw [Array.getElem?_eq_none h] at hh; cases hh
    refine ⟨g, 0, rfl, hlt, ?_⟩
    have h1 : cur[i]? = some u := by
      rw [List.getElem?_take] at hu
      split at hu
      · simpa using hu
      · cases hu
    rw [Nat.zero_add, cell_of_row w g i cur e (0, 0) hh]
    exact h1

/-- The cell at an index that lies within. -/
theorem Rd.at_ {w : World} {B : Nat} {A : Option Addr} {xs : List Value} (h : Rd w B A xs) {k : Nat} {u : Value} (hk : xs[k]? = some u) :
    ∃ b off, A = some ⟨b, off, none⟩ ∧ b < B ∧ w.cell? ⟨b, off + k, none⟩ = some u := h k u hk

theorem getElem?_map_lt {α β : Type} (f : α → β) (l : List α) (k : Nat) (h : k < l.length) : (l.map f)[k]? = some (f l[k]) := by
  simp [h]

end Go.Proofs.YtbadeopjfmafcaaDoor

namespace Go.Proofs.YtbadeopjfmafcaaDoor
open Go.RowKit

theorem ret_int {k : IntKind} {a b : Int} (h : a = b) : Ending.returned (.int k a) = .returned (.int k b) := by rw [h]
theorem ret_bool {a b : Bool} (h : a = b) : Ending.returned (.bool a) = .returned (.bool b) := by rw [h]

theorem tmod_nonneg4 (k : Int) : 0 ≤ k.tmod 4 + 4 ∧ k.tmod 4 + 4 < 8 ∧ (k.tmod 4 + 4) % 4 = k % 4 := by
  rcases Int.le_total 0 k with h | h
  · rw [Int.tmod_eq_emod_of_nonneg h]; omega
  · obtain ⟨m, rfl⟩ : ∃ m : Int, k = -m := ⟨-k, by omega⟩
    rw [Int.neg_tmod, Int.tmod_eq_emod_of_nonneg (by omega)]; omega

theorem circle4_eq (k : Int) : (wrap64 (k.tmod 4 + 4)).tmod 4 = k % 4 := by
  have h := tmod_nonneg4 k
  rw [IntWalk.wrap64_in _ (by omega), Int.tmod_eq_emod_of_nonneg h.1]
  exact h.2.2

/-- The index of the cell (x, y), modulo 4. -/
def cellI (x y : Int) : Int := 4 * (y % 4) + x % 4
theorem cellI_bd (x y : Int) : 0 ≤ cellI x y ∧ cellI x y < 16 := by unfold cellI; omega

/-- The index of the opposite cell. -/
def oppI (k : Int) : Int := cellI (-(k % 4)) (-(k / 4))
/-! ### CoverValid -/
theorem oppI_bd (k : Int) : 0 ≤ oppI k ∧ oppI k < 16 := cellI_bd _ _
def oppN (k : Nat) : Nat := 4 * ((4 - k / 4) % 4) + (4 - k % 4) % 4
theorem oppI_nat (k : Nat) (h : k < 16) : oppI (k : Int) = (oppN k : Int) := by unfold oppI cellI oppN; omega
theorem oppN_lt (k : Nat) : oppN k < 16 := by unfold oppN; omega

/-- A coverage: each cell is set as its opposite is. -/
def covV (c : List Bool) : Bool := c.length == 16 && (List.range 16).all fun k => c.getD (oppN k) false == c.getD k false

theorem all_range_succ (p : Nat → Bool) (k : Nat) : (List.range (k + 1)).all p = ((List.range k).all p && p k) := by
  rw [List.range_succ, List.all_append]; simp

theorem covV_no {c : List Bool} (k : Nat) (hk : k < 16) (h : (c.getD (oppN k) false == c.getD k false) = false) : covV c = false := by
  unfold covV
  rw [Bool.and_eq_false_iff]
  right
  rw [List.all_eq_false]
  exact ⟨k, List.mem_range.2 hk, by simpa using h⟩

end Go.Proofs.YtbadeopjfmafcaaDoor

namespace Go.Proofs.YtbadeopjfmafcaaDoor
open Go.RowKit

theorem quiet_left {P : Program} {f : FuncId} {args : Array Value} {w : World} {n : Nat} {v : Value}
    (h : Calls P f args (w.drewN n) fun e w' => e = .returned v ∧ w.drewN n = w') : Calls P f args (w.drewN n) fun e w'' => e = .returned v ∧ ∃ m, w'' = w.drewN m :=
  h.mono fun _ _ ⟨he, hm⟩ => ⟨he, n, hm.symm⟩
theorem below_drewN {B : Nat} {a w : World} (h : Below B a w) (n : Nat) : Below B a (w.drewN n) := ⟨h.os, h.tape, h.output, h.size, h.block⟩

theorem l21Cells_any (w : World) : Calls Tryd.prog 74 #[] w fun e w' => e = .returned (.int .i64 16) ∧ w = w' := by
  go_enter Tryd.func74, Tryd.ntmps74
  go_wp2
  go_ret
  exact ⟨rfl, rfl⟩

theorem tmod_cases (n m : Int) (hm : 0 < m) : (0 ≤ n.tmod m ∧ n.tmod m = n % m) ∨ (n.tmod m < 0 ∧ n.tmod m + m = n % m) := by
  rcases Int.le_total 0 n with h' | h'
  · rw [Int.tmod_eq_emod_of_nonneg h']
    exact .inl ⟨Int.emod_nonneg n (by omega), rfl⟩
  · obtain ⟨k, rfl⟩ : ∃ k : Int, n = -k := ⟨-n, by omega⟩
    rw [Int.neg_tmod, Int.tmod_eq_emod_of_nonneg (by omega), Int.neg_emod]
    have h1 := Int.emod_nonneg k (b := m) (by omega)
    split
    · rename_i hd
      have := Int.emod_eq_zero_of_dvd hd
      omega
    · rename_i hd
      have : k % m ≠ 0 := fun h => hd (Int.dvd_of_emod_eq_zero h)
      have h2 := Int.emod_lt_of_pos k hm
      omega

/-! ### The text of a coverage -/
def covLine (c : List Bool) (k : Nat) : List UInt8 := (if c.getD k false then 35 else 46) :: (if k % 4 = 3 then [10] else [])
def covBytes (c : List Bool) (n : Nat) : List UInt8 := (List.range n).flatMap (covLine c)
theorem covBytes_succ (c : List Bool) (k : Nat) : covBytes c (k + 1) = covBytes c k ++ covLine c k := by
  unfold covBytes; rw [List.range_succ, List.flatMap_append]; simp
theorem covBytes_len (c : List Bool) (k : Nat) : (covBytes c k).length ≤ 2 * k := by
  induction k with
  | zero => simp [covBytes]
  | succ k ih => rw [covBytes_succ, List.length_append]; unfold covLine; by_cases h : k % 4 = 3 <;> simp [h] <;> omega
/-- The text of a list: empty if it is no coverage. -/
def covText (c : List Bool) : List UInt8 := if covV c then covBytes c 16 else []

theorem covV_len {c : List Bool} (h : covV c = true) : c.length = 16 := by
  unfold covV at h; simp at h; exact h.1

theorem str_app (l m : List UInt8) : (ByteArray.mk l.toArray ++ ByteArray.mk m.toArray : ByteArray) = ⟨(l ++ m).toArray⟩ := by
  apply ByteArray.ext; simp

end Go.Proofs.YtbadeopjfmafcaaDoor

namespace Go.Proofs.YtbadeopjfmafcaaDoor
open Go.RowKit

/-- Block g is just the cells xs of element type T, none of them frozen. -/
def Row (w : World) (g : Nat) (T : TypeId) (xs : List Value) : Prop := w.heap[g]? = some (.cells xs.toArray T (0, 0))

section
variable {w w' : World} {g : Nat} {T : TypeId} {xs : List Value}
theorem Row.lt (h : Row w g T xs) : g < w.heap.size := by
  rcases Nat.lt_or_ge g w.heap.size with hlt | hge
  · exact hlt
  · unfold Row at h; rw [Array.getElem?_eq_none hge] at h; cases h
theorem Row.cell (h : Row w g T xs) (i : Nat) : w.cell? ⟨g, i, none⟩ = xs[i]? := by
  rw [cell_of_row w g i _ T (0, 0) h]; simp
theorem Row.frozen (h : Row w g T xs) (i : Nat) : w.frozen? ⟨g, i, none⟩ = false := by
  unfold Row at h
  simp [World.frozen?, h]
theorem Row.new (w : World) (T : TypeId) (xs : List Value) : Row (w.alloc (.cells xs.toArray T)) w.heap.size T xs := heap_alloc_new w _
theorem Row.drew (h : Row w g T xs) : Row w.drew g T xs := h
theorem Row.drewN (h : Row w g T xs) (n : Nat) : Row (w.drewN n) g T xs := h
theorem Row.alloc (h : Row w g T xs) (o : Obj) : Row (w.alloc o) g T xs := (Below.heap_alloc w o g h.lt).trans h
theorem Row.set_ (h : Row w g T xs) (i : Nat) (u : Value) : Row (w.setCell ⟨g, i, none⟩ u) g T (xs.set i u) := by
  unfold Row at h ⊢
  simp [World.setCell, Array.getElem?_modify, h]
theorem Row.far (h : Row w g T xs) {p : Addr} (hp : g ≠ p.block) (u : Value) : Row (w.setCell p u) g T xs := (Below.heap_setCell w p u g hp).trans h
theorem Row.below {B : Nat} (h : Row w g T xs) (hb : Below B w w') (hg : g < B) : Row w' g T xs := (hb.block g hg).trans h
/-- Over a call that leaves what was there. -/
theorem Row.kept (h : Row w g T xs) (hb : Below w.heap.size w w') : Row w' g T xs := h.below hb h.lt
theorem Row.grown {row : Option Nat} (h : Row w g T xs) (hb : w.grownBy w' row) (hg : some g ≠ row) : Row w' g T xs := (hb.block g h.lt hg).trans h
theorem Row.rd (h : Row w g T xs) : Rd w w.heap.size (some ⟨g, 0, none⟩) xs := fun i u hu => ⟨g, 0, rfl, h.lt, by rw [Nat.zero_add, h.cell]; exact hu⟩
theorem Row.ne_ {g' : Nat} {T' : TypeId} {ys : List Value} (h : Row w g T xs) (h' : Row w g' T' ys) (hne : T ≠ T') : g ≠ g' := by
  rintro rfl
  unfold Row at h h'
  rw [h] at h'
  injection h' with h'
  injection h' with _ ht
  exact hne ht
theorem Row.own (h : Row w g T xs) {base size n : Nat} (hb : base ≤ g) (hs : xs.length = n * size) (hm : n ≤ maxLen) : w.ownsRow base T size (.slice (some ⟨g, 0, none⟩) n n) n xs :=
  ⟨hs, .inr ⟨g, n, xs.toArray, rfl, hb, h, Nat.le_refl _, hm, by simpa using hs, by simp [← hs]⟩⟩
end

theorem madeCells_one (z : Value) (n : Nat) : madeCells #[z] n = (List.replicate n z).toArray := by
  apply Array.ext
  · simp [size_madeCells]
  · intro i h1 h2
    simp [madeCells]
    have : i % 1 = 0 := Nat.mod_one i
    simp [this]
theorem madeCells_two (z : Value) (n : Nat) : madeCells #[z, z] n = (List.replicate n z).toArray := by
  apply Array.ext
  · simp [size_madeCells]
  · intro i h1 h2
    simp [madeCells]
    have : i % 2 = 0 ∨ i % 2 = 1 := by omega
    rcases this with h | h <;> simp [h]

/-- 'make([]T, n)', elements of one cell. -/
theorem run_make1 {P : Program} (t e : TypeId) (z : Value) (bytes : Nat) (ht : P.underlying t = some (.slice e)) (hi : (P.info? e).map (fun i => (i.zero, i.size, i.bytes)) = some (some z, 1, bytes)) (hz : z.cells = #[z])
    (n : Nat) (hb : bytes * n ≤ 281474976710656) (h63 : n ≤ 9223372036854775807) (w : World) :
    (Instr.makeSlice t (.int .i64 (n : Int)) (.int .i64 (n : Int))).run P w = .ok (.slice (some ⟨w.heap.size, 0, none⟩) n n) (w.alloc (.cells (List.replicate n z).toArray e)) := by
  obtain ⟨i, hi, h1, h2, h3⟩ := info_parts hi
  have hb' : (i.bytes : Int) * (n : Int) ≤ 281474976710656 := by
    rw [h3]; have h : ((bytes * n : Nat) : Int) ≤ 281474976710656 := by omega
    rwa [Int.natCast_mul] at h
  have hr := run_make (P := P) w t e i z ht hi h1 .i64 .i64 n n (by omega) (by omega) hb' (by omega)
  simp only [Int.toNat_natCast] at hr
  rw [hr, h2, hz, Nat.mul_one, madeCells_one]
/-- 'make([]T, n)', elements of two like cells. -/
theorem run_make2 {P : Program} (t e : TypeId) (z zz : Value) (bytes : Nat) (ht : P.underlying t = some (.slice e)) (hi : (P.info? e).map (fun i => (i.zero, i.size, i.bytes)) = some (some zz, 2, bytes)) (hz : zz.cells = #[z, z])
    (n : Nat) (hb : bytes * n ≤ 281474976710656) (h63 : n ≤ 9223372036854775807) (w : World) :
    (Instr.makeSlice t (.int .i64 (n : Int)) (.int .i64 (n : Int))).run P w = .ok (.slice (some ⟨w.heap.size, 0, none⟩) n n) (w.alloc (.cells (List.replicate (n * 2) z).toArray e)) := by
  obtain ⟨i, hi, h1, h2, h3⟩ := info_parts hi
  have hb' : (i.bytes : Int) * (n : Int) ≤ 281474976710656 := by
    rw [h3]; have h : ((bytes * n : Nat) : Int) ≤ 281474976710656 := by omega
    rwa [Int.natCast_mul] at h
  have hr := run_make (P := P) w t e i zz ht hi h1 .i64 .i64 n n (by omega) (by omega) hb' (by omega)
  simp only [Int.toNat_natCast] at hr
  rw [hr, h2, hz, madeCells_two]
end Go.Proofs.YtbadeopjfmafcaaDoor

namespace Go.Proofs.YtbadeopjfmafcaaDoor
open Go.RowKit

/-- A copy of which k elements are done. -/
def part {α : Type} (z : α) (l : List α) (k : Nat) : List α := l.take k ++ List.replicate (l.length - k) z
theorem part_len {α : Type} (z : α) (l : List α) (k : Nat) (h : k ≤ l.length) : (part z l k).length = l.length := by
  simp [part]; omega
theorem part_get {α : Type} (z : α) (l : List α) (k : Nat) (h : k < l.length) : (part z l k)[k]? = some z := by
  unfold part
  rw [List.getElem?_append_right (by simp; omega)]
  simp [List.getElem?_replicate]; omega
theorem part_succ {α : Type} (z : α) (l : List α) (k : Nat) (x : α) (hx : l[k]? = some x) : (part z l k).set k x = part z l (k + 1) := by
  have hk : k < l.length := (List.getElem?_eq_some_iff.1 hx).1
  have hx' : l[k] = x := (List.getElem?_eq_some_iff.1 hx).2
  unfold part
  rw [List.set_append_right _ _ (by simp; omega), List.length_take, Nat.min_eq_left (by omega), Nat.sub_self]
  rw [List.take_succ_eq_append_getElem hk, hx', List.append_assoc]
  congr 1
  rw [show l.length - k = (l.length - (k + 1)) + 1 by omega, List.replicate_succ]
  simp
theorem part_all {α : Type} (z : α) (l : List α) : part z l l.length = l := by simp [part]

end Go.Proofs.YtbadeopjfmafcaaDoor
