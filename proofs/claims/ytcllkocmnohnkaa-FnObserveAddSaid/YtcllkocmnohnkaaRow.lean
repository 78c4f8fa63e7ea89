/- A row of cells that the call itself made: one block, known whole. -/
import Derived.Test.YtcllkocmnohnkaaMem
import Derived.Laws.MakeOwn
import Derived.OwnWalk
namespace Go.Proofs.Ytcllkocmnohnkaa
open Go.RowKit

/-- Block g is just the cells xs of element type T, none of them frozen. -/
def Row (w : World) (g : Nat) (T : TypeId) (xs : List Value) : Prop := w.heap[g]? = some (.cells xs.toArray T (0, 0))

section
variable {w w' : World} {g : Nat} {T : TypeId} {xs : List Value}
theorem Row.lt (h : Row w g T xs) : g < w.heap.size := by
  rcases Nat.lt_or_ge g w.heap.size with hlt | hge
  · exact hlt
  · unfold Row at h; rw [Array.getElem?_eq_none hge] at h; cases h
theorem Row.cell (h : Row w g T xs) (i : Nat) : w.cell? ⟨g, i, none⟩ = xs[i]? := by
  rw [cell_of_row w g i _ T (0, 0) h]; simp
theorem Row.frozen (h : Row w g T xs) (i : Nat) : w.frozen? ⟨g, i, none⟩ = false := by
  unfold Row at h
  simp [World.frozen?, h]
theorem Row.new (w : World) (T : TypeId) (xs : List Value) : Row (w.alloc (.cells xs.toArray T)) w.heap.size T xs := heap_alloc_new w _
theorem Row.drew (h : Row w g T xs) : Row w.drew g T xs := h
theorem Row.drewN (h : Row w g T xs) (n : Nat) : Row (w.drewN n) g T xs := h
theorem Row.alloc (h : Row w g T xs) (o : Obj) : Row (w.alloc o) g T xs := (Below.heap_alloc w o g h.lt).trans h
theorem Row.set_ (h : Row w g T xs) (i : Nat) (u : Value) : Row (w.setCell ⟨g, i, none⟩ u) g T (xs.set i u) := by
  unfold Row at h ⊢
  simp [World.setCell, Array.getElem?_modify, h]
theorem Row.far (h : Row w g T xs) {p : Addr} (hp : g ≠ p.block) (u : Value) : Row (w.setCell p u) g T xs := (Below.heap_setCell w p u g hp).trans h
theorem Row.below {B : Nat} (h : Row w g T xs) (hb : Below B w w') (hg : g < B) : Row w' g T xs := (hb.block g hg).trans h
/-- Over a call that leaves what was there. -/
theorem Row.kept (h : Row w g T xs) (hb : Below w.heap.size w w') : Row w' g T xs := h.below hb h.lt
theorem Row.grown {row : Option Nat} (h : Row w g T xs) (hb : w.grownBy w' row) (hg : some g ≠ row) : Row w' g T xs := (hb.block g h.lt hg).trans h
theorem Row.rd (h : Row w g T xs) : Rd w w.heap.size (some ⟨g, 0, none⟩) xs := fun i u hu => ⟨g, 0, rfl, h.lt, by rw [Nat.zero_add, h.cell]; exact hu⟩
theorem Row.ne_ {g' : Nat} {T' : TypeId} {ys : List Value} (h : Row w g T xs) (h' : Row w g' T' ys) (hne : T ≠ T') : g ≠ g' := by
  rintro rfl
  unfold Row at h h'
  rw [h] at h'
  injection h' with h'
  injection h' with _ ht
  exact hne ht
theorem Row.own (h : Row w g T xs) {base size n : Nat} (hb : base ≤ g) (hs : xs.length = n * size) (hm : n ≤ maxLen) : w.ownsRow base T size (.slice (some ⟨g, 0, none⟩) n n) n xs :=
  ⟨hs, .inr ⟨g, n, xs.toArray, rfl, hb, h, Nat.le_refl _, hm, by simpa using hs, by simp [← hs]⟩⟩
end

theorem madeCells_one (z : Value) (n : Nat) : madeCells #[z] n = (List.replicate n z).toArray := by
  apply Array.ext
  · simp [size_madeCells]
  · intro i h1 h2
    simp [madeCells]
    have : i % 1 = 0 := Nat.mod_one i
    simp [this]
theorem madeCells_two (z : Value) (n : Nat) : madeCells #[z, z] n = (List.replicate n z).toArray := by
  apply Array.ext
  · simp [size_madeCells]
  · intro i h1 h2
    simp [madeCells]
    have : i % 2 = 0 ∨ i % 2 = 1 := by omega
    rcases this with h | h <;> simp [h]

/-- 'make([]T, n)', elements of one cell. -/
theorem run_make1 {P : Program} (t e : TypeId) (z : Value) (bytes : Nat) (ht : P.underlying t = some (.slice e)) (hi : (P.info? e).map (fun i => (i.zero, i.size, i.bytes)) = some (some z, 1, bytes)) (hz : z.cells = #[z])
    (n : Nat) (hb : bytes * n ≤ 281474976710656) (h63 : n ≤ 9223372036854775807) (w : World) :
    (Instr.makeSlice t (.int .i64 (n : Int)) (.int .i64 (n : Int))).run P w = .ok (.slice (some ⟨w.heap.size, 0, none⟩) n n) (w.alloc (.cells (List.replicate n z).toArray e)) := by
  obtain ⟨i, hi, h1, h2, h3⟩ := info_parts hi
  have hb' : (i.bytes : Int) * (n : Int) ≤ 281474976710656 := by
    rw [h3]; have h : ((bytes * n : Nat) : Int) ≤ 281474976710656 := by omega
    rwa [Int.natCast_mul] at h
  have hr := run_make (P := P) w t e i z ht hi h1 .i64 .i64 n n (by omega) (by omega) hb' (by omega)
  simp only [Int.toNat_natCast] at hr
  rw [hr, h2, hz, Nat.mul_one, madeCells_one]
/-- 'make([]T, n)', elements of two like cells. -/
theorem run_make2 {P : Program} (t e : TypeId) (z zz : Value) (bytes : Nat) (ht : P.underlying t = some (.slice e)) (hi : (P.info? e).map (fun i => (i.zero, i.size, i.bytes)) = some (some zz, 2, bytes)) (hz : zz.cells = #[z, z])
    (n : Nat) (hb : bytes * n ≤ 281474976710656) (h63 : n ≤ 9223372036854775807) (w : World) :
    (Instr.makeSlice t (.int .i64 (n : Int)) (.int .i64 (n : Int))).run P w = .ok (.slice (some ⟨w.heap.size, 0, none⟩) n n) (w.alloc (.cells (List.replicate (n * 2) z).toArray e)) := by
  obtain ⟨i, hi, h1, h2, h3⟩ := info_parts hi
  have hb' : (i.bytes : Int) * (n : Int) ≤ 281474976710656 := by
    rw [h3]; have h : ((bytes * n : Nat) : Int) ≤ 281474976710656 := by omega
    rwa [Int.natCast_mul] at h
  have hr := run_make (P := P) w t e i zz ht hi h1 .i64 .i64 n n (by omega) (by omega) hb' (by omega)
  simp only [Int.toNat_natCast] at hr
  rw [hr, h2, hz, madeCells_two]
end Go.Proofs.Ytcllkocmnohnkaa
