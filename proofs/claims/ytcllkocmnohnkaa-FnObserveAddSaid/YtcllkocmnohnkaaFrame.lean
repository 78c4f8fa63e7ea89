/- The row's frame: arguments that are slices, opened to what the walks ask of them. -/
import Derived.Test.YtcllkocmnohnkaaMem
import Derived.ProofKit
import Derived.OpenShut
import Derived.ShutString
import Derived.ChangeOld
import Derived.Below
import Derived.Deep.Slices
import Derived.Deep.Fields
import Derived.Deep.Grids
namespace Go.Proofs.Ytcllkocmnohnkaa
open Go.ChangeShapes Go.WideShapes Go.ChangeAt Go.RowKit Go.Deep

section
variable {H : Type} {enc : TypeId × Value → H} {P : Program} {w : World} {d : DataW H} {p : List MemPlace}

theorem rd_of_cells {a : Addr} {xs : List Value} (h : ∀ i u, xs[i]? = some u → w.cell? (a.add i) = some u) : Rd w w.heap.size (some a) xs := fun i u hu => by
  have hlt : i < xs.length := (List.getElem?_eq_some_iff.1 hu).1
  have hc0 := h 0 xs[0] (by simp)
  have hc := h i u hu
  obtain ⟨b, off, spot⟩ := a
  have hs := World.cell?_spot hc0
  have hsp : spot = none := by simpa [Addr.add] using hs
  subst hsp
  have hb := block_lt_of_cell hc0
  refine ⟨b, off, rfl, by simpa [Addr.add] using hb, ?_⟩
  rw [← hc]; congr 1; unfold Addr.add; split <;> simp_all

theorem open_bools_rd {t e : TypeId} (ht : P.underlying t = some (.slice e)) (he : P.underlying e = some .bool) (hc : P.cellsOf e = 1) {A : Option Addr} {n cap : Nat}
    (h : DataW.Trod enc P w 0 (fun _ => true) true t (.slice A n cap) d p) : n ≤ 9223372036854775807 ∧ ∃ c : List Bool, c.length = n ∧ Rd w w.heap.size A (c.map Value.bool) := by
  obtain ⟨fuel, hf⟩ := h
  rcases open_bools ht he hc hf with ⟨hcs, _⟩ | ⟨a, len, c, B, hcs, _, hl, hm, _, hcell⟩
  · simp [Value.cells] at hcs
    obtain ⟨rfl, rfl, rfl⟩ := hcs
    exact ⟨by omega, [], rfl, Rd.nil _ _ _⟩
  · simp [Value.cells] at hcs
    obtain ⟨rfl, rfl, rfl⟩ := hcs
    refine ⟨by unfold maxLen at hm; omega, (List.range n).map B, by simp, rd_of_cells fun i u hu => ?_⟩
    simp only [List.map_map, List.getElem?_map] at hu
    rcases Nat.lt_or_ge i n with hi | hi
    · rw [List.getElem?_range hi] at hu
      simp at hu
      subst hu
      exact hcell i (by omega)
    · simp [hi] at hu

/-- The length does not exceed the capacity. -/
theorem open_ints_cap {t e : TypeId} {k : IntKind} (ht : P.underlying t = some (.slice e)) (he : P.underlying e = some (.int k)) (hc : P.cellsOf e = 1) {A : Option Addr} {n cap : Nat}
    (h : DataW.Trod enc P w 0 (fun _ => true) true t (.slice A n cap) d p) : n ≤ cap := by
  obtain ⟨fuel, hf⟩ := h
  rcases open_ints ht he hc hf with ⟨hcs, _⟩ | ⟨a, len, c, zs, hcs, _, hl, hm, hz, _, hcell, hwz⟩
  · simp [Value.cells] at hcs
    obtain ⟨rfl, rfl, rfl⟩ := hcs
    exact Nat.le_refl _
  · simp [Value.cells] at hcs
    obtain ⟨rfl, rfl, rfl⟩ := hcs
    omega
/-- The numbers of a kind's range. -/
theorem open_ints_rd {t e : TypeId} {k : IntKind} (ht : P.underlying t = some (.slice e)) (he : P.underlying e = some (.int k)) (hc : P.cellsOf e = 1) {A : Option Addr} {n cap : Nat}
    (h : DataW.Trod enc P w 0 (fun _ => true) true t (.slice A n cap) d p) : n ≤ 9223372036854775807 ∧ ∃ c : List Int, c.length = n ∧ Rd w w.heap.size A (c.map (Value.int k)) ∧ ∀ x ∈ c, (Lit.int k x).wf = true := by
  obtain ⟨fuel, hf⟩ := h
  rcases open_ints ht he hc hf with ⟨hcs, _⟩ | ⟨a, len, c, zs, hcs, _, hl, hm, hz, _, hcell, hwz⟩
  · simp [Value.cells] at hcs
    obtain ⟨rfl, rfl, rfl⟩ := hcs
    exact ⟨by omega, [], rfl, Rd.nil _ _ _, by simp⟩
  · simp [Value.cells] at hcs
    obtain ⟨rfl, rfl, rfl⟩ := hcs
    simp at hz
    refine ⟨by unfold maxLen at hm; omega, zs.take n, by simp; omega, rd_of_cells fun i u hu => ?_, fun x hx => hwz x (List.mem_of_mem_take hx)⟩
    simp only [List.getElem?_map, List.getElem?_take] at hu
    split at hu
    · rename_i hi
      have hlt : i < zs.length := by omega
      rw [hcell i hlt]
      simpa [List.getD, hlt] using hu
    · simp at hu

/-- A pair of integers as two cells. -/
def pairCells (g : Int × Int) : List Value := [.int .i64 g.1, .int .i64 g.2]
theorem pairCells_len (gs : List (Int × Int)) : (gs.flatMap pairCells).length = gs.length * 2 := by
  induction gs with
  | nil => rfl
  | cons g r ih => simp [List.flatMap_cons, pairCells] at ih ⊢; omega
theorem pairCells_get (gs : List (Int × Int)) (i : Nat) (g : Int × Int) (h : gs[i]? = some g) : (gs.flatMap pairCells)[i * 2]? = some (.int .i64 g.1) ∧ (gs.flatMap pairCells)[i * 2 + 1]? = some (.int .i64 g.2) := by
  induction gs generalizing i with
  | nil => simp at h
  | cons a r ih =>
    cases i with
    | zero => simp at h; subst h; exact ⟨rfl, rfl⟩
    | succ i =>
      have := ih i (by simpa using h)
      rw [show (i + 1) * 2 = i * 2 + 2 by omega]
      simpa [List.flatMap_cons, pairCells] using this

theorem choose_fn {α : Type} [Inhabited α] {p : Nat → α → Prop} {n : Nat} (h : ∀ i, i < n → ∃ x, p i x) : ∃ f : Nat → α, ∀ i, i < n → p i (f i) :=
  ⟨fun i => if hi : i < n then (h i hi).choose else default, fun i hi => by simp only [dif_pos hi]; exact (h i hi).choose_spec⟩

theorem open_pairs_rd {t e te : TypeId} {f0 f1 : Field} (ht : P.underlying t = some (.slice e)) (he : P.underlying e = some (.struct #[f0, f1])) (hone : oneCellFields P #[f0, f1] = true) (hC : P.cellsOf e = 2)
    (ht0 : f0.type = te) (ht1 : f1.type = te) (hte : P.underlying te = some (.int .i64)) {A : Option Addr} {n cap : Nat}
    (h : DataW.Trod enc P w 0 (fun _ => true) true t (.slice A n cap) d p) :
    n ≤ 9223372036854775807 ∧ ∃ c : List (Int × Int), c.length = n ∧ Rd w w.heap.size A (c.flatMap pairCells) ∧ ∀ x ∈ c, (Lit.int .i64 x.1).wf = true ∧ (Lit.int .i64 x.2).wf = true := by
  obtain ⟨fuel, hf⟩ := h
  rcases open_slice ht hf with ⟨hcs, _⟩ | ⟨a, len, cp, m, nn, D, Pl, hcs, _, hl, hm, hmm, _, hi⟩
  · simp [Value.cells] at hcs
    obtain ⟨rfl, rfl, rfl⟩ := hcs
    exact ⟨by omega, [], rfl, Rd.nil _ _ _, by simp⟩
  · simp [Value.cells] at hcs
    obtain ⟨rfl, rfl, rfl⟩ := hcs
    simp at hmm
    have each : ∀ i, i < n → ∃ g : Int × Int, w.cell? (a.add (i * 2)) = some (.int .i64 g.1) ∧ w.cell? (a.add (i * 2 + 1)) = some (.int .i64 g.2) ∧ (Lit.int .i64 g.1).wf = true ∧ (Lit.int .i64 g.2).wf = true := by
      intro i hin
      obtain ⟨cs', hc', ht'⟩ := hi i (by omega)
      rw [hC] at hc'
      obtain ⟨_, hcl, hat⟩ := World.cells?_some hc'
      obtain ⟨ys, n', _, _, _, _, hg⟩ := DataW.trod_struct he ht'
      match cs', hcl with
      | [c0, c1], _ =>
        obtain ⟨o0, k0⟩ := hone_of hone 0 f0 rfl
        obtain ⟨o1, k1⟩ := hone_of hone 1 f1 rfl
        have g0 := hg 0 f0 rfl
        have g1 := hg 1 f1 rfl
        rw [o0, k0, ht0] at g0
        rw [o1, k1, ht1] at g1
        have l2 : ys.length = 2 := by simpa using (by assumption : ys.length = (#[f0, f1] : Array Field).size)
        match ys, l2 with
        | [y0, y1], _ =>
          simp at g0 g1
          obtain ⟨x0, e0, _, w0⟩ := DataW.trod_int hte g0
          obtain ⟨x1, e1, _, w1⟩ := DataW.trod_int hte g1
          simp at e0 e1
          subst e0 e1
          have h0 := hat 0 (by omega)
          have h1 := hat 1 (by omega)
          refine ⟨(x0, x1), ?_, ?_, w0, w1⟩
          · simpa [Addr.add] using h0
          · rw [← Go.Deep.add_add]; exact h1
    obtain ⟨f, hf'⟩ := choose_fn each
    refine ⟨by unfold maxLen at hm; omega, (List.range n).map f, by simp, rd_of_cells fun i u hu => ?_, ?_⟩
    · have hlt : i < n * 2 := by
        have := (List.getElem?_eq_some_iff.1 hu).1
        rw [pairCells_len] at this
        simpa using this
      have hg : ((List.range n).map f)[i / 2]? = some (f (i / 2)) := by
        rw [List.getElem?_map, List.getElem?_range (by omega)]; rfl
      obtain ⟨p0, p1⟩ := pairCells_get _ _ _ hg
      obtain ⟨q0, q1, _, _⟩ := hf' (i / 2) (by omega)
      rcases (by omega : i = i / 2 * 2 ∨ i = i / 2 * 2 + 1) with h2 | h2
      · have e2 : i / 2 * 2 = i := h2.symm
        rw [e2] at p0 q0
        rw [p0] at hu; rw [q0]; exact hu
      · have e2 : i / 2 * 2 + 1 = i := h2.symm
        rw [e2] at p1 q1
        rw [p1] at hu; rw [q1]; exact hu
    · intro x hx
      obtain ⟨i, hi', rfl⟩ := List.mem_map.1 hx
      have := hf' i (by simpa using hi')
      exact ⟨this.2.2.1, this.2.2.2⟩
end
end Go.Proofs.Ytcllkocmnohnkaa
