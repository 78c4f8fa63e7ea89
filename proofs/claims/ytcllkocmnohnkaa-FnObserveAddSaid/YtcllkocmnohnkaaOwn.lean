/- Small laws on rows that a call owns, on slices that read as lists, and on the units. -/
import Derived.Test.YtcllkocmnohnkaaInts
import Derived.Test.YtcllkocmnohnkaaBase
import Derived.Maps.AppendAt
import Derived.Deep.Onto
namespace Go.Proofs.Ytcllkocmnohnkaa
open Go.RowKit

theorem own_form {w : World} {base : Nat} {T : TypeId} {size n : Nat} {v : Value} {xs : List Value} (h : w.ownsRow base T size v n xs) : ∃ A c, v = .slice A n c := by
  rcases h.2 with ⟨rfl, rfl⟩ | ⟨g, cap, cur, rfl, _⟩
  · exact ⟨none, 0, rfl⟩
  · exact ⟨_, _, rfl⟩
theorem own_over {W W' : World} {base : Nat} {T : TypeId} {size n : Nat} {v : Value} {xs : List Value} {r : Option Nat} (h : W.ownsRow base T size v n xs) (hg : W.grownBy W' r) (hne : ∀ j, v.ownBlock = some j → r ≠ some j) : W'.ownsRow base T size v n xs := by
  refine h.kept hg ?_
  rcases h.2 with ⟨rfl, _⟩ | ⟨g, cap, cur, rfl, _⟩
  · exact .inl rfl
  · exact .inr fun e => hne g rfl e.symm
theorem pairs_int (gs : List (Int × Int)) : ∀ u ∈ gs.flatMap pairCells, ∃ z, u = .int .i64 z := by
  intro u hu
  obtain ⟨g, _, hu⟩ := List.mem_flatMap.1 hu
  simp only [pairCells, List.mem_cons, List.not_mem_nil, or_false] at hu
  rcases hu with rfl | rfl <;> exact ⟨_, rfl⟩
theorem ints_int (q : List Int) : ∀ u ∈ q.map (Value.int .i64), ∃ z, u = .int .i64 z := by
  intro u hu
  obtain ⟨g, _, rfl⟩ := List.mem_map.1 hu
  exact ⟨_, rfl⟩
theorem Rd.ext {w w' : World} {A : Option Addr} {xs : List Value} (h : Rd w w.heap.size A xs) (b : Below w.heap.size w w') : Rd w' w'.heap.size A xs := (h.below b).more b.size
theorem getD_of {gs : List (Int × Int)} {k : Nat} (h : k < gs.length) : gs[k]? = some (gs.getD k (0, 0)) := by
  rw [List.getD_eq_getElem?_getD, List.getElem?_eq_getElem h]; rfl
theorem intInfo : (Try.prog.info? 3).map (fun i => (i.zero, i.size, i.bytes)) = some (some (.int .i64 0), 1, 8) := by kernel_rfl
/-- A number times i to the power of k. -/
def turnAt (g : Int × Int) (k : Int) : Int × Int := (g.1 * (unit k).1 - g.2 * (unit k).2, g.1 * (unit k).2 + g.2 * (unit k).1)
theorem unit_bd (k : Int) : GB (unit k).1 ∧ GB (unit k).2 := by
  unfold GB; rcases unit_cases k with ⟨_, h⟩ | ⟨_, h⟩ | ⟨_, h⟩ | ⟨_, h⟩ <;> rw [h] <;> simp
theorem gaussInfo : (Try.prog.info? 49).map (fun i => (i.zero, i.size, i.bytes)) = some (some (.agg #[.int .i64 0, .int .i64 0]), 2, 16) := by kernel_rfl
/-- A slice of pairs, loaded at an index within. -/
theorem ld_pair {w : World} {A : Option Addr} {gs : List (Int × Int)} (hr : Rd w w.heap.size A (gs.flatMap pairCells)) {k : Nat} (hk : k < gs.length) :
    ∃ b off, A = some ⟨b, off, none⟩ ∧ ∀ w', Below w.heap.size w w' → (Instr.loadAt 49 (.pointer (some ⟨b, off + k * 2, none⟩))).run Try.prog w' = .ok (.agg #[.int .i64 (gs.getD k (0, 0)).1, .int .i64 (gs.getD k (0, 0)).2]) w' := by
  obtain ⟨b, off, rfl, hb, h1, h2⟩ := rd_pair hr (getD_of hk)
  exact ⟨b, off, rfl, fun w' h => ld_two (by kernel_rfl) (by kernel_rfl) ((h.cell (p := ⟨b, off + k * 2, none⟩) hb).trans h1) ((h.cell (p := ⟨b, off + k * 2 + 1, none⟩) hb).trans h2)⟩
/-- A number of a slice of numbers, loaded at an index within. -/
theorem ld_int {w : World} {A : Option Addr} {q : List Int} (hr : Rd w w.heap.size A (q.map (Value.int .i64))) {k : Nat} (hk : k < q.length) :
    ∃ b off, A = some ⟨b, off, none⟩ ∧ ∀ w', Below w.heap.size w w' → (Instr.loadAt 3 (.pointer (some ⟨b, off + k * 1, none⟩))).run Try.prog w' = .ok (.int .i64 (q.getD k 0)) w' := by
  obtain ⟨b, off, rfl, hb, hc⟩ := hr k (.int .i64 (q.getD k 0)) (by rw [List.getElem?_map, List.getD_eq_getElem?_getD, List.getElem?_eq_getElem hk]; rfl)
  exact ⟨b, off, rfl, fun w' h => ld_one (by kernel_rfl) (by rw [Nat.mul_one]; exact (h.cell (p := ⟨b, off + k, none⟩) hb).trans hc)⟩
theorem unit_congr {a b : Int} (h : (a - b) % 4 = 0) : unit a = unit b := by
  rcases unit_cases a with ⟨h1, e1⟩ | ⟨h1, e1⟩ | ⟨h1, e1⟩ | ⟨h1, e1⟩ <;> rcases unit_cases b with ⟨h2, e2⟩ | ⟨h2, e2⟩ | ⟨h2, e2⟩ | ⟨h2, e2⟩ <;> first | (rw [e1, e2]; done) | (exfalso; omega)
/-- Bytes that can be read. -/
def BytesOk (bs : List Int) : Prop := ∀ x ∈ bs, 0 ≤ x ∧ x ≤ 255
theorem bytesOk_of {bs : List Int} (h : ∀ x ∈ bs, (Lit.int .u8 x).wf = true) : BytesOk bs := fun x hx => by
  have := h x hx
  simp [Lit.wf, IntKind.min, IntKind.max, IntKind.bits, IntKind.signed] at this
  omega
theorem bools_get {cs : List Bool} {k : Nat} (h : k < cs.length) : (cs.map Value.bool)[k]? = some (.bool (cs.getD k false)) := by
  simp [List.getD, h]
theorem cell_two_new (w : World) (x y : Value) (t : TypeId) : ∀ (j : Nat) (u : Value), [x, y][j]? = some u → (w.alloc (.cells #[x, y] t)).cell? ((⟨w.heap.size, 0, none⟩ : Addr).add j) = some u := by
  intro j u hj
  have hn := Row.new w t [x, y]
  rw [← hj, ← hn.cell j]
  exact congrArg _ (addr_add _ _)
theorem cell_one_new1 (w : World) (o : Obj) (x : Value) (t : TypeId) : ∀ (j : Nat) (u : Value), [x][j]? = some u → ((w.alloc o).alloc (.cells #[x] t)).cell? ((⟨w.heap.size + 1, 0, none⟩ : Addr).add j) = some u := by
  have h := cell_one_new (w.alloc o) x t
  rw [World.size_alloc] at h
  exact h
theorem ints_get {q : List Int} {k : Nat} (h : k < q.length) : (q.map (Value.int .i64))[k]? = some (.int .i64 (q.getD k 0)) := by
  simp [List.getD, h]
theorem getD_mem {α : Type} {l : List α} {k : Nat} {d : α} (h : k < l.length) : l.getD k d ∈ l := by
  rw [List.getD_eq_getElem?_getD, List.getElem?_eq_getElem h]; exact List.getElem_mem _
theorem take_succ_getD {α : Type} {l : List α} {k : Nat} {d : α} (h : k < l.length) : l.take (k + 1) = l.take k ++ [l.getD k d] := by
  rw [List.take_add_one, List.getD_eq_getElem?_getD, List.getElem?_eq_getElem h]; rfl
/-- Two rows in different blocks. -/
def Apart (v u : Value) : Prop := ∀ j, v.ownBlock = some j → u.ownBlock ≠ some j
theorem Apart.symm {v u : Value} (h : Apart v u) : Apart u v := fun j hj hv => h j hv hj
theorem two_rows {W0 wr w7 : World} {base k m : Nat} {T : TypeId} {v u v' : Value} {xs ys : List Value} {o : Obj} (hv : wr.ownsRow base T 1 v k xs) (hu : wr.ownsRow base T 1 u m ys) (hap : Apart v u) (hbel : Below base W0 wr) (hbs : base ≤ wr.heap.size)
    (hgrow : (wr.alloc o).grownBy w7 v.ownBlock) (hat : v'.ownBlock = v.ownBlock ∨ v'.ownBlock = some (wr.alloc o).heap.size) : w7.ownsRow base T 1 u m ys ∧ Apart v' u ∧ Below base W0 w7 ∧ base ≤ w7.heap.size := by
  have hb := (hbel.alloc hbs o).grown hgrow (by simp; omega) fun j hj => (own_lt hv hj).1
  refine ⟨own_over (hu.alloc o) hgrow fun j hj e => hap j e hj, ?_, hb, Nat.le_trans hbs (Nat.le_trans (by simp) hgrow.size)⟩
  intro j hj hu'
  rcases hat with e | e
  · exact hap j (e.symm.trans hj) hu'
  · have := (own_lt hu hu').2.1
    rw [e] at hj; injection hj with hj; simp at hj; omega
theorem bm_le (n : Int) : 0 ≤ bm n ∧ bm n ≤ 21 := by rcases bm_cases n with h | h | h | h | h | h | h <;> omega
theorem lGauss_any (a b : Int) (w : World) :
    Calls Try.prog 50 #[.int .i64 a, .int .i64 b] w fun e w' => e = .returned (.agg #[.int .i64 a, .int .i64 b]) ∧ Below w.heap.size w w' := by
  go_enter Try.func50, Try.ntmps50
  go_wp2_with fail
  refine bodyPost_ret (v := .agg #[.int .i64 a, .int .i64 b]) (by simp [results, Try.results50, go_sem]) rfl ⟨rfl, ?_⟩
  first | exact bA1 | exact bA2
end Go.Proofs.Ytcllkocmnohnkaa
