/- The draws' reader as a whole, and the first draws. -/
import Derived.Test.YtbadeopjfmafcaaDoorPick
namespace Go.Proofs.YtbadeopjfmafcaaDoor
open Go.RowKit

/-- Block R is a reader over bytes that lie below it. -/
structure IsRd (w : World) (R : Nat) (p : Int) : Prop where
  ex : ∃ (A : Option Addr) (n cap : Nat) (bs : List Int), bs.length = n ∧ n ≤ 2000 ∧ BytesOk bs ∧ Row w R 98 [.slice A n cap, .int .i64 p] ∧ Rd w R A (bs.map (Value.int .u8))
theorem IsRd.lt {w : World} {R : Nat} {p : Int} (h : IsRd w R p) : R < w.heap.size := by
  obtain ⟨A, n, cap, bs, _, _, _, hr, _⟩ := h.ex
  exact hr.lt
theorem IsRd.kept {w w' : World} {R : Nat} {p : Int} (h : IsRd w R p) (hb : Below w.heap.size w w') : IsRd w' R p := by
  obtain ⟨A, n, cap, bs, h1, h2, h3, hr, hd⟩ := h.ex
  exact ⟨A, n, cap, bs, h1, h2, h3, hr.kept hb, hd.below (hb.mono (Nat.le_of_lt hr.lt))⟩

theorem pick2 (R : Nat) (p m : Int) (w : World) (hp : 0 ≤ p ∧ p ≤ 1000000) (hm : 1 ≤ m ∧ m ≤ 1000000) (h : IsRd w R p) :
    Calls Tryd.prog 61 #[.pointer (some ⟨R, 0, none⟩), .int .i64 m] w fun e w' =>
      ∃ x : Int, e = .returned (.int .i64 x) ∧ 0 ≤ x ∧ x < m ∧ IsRd w' R (p + 1) ∧ w.grownBy w' (some R) := by
  obtain ⟨A, n, cap, bs, h1, h2, h3, hr, hd⟩ := h.ex
  refine (pick_any R A n cap bs p m w h1 h2 hp hm h3 hr hd).mono ?_
  rintro e w' ⟨x, rfl, hx0, hxm, k, rfl⟩
  refine ⟨x, rfl, hx0, hxm, ⟨A, n, cap, bs, h1, h2, h3, (hr.set_ 1 _).drewN k, ?_⟩, ?_⟩
  · intro i u hu
    obtain ⟨b, off, e, hb, hc⟩ := hd i u hu
    refine ⟨b, off, e, hb, ?_⟩
    have hne : b ≠ R := by omega
    have : (w.setCell ⟨R, 1, none⟩ (.int .i64 (p + 1))).cell? ⟨b, off + i, none⟩ = w.cell? ⟨b, off + i, none⟩ := World.cell?_of_block (Below.heap_setCell _ _ _ b hne)
    exact this.trans hc
  · have g := grown_set w R 1 (.int .i64 (p + 1))
    exact ⟨g.os, g.tape, g.output, g.size, g.block⟩

theorem l91Ants_any (R : Nat) (p : Int) (w : World) (hp : 0 ≤ p ∧ p ≤ 1000000) (h : IsRd w R p) :
    Calls Tryd.prog 70 #[.pointer (some ⟨R, 0, none⟩)] w fun e w' =>
      ∃ n : Nat, e = .returned (.int .i64 n) ∧ 2 ≤ n ∧ n ≤ 6 ∧ IsRd w' R (p + 1) ∧ w.grownBy w' (some R) := by
  go_enter Tryd.func70, Tryd.ntmps70
  go_wp2_with fail
  have r0 := Row.new w 3 [.int .i64 2, .int .i64 3, .int .i64 3, .int .i64 4, .int .i64 4, .int .i64 5, .int .i64 6]
  have g0 := World.grownBy_alloc w (.cells #[.int .i64 2, .int .i64 3, .int .i64 3, .int .i64 4, .int .i64 4, .int .i64 5, .int .i64 6] 3) (some R)
  refine (pick2 R p 7 _ hp (by omega) (h.kept ((Below.refl _ _).alloc (Nat.le_refl _) _))).mono ?_
  rintro e w1 ⟨x, rfl, x0, x7, hrd, g1⟩
  have hlt := h.lt
  have r1 := r0.grown g1 (by simp; omega)
  obtain ⟨k, rfl⟩ : ∃ k : Nat, x = k := ⟨x.toNat, by omega⟩
  obtain ⟨v, hv, hv2, hv6⟩ : ∃ v : Nat, ([.int .i64 2, .int .i64 3, .int .i64 3, .int .i64 4, .int .i64 4, .int .i64 5, .int .i64 6] : List Value)[k]? = some (.int .i64 v) ∧ 2 ≤ v ∧ v ≤ 6 := by
    have : k = 0 ∨ k = 1 ∨ k = 2 ∨ k = 3 ∨ k = 4 ∨ k = 5 ∨ k = 6 := by omega
    rcases this with rfl | rfl | rfl | rfl | rfl | rfl | rfl
    · exact ⟨2, rfl, by omega, by omega⟩
    · exact ⟨3, rfl, by omega, by omega⟩
    · exact ⟨3, rfl, by omega, by omega⟩
    · exact ⟨4, rfl, by omega, by omega⟩
    · exact ⟨4, rfl, by omega, by omega⟩
    · exact ⟨5, rfl, by omega, by omega⟩
    · exact ⟨6, rfl, by omega, by omega⟩
  have hc : w1.cell? ⟨w.heap.size, k, none⟩ = some (.int .i64 v) := by rw [r1.cell]; exact hv
  have G := Lib.hid (grown_trans g0 g1)
  clear r0 r1 hv g0 g1
  go_wp2_with fail
  go_ret
  exact ⟨v, rfl, hv2, hv6, hrd, G.out⟩
theorem IsRd.over {w w' : World} {R : Nat} {p : Int} {r : Option Nat} (h : IsRd w R p) (g : w.grownBy w' r) (hr : ∀ j, r = some j → R < j) : IsRd w' R p := by
  have hlt := h.lt
  obtain ⟨A, n, cap, bs, h1, h2, h3, hrow, hd⟩ := h.ex
  refine ⟨A, n, cap, bs, h1, h2, h3, hrow.grown g (fun e => absurd (hr R e.symm) (Nat.lt_irrefl _)), fun i u hu => ?_⟩
  obtain ⟨b, off, e, hb, hc⟩ := hd i u hu
  exact ⟨b, off, e, hb, (World.cell?_of_block (a := ⟨b, off + i, none⟩) (g.block b (by omega) fun e => by have := hr b e.symm; omega)).trans hc⟩
theorem grown_far {A B C : World} {r s : Option Nat} (h : A.grownBy B r) (k : B.grownBy C s) (hs : ∀ j, s = some j → A.heap.size ≤ j) : A.grownBy C r :=
  ⟨k.os.trans h.os, k.tape.trans h.tape, k.output.trans h.output, Nat.le_trans h.size k.size, fun i hi hr => (k.block i (Nat.lt_of_lt_of_le hi h.size) fun e => by have := hs i e.symm; omega).trans (h.block i hi hr)⟩
theorem isRd_open {w w' : World} {A : Option Addr} {n cap : Nat} {bs : List Int} (hn : bs.length = n) (hb : BytesOk bs) (hr : Rd w w.heap.size A (bs.map (Value.int .u8))) (hR : Row w' w.heap.size 98 [.slice A (min 2000 n) cap, .int .i64 0]) (hbel : Below w.heap.size w w') : IsRd w' w.heap.size 0 := by
  refine ⟨A, min 2000 n, cap, bs.take 2000, by rw [List.length_take, hn], by omega, fun x hx => hb x (List.mem_of_mem_take hx), hR, fun i u hu => ?_⟩
  refine hr.below hbel i u ?_
  rw [List.getElem?_map] at hu ⊢
  rw [List.getElem?_take] at hu
  split at hu
  · exact hu
  · cases hu
/-- Rd over a step that turns one block alone. -/
theorem Rd.over {w w' : World} {A : Option Addr} {xs : List Value} {R : Nat} (h : Rd w w.heap.size A xs) (g : w.grownBy w' (some R)) (hA : ∀ b off, A = some ⟨b, off, none⟩ → b ≠ R ∨ xs = []) : Rd w' w'.heap.size A xs := by
  intro i u hu
  obtain ⟨b, off, e, hb, hc⟩ := h i u hu
  refine ⟨b, off, e, Nat.lt_of_lt_of_le hb g.size, (World.cell?_of_block (a := ⟨b, off + i, none⟩) (g.block b hb ?_)).trans hc⟩
  rintro hbR
  injection hbR with hbR
  rcases hA b off e with h | h
  · exact h hbR
  · rw [h] at hu; simp at hu
/-- A reader's block holds no numbers: what reads as ints or pairs lies elsewhere. -/
theorem Rd.apart {w : World} {A : Option Addr} {xs : List Value} {R : Nat} {p : Int} (h : Rd w w.heap.size A xs) (hR : IsRd w R p) (hi : ∀ u ∈ xs, ∃ z, u = .int .i64 z) (hl : xs.length ≠ 1) : ∀ b off, A = some ⟨b, off, none⟩ → b ≠ R ∨ xs = [] := by
  intro b off e
  by_cases hbR : b = R
  · right
    subst hbR
    obtain ⟨A', n, cap, bs, _, _, _, hrow, _⟩ := hR.ex
    cases xs with
    | nil => rfl
    | cons u r =>
      cases r with
      | nil => simp at hl
      | cons v r =>
        exfalso
        obtain ⟨b1, o1, e1, _, c1⟩ := h 0 u rfl
        obtain ⟨b2, o2, e2, _, c2⟩ := h 1 v rfl
        rw [e] at e1 e2
        cases e1; cases e2
        obtain ⟨z, rfl⟩ := hi u (by simp)
        rw [hrow.cell] at c1 c2
        cases off with
        | zero => simp at c1
        | succ o =>
          cases o with
          | zero => simp at c2
          | succ o => simp at c1
  · exact .inl hbR
end Go.Proofs.YtbadeopjfmafcaaDoor
