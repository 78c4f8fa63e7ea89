/- spec.DrawObserveTurn at every code. -/
import Derived.Test.YtklhjofhmcaflaaDrawN
namespace Go.Proofs.Ytklhjofhmcaflaa
open Go.RowKit

theorem isRd_open {w w' : World} {A : Option Addr} {n cap : Nat} {bs : List Int} (hn : bs.length = n) (hb : BytesOk bs) (hr : Rd w w.heap.size A (bs.map (Value.int .u8))) (hR : Row w' w.heap.size 94 [.slice A (min 2000 n) cap, .int .i64 0]) (hbel : Below w.heap.size w w') : IsRd w' w.heap.size 0 := by
  refine ⟨A, min 2000 n, cap, bs.take 2000, by rw [List.length_take, hn], by omega, fun x hx => hb x (List.mem_of_mem_take hx), hR, fun i u hu => ?_⟩
  refine hr.below hbel i u ?_
  rw [List.getElem?_map] at hu ⊢
  rw [List.getElem?_take] at hu
  split at hu
  · exact hu
  · cases hu

/-- Rd over a step that turns one block alone. -/
theorem Rd.over {w w' : World} {A : Option Addr} {xs : List Value} {R : Nat} (h : Rd w w.heap.size A xs) (g : w.grownBy w' (some R)) (hA : ∀ b off, A = some ⟨b, off, none⟩ → b ≠ R ∨ xs = []) : Rd w' w'.heap.size A xs := by
  intro i u hu
  obtain ⟨b, off, e, hb, hc⟩ := h i u hu
  refine ⟨b, off, e, Nat.lt_of_lt_of_le hb g.size, (World.cell?_of_block (a := ⟨b, off + i, none⟩) (g.block b hb ?_)).trans hc⟩
  rintro hbR
  injection hbR with hbR
  rcases hA b off e with h | h
  · exact h hbR
  · rw [h] at hu; simp at hu
/-- A reader's block holds no numbers: what reads as ints or pairs lies elsewhere. -/
theorem Rd.apart {w : World} {A : Option Addr} {xs : List Value} {R : Nat} {p : Int} (h : Rd w w.heap.size A xs) (hR : IsRd w R p) (hi : ∀ u ∈ xs, ∃ z, u = .int .i64 z) (hl : xs.length ≠ 1) : ∀ b off, A = some ⟨b, off, none⟩ → b ≠ R ∨ xs = [] := by
  intro b off e
  by_cases hbR : b = R
  · right
    subst hbR
    obtain ⟨A', n, cap, bs, _, _, _, hrow, _⟩ := hR.ex
    cases xs with
    | nil => rfl
    | cons u r =>
      cases r with
      | nil => simp at hl
      | cons v r =>
        exfalso
        obtain ⟨b1, o1, e1, _, c1⟩ := h 0 u rfl
        obtain ⟨b2, o2, e2, _, c2⟩ := h 1 v rfl
        rw [e] at e1 e2
        cases e1; cases e2
        obtain ⟨z, rfl⟩ := hi u (by simp)
        rw [hrow.cell] at c1 c2
        cases off with
        | zero => simp at c1
        | succ o =>
          cases o with
          | zero => simp at c2
          | succ o => simp at c1
  · exact .inl hbR

theorem drawObserveTurn_any (A : Option Addr) (n cap : Nat) (bs : List Int) (w : World) (hn : bs.length = n) (hm : n ≤ 9223372036854775807) (hc : n ≤ cap) (hb : BytesOk bs) (hr : Rd w w.heap.size A (bs.map (Value.int .u8))) :
    Calls Try.prog 26 #[.slice A n cap] w fun e w' =>
      ∃ (N : Nat) (A1 : Option Addr) (k1 c1 : Nat) (gs : List (Int × Int)) (A2 : Option Addr) (k2 c2 : Nat) (q : List Int), e = .returned (.tuple #[.int .i64 N, .slice A1 k1 c1, .slice A2 k2 c2]) ∧ 2 ≤ N ∧ N ≤ 6 ∧
        gs.length = k1 ∧ k1 ≤ 22 ∧ Rd w' w'.heap.size A1 (gs.flatMap pairCells) ∧ q.length = k2 ∧ k2 ≤ 6 ∧ Rd w' w'.heap.size A2 (q.map (Value.int .i64)) ∧ Below w.heap.size w w' := by
  go_enter Try.func26, Try.ntmps26
  go_wp2_with fail
  refine (l6Open_any A n cap bs w hn hm hc hr).mono ?_
  rintro e w1 ⟨rfl, hR, hb1⟩
  have hrd := isRd_open hn hb hr hR hb1
  clear hR
  go_wp2_with fail
  refine (l91Ants_any _ 0 _ (by omega) hrd).mono ?_
  rintro e w2 ⟨N, rfl, hN2, hN6, hrd2, g2⟩
  have B2 : Below w.heap.size w w2 := hb1.grown g2 hb1.size fun j e => by cases e; exact Nat.le_refl _
  go_wp2_with fail
  refine (l93Numbers_any _ N _ _ hN2 hN6 (by omega) hrd2).mono ?_
  rintro e w3 ⟨A1, k1, c1, gs, p', rfl, hgs, hk1, hr1, hp1, hp2, hrd3, g3⟩
  have B3 : Below w.heap.size w w3 := B2.grown g3 B2.size fun j e => by cases e; exact Nat.le_refl _
  have hap := hr1.apart hrd3 (pairs_int gs) (by rw [pairCells_len]; omega)
  go_wp2_with fail
  refine (l93Quarters_any _ N _ _ hN2 hN6 (by omega) hrd3).mono ?_
  rintro e w4 ⟨A2, k2, c2, q, rfl, hq, hk2, hr2, g4⟩
  have B4 : Below w.heap.size w w4 := B3.grown g4 B3.size fun j e => by cases e; exact Nat.le_refl _
  go_wp2_with fail
  refine bodyPost_ret (by simp [results, Try.results26, go_sem]) rfl ⟨N, A1, k1, c1, gs, A2, k2, c2, q, rfl, hN2, hN6, hgs, hk1, hr1.over g4 hap, hq, hk2, hr2, B4⟩
end Go.Proofs.Ytklhjofhmcaflaa
