/- The draws' reader as a whole, and the first draws. -/
import Derived.Test.YtklhjofhmcaflaaPick
namespace Go.Proofs.Ytklhjofhmcaflaa
open Go.RowKit

/-- Block R is a reader over bytes that lie below it. -/
structure IsRd (w : World) (R : Nat) (p : Int) : Prop where
  ex : ∃ (A : Option Addr) (n cap : Nat) (bs : List Int), bs.length = n ∧ n ≤ 2000 ∧ BytesOk bs ∧ Row w R 94 [.slice A n cap, .int .i64 p] ∧ Rd w R A (bs.map (Value.int .u8))
theorem IsRd.lt {w : World} {R : Nat} {p : Int} (h : IsRd w R p) : R < w.heap.size := by
  obtain ⟨A, n, cap, bs, _, _, _, hr, _⟩ := h.ex
  exact hr.lt
theorem IsRd.kept {w w' : World} {R : Nat} {p : Int} (h : IsRd w R p) (hb : Below w.heap.size w w') : IsRd w' R p := by
  obtain ⟨A, n, cap, bs, h1, h2, h3, hr, hd⟩ := h.ex
  exact ⟨A, n, cap, bs, h1, h2, h3, hr.kept hb, hd.below (hb.mono (Nat.le_of_lt hr.lt))⟩

theorem pick2 (R : Nat) (p m : Int) (w : World) (hp : 0 ≤ p ∧ p ≤ 1000000) (hm : 1 ≤ m ∧ m ≤ 1000000) (h : IsRd w R p) :
    Calls Try.prog 71 #[.pointer (some ⟨R, 0, none⟩), .int .i64 m] w fun e w' =>
      ∃ x : Int, e = .returned (.int .i64 x) ∧ 0 ≤ x ∧ x < m ∧ IsRd w' R (p + 1) ∧ w.grownBy w' (some R) := by
  obtain ⟨A, n, cap, bs, h1, h2, h3, hr, hd⟩ := h.ex
  refine (pick_any R A n cap bs p m w h1 h2 hp hm h3 hr hd).mono ?_
  rintro e w' ⟨x, rfl, hx0, hxm, k, rfl⟩
  refine ⟨x, rfl, hx0, hxm, ⟨A, n, cap, bs, h1, h2, h3, (hr.set_ 1 _).drewN k, ?_⟩, ?_⟩
  · intro i u hu
    obtain ⟨b, off, e, hb, hc⟩ := hd i u hu
    refine ⟨b, off, e, hb, ?_⟩
    have hne : b ≠ R := by omega
    have : (w.setCell ⟨R, 1, none⟩ (.int .i64 (p + 1))).cell? ⟨b, off + i, none⟩ = w.cell? ⟨b, off + i, none⟩ := World.cell?_of_block (Below.heap_setCell _ _ _ b hne)
    exact this.trans hc
  · have g := grown_set w R 1 (.int .i64 (p + 1))
    exact ⟨g.os, g.tape, g.output, g.size, g.block⟩

theorem l91Ants_any (R : Nat) (p : Int) (w : World) (hp : 0 ≤ p ∧ p ≤ 1000000) (h : IsRd w R p) :
    Calls Try.prog 64 #[.pointer (some ⟨R, 0, none⟩)] w fun e w' =>
      ∃ n : Nat, e = .returned (.int .i64 n) ∧ 2 ≤ n ∧ n ≤ 6 ∧ IsRd w' R (p + 1) ∧ w.grownBy w' (some R) := by
  go_enter Try.func64, Try.ntmps64
  go_wp2_with fail
  have r0 := Row.new w 3 [.int .i64 2, .int .i64 3, .int .i64 3, .int .i64 4, .int .i64 4, .int .i64 5, .int .i64 6]
  have g0 := World.grownBy_alloc w (.cells #[.int .i64 2, .int .i64 3, .int .i64 3, .int .i64 4, .int .i64 4, .int .i64 5, .int .i64 6] 3) (some R)
  refine (pick2 R p 7 _ hp (by omega) (h.kept ((Below.refl _ _).alloc (Nat.le_refl _) _))).mono ?_
  rintro e w1 ⟨x, rfl, x0, x7, hrd, g1⟩
  have hlt := h.lt
  have r1 := r0.grown g1 (by simp; omega)
  obtain ⟨k, rfl⟩ : ∃ k : Nat, x = k := ⟨x.toNat, by omega⟩
  obtain ⟨v, hv, hv2, hv6⟩ : ∃ v : Nat, ([.int .i64 2, .int .i64 3, .int .i64 3, .int .i64 4, .int .i64 4, .int .i64 5, .int .i64 6] : List Value)[k]? = some (.int .i64 v) ∧ 2 ≤ v ∧ v ≤ 6 := by
    have : k = 0 ∨ k = 1 ∨ k = 2 ∨ k = 3 ∨ k = 4 ∨ k = 5 ∨ k = 6 := by omega
    rcases this with rfl | rfl | rfl | rfl | rfl | rfl | rfl
    · exact ⟨2, rfl, by omega, by omega⟩
    · exact ⟨3, rfl, by omega, by omega⟩
    · exact ⟨3, rfl, by omega, by omega⟩
    · exact ⟨4, rfl, by omega, by omega⟩
    · exact ⟨4, rfl, by omega, by omega⟩
    · exact ⟨5, rfl, by omega, by omega⟩
    · exact ⟨6, rfl, by omega, by omega⟩
  have hc : w1.cell? ⟨w.heap.size, k, none⟩ = some (.int .i64 v) := by rw [r1.cell]; exact hv
  have G := Lib.hid (grown_trans g0 g1)
  clear r0 r1 hv g0 g1
  go_wp2_with fail
  go_ret
  exact ⟨v, rfl, hv2, hv6, hrd, G.out⟩
end Go.Proofs.Ytklhjofhmcaflaa
