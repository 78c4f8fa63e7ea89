/- A boxed slice that owns its row, over an append and a store that other steps may lie between. -/
import Derived.Test.YtcllkocmnohnkaaStay
import Derived.RangeFuncBox
import Derived.RangeFuncNested
namespace Go.Proofs.Ytcllkocmnohnkaa
open Go.RowKit
theorem own_ext {W W' : World} {B e size n : Nat} {v : Value} {xs : List Value} (h : W.ownsRow B e size v n xs) (hb : Below W.heap.size W W') : W'.ownsRow B e size v n xs := by
  rcases h with ⟨hl, h | ⟨g, cap, cur, rfl, hB, hg, h1, h2, h3, h4⟩⟩
  · exact ⟨hl, .inl h⟩
  · refine ⟨hl, .inr ⟨g, cap, cur, rfl, hB, (hb.block g ?_).trans hg, h1, h2, h3, h4⟩⟩
    exact (Array.getElem?_eq_some_iff.1 hg).1
theorem boxed_ext {W W' : World} {B : Nat} {t : TypeId} {v : Value} (h : Boxed W B t v) (hb : Below W.heap.size W W') : Boxed W' B t v := (hb.block B h.lt).trans h
theorem own_lt {W : World} {B e size n : Nat} {v : Value} {xs : List Value} (h : W.ownsRow B e size v n xs) {j : Nat} (hj : v.ownBlock = some j) : B ≤ j ∧ j < W.heap.size ∧ ∃ cs fr, W.heap[j]? = some (.cells cs e fr) := by
  rcases h with ⟨hl, ⟨rfl, _⟩ | ⟨g, cap, cur, rfl, hB, hg, h1, h2, h3, h4⟩⟩
  · simp [Value.ownBlock] at hj
  · obtain rfl : g = j := by simpa [Value.ownBlock] using hj
    exact ⟨hB, (Array.getElem?_eq_some_iff.1 hg).1, _, _, hg⟩
theorem keeps_ext {W W' : World} (hb : Below W.heap.size W W') : KeepsOthers W W' := ⟨hb.size, fun k _ hk _ => (hb.block k (Array.getElem?_eq_some_iff.1 hk).1).trans hk⟩

/-- What an append and the store of its result into the box leave. -/
structure Grew (W : World) (n₀ B : Nat) (t e : TypeId) (size : Nat) (v v' : Value) (m : Nat) (ys : List Value) (w4 w6 : World) : Prop where
  mid : Boxed w4 B t v
  box : Boxed w6 B t v'
  own : w6.ownsRow n₀ e size v' m ys
  keeps : KeepsOthers W w6
  below : Below n₀ W w6
  rest : ∀ j, j < W.heap.size → j ≠ B → some j ≠ v.ownBlock → w6.heap[j]? = W.heap[j]?

theorem grew_mid {W w2 w3 w4 : World} {n₀ B : Nat} {t e : TypeId} {size : Nat} {v : Value} {k : Nat} {xs : List Value}
    (hv : Boxed W B t v) (hte : t ≠ e) (hrow : W.ownsRow n₀ e size v k xs) (hE : Below W.heap.size W w2) (hgrow : w2.grownBy w3 v.ownBlock) (hE2 : Below w3.heap.size w3 w4) : Boxed w4 B t v :=
  boxed_ext ((boxed_ext hv hE).kept hgrow (hv.not_row hte hrow)) hE2

theorem grew_of {W w2 w3 w4 w6 : World} {n₀ B : Nat} {t e : TypeId} {size : Nat} {v v' : Value} {k m : Nat} {xs ys : List Value}
    (hv : Boxed W B t v) (hte : t ≠ e) (hrow : W.ownsRow n₀ e size v k xs) (hn₀ : n₀ ≤ W.heap.size) (hB : n₀ ≤ B)
    (hE : Below W.heap.size W w2) (hown' : w3.ownsRow n₀ e size v' m ys) (hgrow : w2.grownBy w3 v.ownBlock) (hE2 : Below w3.heap.size w3 w4)
    (hE3 : Below (w4.setCell ⟨B, 0, none⟩ v').heap.size (w4.setCell ⟨B, 0, none⟩ v') w6) : Grew W n₀ B t e size v v' m ys w4 w6 := by
  have h4 : Boxed w4 B t v := grew_mid hv hte hrow hE hgrow hE2
  have hown4 : w4.ownsRow n₀ e size v' m ys := own_ext hown' hE2
  have h5 := hown4.kept (grownBy_setCell' w4 B v') (.inr (h4.not_row hte hown4).symm)
  have hs5 : (w4.setCell ⟨B, 0, none⟩ v').heap.size = w4.heap.size := by simp [World.setCell]
  have hrest : ∀ j, j < W.heap.size → j ≠ B → some j ≠ v.ownBlock → w6.heap[j]? = W.heap[j]? := by
    intro j hj hjB hjv
    have j2 : j < w2.heap.size := Nat.lt_of_lt_of_le hj hE.size
    have j3 : j < w3.heap.size := Nat.lt_of_lt_of_le j2 hgrow.size
    have j4 : j < w4.heap.size := Nat.lt_of_lt_of_le j3 hE2.size
    rw [hE3.block j (by rw [hs5]; exact j4), (grownBy_setCell' w4 B v').block j j4 (by simpa using hjB), hE2.block j j3, hgrow.block j j2 hjv, hE.block j hj]
  have hsz : W.heap.size ≤ w6.heap.size := by
    have := hE.size; have := hgrow.size; have := hE2.size; have := hE3.size; omega
  refine ⟨h4, boxed_ext (h4.set v') hE3, own_ext h5 hE3, ⟨hsz, fun j o hj ho => ?_⟩, ⟨?_, ?_, ?_, hsz, fun j hj => ?_⟩, hrest⟩
  · refine (hrest j (Array.getElem?_eq_some_iff.1 hj).1 ?_ ?_).trans hj
    · rintro rfl
      rw [show W.heap[j]? = _ from hv] at hj; cases hj; cases ho
    · intro hjv
      obtain ⟨_, _, _, _, hc⟩ := own_lt hrow hjv.symm
      rw [hj] at hc; cases hc; cases ho
  · rw [hE3.os, (grownBy_setCell' w4 B v').os, hE2.os, hgrow.os, hE.os]
  · rw [hE3.tape, (grownBy_setCell' w4 B v').tape, hE2.tape, hgrow.tape, hE.tape]
  · rw [hE3.output, (grownBy_setCell' w4 B v').output, hE2.output, hgrow.output, hE.output]
  · refine hrest j (by omega) (by omega) fun hjv => ?_
    have := (own_lt hrow hjv.symm).1
    omega
end Go.Proofs.Ytcllkocmnohnkaa
