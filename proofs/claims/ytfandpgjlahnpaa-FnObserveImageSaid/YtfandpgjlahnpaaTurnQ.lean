/- Plain laws of turning, twice. -/
import Derived.Test.YtfandpgjlahnpaaTurnP
namespace Go.Proofs.Ytfandpgjlahnpaa
open Go.RowKit

theorem turnAt_turnAt (g : Int × Int) (a b : Int) : turnAt (turnAt g a) b = turnAt g (a + b) := by
  rcases unit_cases a with ⟨h1, e1⟩ | ⟨h1, e1⟩ | ⟨h1, e1⟩ | ⟨h1, e1⟩ <;> rcases unit_cases b with ⟨h2, e2⟩ | ⟨h2, e2⟩ | ⟨h2, e2⟩ | ⟨h2, e2⟩ <;> rcases unit_cases (a + b) with ⟨h3, e3⟩ | ⟨h3, e3⟩ | ⟨h3, e3⟩ | ⟨h3, e3⟩ <;>
    first | (exfalso; omega) | (unfold turnAt; simp [e1, e2, e3]; done) | (unfold turnAt; simp [e1, e2, e3]; omega)
theorem turnAt_zero (g : Int × Int) (k : Int) (h : k % 4 = 0) : turnAt g k = g := by
  rcases unit_cases k with ⟨h1, e1⟩ | ⟨h1, e1⟩ | ⟨h1, e1⟩ | ⟨h1, e1⟩
  · unfold turnAt; simp [e1]
  all_goals (exfalso; omega)
theorem turnAt_gv (g : Int × Int) (k : Int) (h : gv g.1 g.2 = true) : gv (turnAt g k).1 (turnAt g k).2 = true := by
  rw [gv_iff] at h ⊢
  rcases unit_cases k with ⟨h1, e1⟩ | ⟨h1, e1⟩ | ⟨h1, e1⟩ | ⟨h1, e1⟩ <;> unfold turnAt <;> simp [e1] <;> omega
theorem turnAt_norm (g : Int × Int) (k : Int) : (turnAt g k).1 * (turnAt g k).1 + (turnAt g k).2 * (turnAt g k).2 = g.1 * g.1 + g.2 * g.2 := by
  rcases unit_cases k with ⟨h1, e1⟩ | ⟨h1, e1⟩ | ⟨h1, e1⟩ | ⟨h1, e1⟩ <;> unfold turnAt <;> simp [e1, Int.neg_mul_neg, Int.add_comm]
theorem turnedOf_get (gs : List (Int × Int)) (q : List Int) (ps : List (Nat × Nat)) (k : Nat) (h : k < ps.length) : (turnedOf gs q ps).getD k (0, 0) = turnAt (gs.getD k (0, 0)) (q.getD (ps.getD k (0, 0)).2 0 - q.getD (ps.getD k (0, 0)).1 0) := by
  unfold turnedOf
  rw [List.getD_eq_getElem?_getD, List.getElem?_map, List.getElem?_range h]; rfl
theorem turnedOf_allV (gs : List (Int × Int)) (q : List Int) (ps : List (Nat × Nat)) (hl : gs.length = ps.length) (h : allV gs = true) : allV (turnedOf gs q ps) = true := by
  refine List.all_eq_true.2 fun x hx => ?_
  unfold turnedOf at hx
  obtain ⟨k, hk, rfl⟩ := List.mem_map.1 hx
  have hk' := List.mem_range.1 hk
  refine turnAt_gv _ _ (List.all_eq_true.1 h _ ?_)
  rw [List.getD_eq_getElem?_getD, List.getElem?_eq_getElem (by omega)]
  exact List.getElem_mem _
/-- Turned by q, then by a, is turned by the sum (or by whatever agrees with it up to a constant, modulo 4). -/
theorem turnedOf_turnedOf (gs : List (Int × Int)) (q a b : List Int) (ps : List (Nat × Nat)) (h : ∀ x ∈ ps, ((q.getD x.2 0 - q.getD x.1 0) + (a.getD x.2 0 - a.getD x.1 0) - (b.getD x.2 0 - b.getD x.1 0)) % 4 = 0) :
    turnedOf (turnedOf gs q ps) a ps = turnedOf gs b ps := by
  have e : turnedOf (turnedOf gs q ps) a ps = (List.range ps.length).map fun k => turnAt ((turnedOf gs q ps).getD k (0, 0)) (a.getD (ps.getD k (0, 0)).2 0 - a.getD (ps.getD k (0, 0)).1 0) := rfl
  rw [e]
  unfold turnedOf
  refine List.map_congr_left fun k hk => ?_
  have hk' : k < ps.length := List.mem_range.1 hk
  have := turnedOf_get gs q ps k hk'
  unfold turnedOf at this
  rw [this, turnAt_turnAt]
  have hg : ps.getD k (0, 0) = ps[k] := by rw [List.getD_eq_getElem?_getD, List.getElem?_eq_getElem hk']; rfl
  rw [hg]
  unfold turnAt
  rw [unit_congr (h _ (List.getElem_mem hk'))]
theorem turnedOf_nil (gs : List (Int × Int)) (ps : List (Nat × Nat)) (hl : gs.length = ps.length) : turnedOf gs [] ps = gs := by
  refine List.ext_getElem (by rw [turnedOf_len, hl]) fun k h1 h2 => ?_
  have h := turnedOf_get gs [] ps k (by omega)
  rw [List.getD_eq_getElem?_getD, List.getElem?_eq_getElem h1, List.getD_eq_getElem?_getD, List.getElem?_eq_getElem h2] at h
  simp only [Option.getD_some, List.getD_nil, Int.sub_self] at h
  rw [h]
  exact turnAt_zero _ _ (by decide)
theorem obsV_turned {N : Nat} {gs : List (Int × Int)} (q : List Int) (h : obsV N gs = true) : obsV N (turnedOf gs q (pairsN N)) = true := by
  obtain ⟨k, hk, h2, h7, hl, h21, hv⟩ := obsV_of h
  obtain rfl : N = k := by omega
  unfold obsV at h ⊢
  rw [Bool.and_eq_true, Bool.and_eq_true] at h ⊢
  refine ⟨h.1, ?_, turnedOf_allV _ _ _ hl hv⟩
  rw [turnedOf_len, ← hl]; exact h.2.1
/-- Turned by q, then by what undoes q, it is what it was. -/
theorem turn_back {N : Nat} {gs : List (Int × Int)} {q : List Int} (h : turnOK N gs q = true) (q' : List Int) (hq' : q'.length = N) (h3 : ∀ x ∈ q', 0 ≤ x ∧ x ≤ 3) (hc : ∀ i, i < N → (q'.getD i 0 + q.getD i 0) % 4 = 0) :
    turnOK N (turnR N gs q) q' = true ∧ turnR N (turnR N gs q) q' = gs := by
  obtain ⟨h1, h2, _⟩ := turnOK_of h
  obtain ⟨k, hk, k2, k7, hl, h21, hv⟩ := obsV_of h1
  obtain rfl : N = k := by omega
  have e : turnR N gs q = turnedOf gs q (pairsN N) := by unfold turnR; rw [h, if_pos rfl, Int.toNat_natCast]
  rw [e]
  have h' := turnOK_mk (obsV_turned q h1) hq' h3
  refine ⟨h', ?_⟩
  unfold turnR
  rw [h', if_pos rfl, Int.toNat_natCast, turnedOf_turnedOf gs q q' [] _ ?_, turnedOf_nil gs _ hl]
  intro x hx
  have hx' := mem_pairsN hx
  have a := hc x.1 (by omega)
  have b := hc x.2 (by omega)
  simp only [List.getD_nil]
  omega
theorem turnR_norm {N : Nat} {gs : List (Int × Int)} {q : List Int} (h : turnOK N gs q = true) (k : Nat) (x y : Int × Int) (hx : gs[k]? = some x) (hy : (turnR N gs q)[k]? = some y) : gNorm x.1 x.2 = gNorm y.1 y.2 := by
  obtain ⟨h1, h2, _⟩ := turnOK_of h
  obtain ⟨n, hn, k2, k7, hl, h21, hv⟩ := obsV_of h1
  obtain rfl : N = n := by omega
  have e : turnR N gs q = turnedOf gs q (pairsN N) := by unfold turnR; rw [h, if_pos rfl, Int.toNat_natCast]
  rw [e] at hy
  have hk : k < gs.length := (List.getElem?_eq_some_iff.1 hx).1
  have hg := turnedOf_get gs q (pairsN N) k (by omega)
  rw [List.getD_eq_getElem?_getD, hy, List.getD_eq_getElem?_getD, hx] at hg
  simp only [Option.getD_some] at hg
  have v1 : gv x.1 x.2 = true := List.all_eq_true.1 hv x (List.mem_of_getElem? hx)
  have v2 : gv y.1 y.2 = true := by rw [hg]; exact turnAt_gv _ _ v1
  unfold gNorm
  rw [v1, v2, if_pos rfl, if_pos rfl, hg, turnAt_norm]
end Go.Proofs.Ytfandpgjlahnpaa
