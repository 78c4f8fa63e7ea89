/- Plain laws of turning. -/
import Derived.Test.YtfandpgjlahnpaaTurnI
import Derived.Test.YtfandpgjlahnpaaA3
namespace Go.Proofs.Ytfandpgjlahnpaa
open Go.RowKit

theorem turnedOf_congr {gs : List (Int × Int)} {q q' : List Int} {ps : List (Nat × Nat)} (h : ∀ x ∈ ps, ((q'.getD x.2 0 - q'.getD x.1 0) - (q.getD x.2 0 - q.getD x.1 0)) % 4 = 0) : turnedOf gs q' ps = turnedOf gs q ps := by
  unfold turnedOf
  refine List.map_congr_left fun k hk => ?_
  have hk' : k < ps.length := List.mem_range.1 hk
  have hg : ps.getD k (0, 0) = ps[k] := by rw [List.getD_eq_getElem?_getD, List.getElem?_eq_getElem hk']; rfl
  rw [hg]
  unfold turnAt
  rw [unit_congr (h _ (List.getElem_mem hk'))]

theorem turnOK_of {N : Nat} {gs : List (Int × Int)} {q : List Int} (h : turnOK N gs q = true) : obsV N gs = true ∧ q.length = N ∧ ∀ x ∈ q, 0 ≤ x ∧ x ≤ 3 := by
  unfold turnOK at h
  rw [Bool.and_eq_true, Bool.and_eq_true, decide_eq_true_eq] at h
  exact ⟨h.1, by omega, fun x hx => inR_iff.1 (List.all_eq_true.1 h.2.2 x hx)⟩
theorem turnOK_mk {N : Nat} {gs : List (Int × Int)} {q : List Int} (h1 : obsV N gs = true) (h2 : q.length = N) (h3 : ∀ x ∈ q, 0 ≤ x ∧ x ≤ 3) : turnOK N gs q = true := by
  unfold turnOK
  rw [h1, h2]
  have : allQ q = true := List.all_eq_true.2 fun x hx => inR_iff.2 (h3 x hx)
  rw [this]; simp

theorem turn_shift {N : Nat} {gs : List (Int × Int)} {q : List Int} (h : turnOK N gs q = true) (c : Int) (q' : List Int) (hq' : q'.length = N) (h3 : ∀ x ∈ q', 0 ≤ x ∧ x ≤ 3) (hc : ∀ i, i < N → (q'.getD i 0 - q.getD i 0 - c) % 4 = 0) :
    turnOK N gs q' = true ∧ turnR N gs q' = turnR N gs q := by
  obtain ⟨h1, h2, _⟩ := turnOK_of h
  have h' := turnOK_mk h1 hq' h3
  refine ⟨h', ?_⟩
  unfold turnR
  rw [h, h', if_pos rfl, if_pos rfl, Int.toNat_natCast]
  refine turnedOf_congr fun x hx => ?_
  have hx' := mem_pairsN hx
  have a := hc x.1 (by omega)
  have b := hc x.2 (by omega)
  omega
end Go.Proofs.Ytfandpgjlahnpaa
