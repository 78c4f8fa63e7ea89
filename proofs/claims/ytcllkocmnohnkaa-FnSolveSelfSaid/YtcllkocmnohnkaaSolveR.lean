/- Plain laws: an observation is its own model, and a model is solved back. -/
import Derived.Test.YtcllkocmnohnkaaSolveQ
namespace Go.Proofs.Ytcllkocmnohnkaa
open Go.RowKit

theorem solveQ_zero (n : Nat) : solveQ n 0 = List.replicate n 0 := by
  refine List.ext_getElem (by simp [solveQ]) fun i h1 h2 => ?_
  simp only [solveQ, List.getElem_map, List.getElem_range, List.getElem_replicate, Nat.zero_div, Nat.zero_mod]
  split <;> rfl
theorem rep_get (n i : Nat) : (List.replicate n (0 : Int)).getD i 0 = 0 := by
  rw [List.getD_eq_getElem?_getD, List.getElem?_replicate]
  split <;> rfl
theorem turnedOf_zero (gs : List (Int × Int)) (n : Nat) (ps : List (Nat × Nat)) (hl : gs.length = ps.length) : turnedOf gs (List.replicate n 0) ps = gs := by
  refine List.ext_getElem (by rw [turnedOf_len, hl]) fun k h1 h2 => ?_
  have h := turnedOf_get gs (List.replicate n 0) ps k (by omega)
  rw [List.getD_eq_getElem?_getD, List.getElem?_eq_getElem h1, List.getD_eq_getElem?_getD, List.getElem?_eq_getElem h2, rep_get, rep_get] at h
  simp only [Option.getD_some, Int.sub_self] at h
  rw [h]
  exact turnAt_zero _ _ (by decide)
theorem solve_self {N : Nat} {seen : List (Int × Int)} (h : obsV N seen = true) : solveV N seen seen = some (List.replicate N 0) := by
  obtain ⟨k, hk, h2, h7, hl, _, _⟩ := obsV_of h
  obtain rfl : N = k := by omega
  rw [← solveQ_zero]
  refine solveV_hit h h (Nat.pow_pos (by omega)) ?_ fun j hj => absurd hj (by omega)
  unfold solveHit
  rw [solveQ_zero, decide_eq_true_eq]
  exact turnedOf_zero seen N _ hl
theorem solve_swap {N : Nat} {seen model : List (Int × Int)} {q : List Int} (h : solveV N seen model = some q) : ∃ q', solveV N model seen = some q' ∧ q'.length = N := by
  obtain ⟨h1, h2, k, hk, rfl, hT, _⟩ := solveV_some h
  have hok := turnOK_mk h2 (solveQ_len N k) (solveQ_3 N k)
  have hR : turnR N model (solveQ N k) = seen := by rw [turnR_eq hok, hT]
  obtain ⟨q', hq'⟩ : ∃ q', (solveQ N k).map (fun x => -x % 4) = q' := ⟨_, rfl⟩
  have hl : q'.length = N := by rw [← hq', List.length_map, solveQ_len]
  obtain ⟨b1, b2⟩ := turn_back hok q' hl (fun y hy => by
    rw [← hq'] at hy; obtain ⟨z, _, rfl⟩ := List.mem_map.1 hy; omega) (fun i hi => by
    obtain ⟨z, hz⟩ : ∃ z, (solveQ N k)[i]? = some z := ⟨_, List.getElem?_eq_getElem (by rw [solveQ_len]; exact hi)⟩
    rw [← hq', List.getD_eq_getElem?_getD, List.getD_eq_getElem?_getD, List.getElem?_map, hz]
    simp only [Option.map_some, Option.getD_some]; omega)
  rw [hR] at b1 b2
  obtain ⟨q2, s2, l2, _⟩ := solve_turn b1
  rw [b2] at s2
  exact ⟨q2, s2, l2⟩
theorem solve_turned {N : Nat} {seen model : List (Int × Int)} {q : List Int} (h : solveV N seen model = some q) : turnOK N model q = true ∧ turnR N model q = seen ∧ q.length = N ∧ (1 ≤ N → q.getD 0 0 = 0) := by
  obtain ⟨h1, h2, k, hk, rfl, hT, _⟩ := solveV_some h
  have hok := turnOK_mk h2 (solveQ_len N k) (solveQ_3 N k)
  refine ⟨hok, by rw [turnR_eq hok, hT], solveQ_len N k, fun hN => ?_⟩
  rw [solveQ_get N k 0 (by omega), if_pos rfl]
end Go.Proofs.Ytcllkocmnohnkaa
