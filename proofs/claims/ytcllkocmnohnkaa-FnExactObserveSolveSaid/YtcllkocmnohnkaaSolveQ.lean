/- Plain laws: a turned observation is solved, and by what. -/
import Derived.Test.YtcllkocmnohnkaaSolveP
import Derived.Test.YtcllkocmnohnkaaTripleP
namespace Go.Proofs.Ytcllkocmnohnkaa
open Go.RowKit

theorem turnR_eq {N : Nat} {gs : List (Int × Int)} {q : List Int} (h : turnOK N gs q = true) : turnR N gs q = turnedOf gs q (pairsN N) := by
  unfold turnR; rw [h, if_pos rfl]; rfl

theorem solve_turn {N : Nat} {gs : List (Int × Int)} {q : List Int} (h : turnOK N gs q = true) :
    ∃ q', solveV N (turnR N gs q) gs = some q' ∧ q'.length = N ∧ turnOK N gs q' = true ∧ turnR N gs q' = turnR N gs q ∧ q'.getD 0 0 = 0 := by
  obtain ⟨h1, hq, h3⟩ := turnOK_of h
  obtain ⟨k, hk, k2, k7, hl, _, _⟩ := obsV_of h1
  obtain rfl : N = k := by omega
  have h2 := obsV_turned q h1
  obtain ⟨d, hd⟩ : ∃ d, q.map (fun x => (x - q.getD 0 0) % 4) = d := ⟨_, rfl⟩
  have hdl : d.length = N := by rw [← hd, List.length_map]; exact hq
  have hd3 : ∀ x ∈ d, 0 ≤ x ∧ x ≤ 3 := fun x hx => by
    rw [← hd] at hx; obtain ⟨y, _, rfl⟩ := List.mem_map.1 hx; omega
  have hdg : ∀ i, i < N → d.getD i 0 = (q.getD i 0 - q.getD 0 0) % 4 := fun i hi => by
    obtain ⟨z, hz⟩ : ∃ z, q[i]? = some z := ⟨_, List.getElem?_eq_getElem (by omega)⟩
    rw [← hd, List.getD_eq_getElem?_getD, List.getElem?_map, hz, List.getD_eq_getElem?_getD (l := q) (i := i), hz]; rfl
  obtain ⟨ht, he⟩ := turn_shift h (-(q.getD 0 0)) d hdl hd3 (fun i hi => by rw [hdg i hi]; omega)
  obtain ⟨m, hm, hs⟩ := solveQ_onto N d (by omega) hdl (by rw [hdg 0 (by omega)]; omega) hd3
  have hhit : solveHit N (turnR N gs q) gs m = true := by
    unfold solveHit
    rw [hs, decide_eq_true_eq, ← turnR_eq ht, he]
  cases hv : solveV N (turnR N gs q) gs with
  | none =>
    exfalso
    have h2' : obsV N (turnR N gs q) = true := by rw [turnR_eq h]; exact h2
    unfold solveV solveK at hv
    rw [h2', h1, if_pos (by rfl), Int.toNat_natCast, Option.map_eq_none_iff, List.find?_range_eq_none] at hv
    have := hv m hm
    rw [hhit] at this; cases this
  | some q' =>
    obtain ⟨_, _, k, hk, rfl, hT, _⟩ := solveV_some hv
    have hok := turnOK_mk h1 (solveQ_len N k) (solveQ_3 N k)
    refine ⟨_, rfl, solveQ_len N k, hok, ?_, ?_⟩
    · rw [turnR_eq hok, hT]
    · rw [solveQ_get N k 0 (by omega), if_pos rfl]

theorem turnAt_inj {g : Int × Int} {a b : Int} (hg : g ≠ (0, 0)) (h : turnAt g a = turnAt g b) : (a - b) % 4 = 0 := by
  have hg' : ¬ (g.1 = 0 ∧ g.2 = 0) := fun ⟨h1, h2⟩ => hg (Prod.ext h1 h2)
  have e1 : (turnAt g a).1 = (turnAt g b).1 := by rw [h]
  have e2 : (turnAt g a).2 = (turnAt g b).2 := by rw [h]
  unfold turnAt at e1 e2
  rcases unit_cases a with ⟨h1, u1⟩ | ⟨h1, u1⟩ | ⟨h1, u1⟩ | ⟨h1, u1⟩ <;> rcases unit_cases b with ⟨h2, u2⟩ | ⟨h2, u2⟩ | ⟨h2, u2⟩ | ⟨h2, u2⟩ <;>
    first | omega | (exfalso; rw [u1, u2] at e1 e2; simp at e1 e2; omega)

theorem solve_only {N : Nat} {gs : List (Int × Int)} {q q' : List Int} (h : turnOK N gs q = true) (h' : turnOK N gs q' = true) (he : turnR N gs q' = turnR N gs q) (h0 : q'.getD 0 0 = 0) (hg : ∀ k, k < gs.length → gs.getD k (0, 0) ≠ (0, 0)) (i : Nat) (hi : i < N) :
    q'.getD i 0 = (q.getD i 0 - q.getD 0 0) % 4 := by
  obtain ⟨h1, hq, h3⟩ := turnOK_of h
  obtain ⟨_, hq', h3'⟩ := turnOK_of h'
  obtain ⟨k, hk, k2, k7, hl, _, _⟩ := obsV_of h1
  obtain rfl : N = k := by omega
  by_cases hi0 : i = 0
  · subst hi0; rw [h0]; omega
  · obtain ⟨a1, a2⟩ := upTo_get N 0 i k7 (by omega) hi
    have hx : q'.getD i 0 ∈ q' := by rw [List.getD_eq_getElem?_getD, List.getElem?_eq_getElem (by omega)]; exact List.getElem_mem _
    have hb := h3' _ hx
    rw [turnR_eq h, turnR_eq h'] at he
    have e := congrArg (fun l => l.getD (bF N ((0 : Nat) : Int) i).toNat (0, 0)) he
    rw [turnedOf_get _ _ _ _ a2, turnedOf_get _ _ _ _ a2, a1] at e
    have := turnAt_inj (hg _ (by omega)) e
    dsimp only at this
    rw [h0] at this
    omega
end Go.Proofs.Ytcllkocmnohnkaa
