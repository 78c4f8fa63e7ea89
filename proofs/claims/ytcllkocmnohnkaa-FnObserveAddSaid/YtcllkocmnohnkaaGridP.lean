/- Plain laws of grids of observations and of coverages. -/
import Derived.Test.YtcllkocmnohnkaaObsP
namespace Go.Proofs.Ytcllkocmnohnkaa
open Go.RowKit

/-- The coverage of an array. -/
def covL (ants : List (Int × Int)) : List Bool := (List.range 16).map fun k => (pairsN ants.length).any fun p => vecC ants p.1 p.2 == k || oppN (vecC ants p.1 p.2) == k
theorem covL_len (ants : List (Int × Int)) : (covL ants).length = 16 := by simp [covL]
theorem covL_get (ants : List (Int × Int)) (k : Nat) (h : k < 16) : (covL ants).getD k false = true ↔ ∃ p ∈ pairsN ants.length, vecC ants p.1 p.2 = k ∨ oppN (vecC ants p.1 p.2) = k := by
  unfold covL
  rw [List.getD_eq_getElem?_getD, List.getElem?_map, List.getElem?_range h]
  simp
theorem covV_cov (ants : List (Int × Int)) : covV (covL ants) = true := by
  refine covV_iff.2 ⟨covL_len ants, fun k hk => ?_⟩
  rw [Bool.eq_iff_iff, covL_get _ _ (oppN_lt k), covL_get _ _ hk]
  refine exists_congr fun p => and_congr_right fun _ => ?_
  have hv := vecC_lt ants p.1 p.2
  generalize vecC ants p.1 p.2 = v at *
  constructor
  · rintro (h | h)
    · right; rw [h, oppN_oppN k hk]
    · left; rw [← oppN_oppN v hv, h, oppN_oppN k hk]
  · rintro (h | h)
    · right; rw [h]
    · left; rw [← h, oppN_oppN v hv]

theorem snoc_ind {α : Type} {Q : List α → Prop} (h0 : Q []) (h1 : ∀ l x, Q l → Q (l ++ [x])) (l : List α) : Q l := by
  rw [← List.reverse_reverse l]
  induction l.reverse with
  | nil => exact h0
  | cons x l ih => rw [List.reverse_cons]; exact h1 _ _ ih
/-- A number laid on a cell of a grid; nothing where another one lies. -/
def gput (st : List (Int × Int) × List Bool) (i : Nat) (x : Int × Int) : Option (List (Int × Int) × List Bool) :=
  if st.2.getD i false = true ∧ st.1.getD i (0, 0) ≠ x then none else some (st.1.set i x, st.2.set i true)
def grid0 : List (Int × Int) × List Bool := (List.replicate 16 (0, 0), List.replicate 16 false)
def gridRun (es : List (Nat × (Int × Int))) : Option (List (Int × Int) × List Bool) := es.foldl (fun o e => o.bind fun st => gput st e.1 e.2) (some grid0)
theorem gridRun_nil : gridRun [] = some grid0 := rfl
theorem gridRun_snoc (es : List (Nat × (Int × Int))) (e : Nat × (Int × Int)) : gridRun (es ++ [e]) = (gridRun es).bind fun st => gput st e.1 e.2 := by
  unfold gridRun; rw [List.foldl_append]; rfl
theorem gridRun_none {es : List (Nat × (Int × Int))} (h : gridRun es = none) (fs : List (Nat × (Int × Int))) : gridRun (es ++ fs) = none := by
  induction fs using snoc_ind with
  | h0 => rw [List.append_nil]; exact h
  | h1 fs f ih => rw [← List.append_assoc, gridRun_snoc, ih]; rfl
theorem getD_set {α : Type} (l : List α) (i k : Nat) (v d : α) (hi : i < l.length) : (l.set i v).getD k d = if k = i then v else l.getD k d := by
  rw [List.getD_eq_getElem?_getD, List.getElem?_set, List.getD_eq_getElem?_getD]
  by_cases h : i = k
  · subst h; rw [if_pos rfl, if_pos hi, if_pos rfl]; rfl
  · rw [if_neg h, if_neg (fun e => h e.symm)]
structure GridIs (es : List (Nat × (Int × Int))) (st : List (Int × Int) × List Bool) : Prop where
  l1 : st.1.length = 16
  l2 : st.2.length = 16
  at_ : ∀ e ∈ es, st.1.getD e.1 (0, 0) = e.2 ∧ st.2.getD e.1 false = true
  known : ∀ k, st.2.getD k false = true → ∃ e ∈ es, e.1 = k
  rest : ∀ k, st.2.getD k false = false → st.1.getD k (0, 0) = (0, 0)
theorem gridRun_is (es : List (Nat × (Int × Int))) (h16 : ∀ e ∈ es, e.1 < 16) (st : List (Int × Int) × List Bool) (h : gridRun es = some st) : GridIs es st := by
  induction es using snoc_ind generalizing st with
  | h0 =>
    rw [gridRun_nil] at h
    injection h with h
    subst h
    have e1 : ∀ k, grid0.2.getD k false = false := fun k => by
      unfold grid0; dsimp only; rw [List.getD_eq_getElem?_getD, List.getElem?_replicate]; split <;> rfl
    refine ⟨by simp [grid0], by simp [grid0], (fun e he => by simp at he), (fun k hk => by rw [e1] at hk; cases hk), fun k _ => ?_⟩
    unfold grid0; dsimp only; rw [List.getD_eq_getElem?_getD, List.getElem?_replicate]; split <;> rfl
  | h1 es e ih =>
    rw [gridRun_snoc] at h
    obtain ⟨st0, h0, h1⟩ := Option.bind_eq_some_iff.1 h
    have g := ih (fun x hx => h16 x (List.mem_append_left _ hx)) st0 h0
    have he : e.1 < 16 := h16 e (List.mem_append_right _ (List.mem_singleton.2 rfl))
    unfold gput at h1
    split at h1
    · cases h1
    · rename_i hc
      injection h1 with h1
      subst h1
      refine ⟨by dsimp only; rw [List.length_set]; exact g.l1, by dsimp only; rw [List.length_set]; exact g.l2, fun x hx => ?_, fun k hk => ?_, fun k hk => ?_⟩
      · dsimp only
        rw [getD_set _ _ _ _ _ (by rw [g.l1]; exact he), getD_set _ _ _ _ _ (by rw [g.l2]; exact he)]
        rcases List.mem_append.1 hx with hx | hx
        · obtain ⟨a1, a2⟩ := g.at_ x hx
          by_cases hxe : x.1 = e.1
          · rw [if_pos hxe, if_pos hxe]
            refine ⟨?_, rfl⟩
            rw [hxe] at a1 a2
            by_cases hne : st0.1.getD e.1 (0, 0) = e.2
            · rw [← hne, a1]
            · exact absurd ⟨a2, hne⟩ hc
          · rw [if_neg hxe, if_neg hxe]; exact ⟨a1, a2⟩
        · obtain rfl := List.mem_singleton.1 hx
          rw [if_pos rfl, if_pos rfl]; exact ⟨rfl, rfl⟩
      · dsimp only at hk
        rw [getD_set _ _ _ _ _ (by rw [g.l2]; exact he)] at hk
        by_cases hke : k = e.1
        · exact ⟨e, List.mem_append_right _ (List.mem_singleton.2 rfl), hke.symm⟩
        · rw [if_neg hke] at hk
          obtain ⟨x, hx, hxk⟩ := g.known k hk
          exact ⟨x, List.mem_append_left _ hx, hxk⟩
      · dsimp only at hk ⊢
        rw [getD_set _ _ _ _ _ (by rw [g.l2]; exact he)] at hk
        rw [getD_set _ _ _ _ _ (by rw [g.l1]; exact he)]
        by_cases hke : k = e.1
        · rw [if_pos hke] at hk; cases hk
        · rw [if_neg hke] at hk ⊢
          exact g.rest k hk
/-- Numbers that agree can be laid. -/
theorem gridRun_ok (es : List (Nat × (Int × Int))) (T : Nat → Int × Int) (h : ∀ e ∈ es, e.1 < 16 ∧ e.2 = T e.1) : ∃ st, gridRun es = some st := by
  induction es using snoc_ind with
  | h0 => exact ⟨_, gridRun_nil⟩
  | h1 es e ih =>
    obtain ⟨st, hst⟩ := ih fun x hx => h x (List.mem_append_left _ hx)
    have g := gridRun_is es (fun x hx => (h x (List.mem_append_left _ hx)).1) st hst
    obtain ⟨_, he2⟩ := h e (List.mem_append_right _ (List.mem_singleton.2 rfl))
    rw [gridRun_snoc, hst]
    refine ⟨(st.1.set e.1 e.2, st.2.set e.1 true), ?_⟩
    show gput st e.1 e.2 = _
    unfold gput
    rw [if_neg]
    rintro ⟨h1, h2⟩
    obtain ⟨x, hx, hxe⟩ := g.known _ h1
    refine h2 ?_
    have := (g.at_ x hx).1
    rw [hxe] at this
    rw [this, (h x (List.mem_append_left _ hx)).2, hxe, he2]
/-- What the first m baselines lay. -/
def gridE (ants : List (Int × Int)) (seen : List (Int × Int)) (m : Nat) : List (Nat × (Int × Int)) := (List.range m).flatMap fun k =>
  [(vecC ants ((pairsN ants.length).getD k (0, 0)).1 ((pairsN ants.length).getD k (0, 0)).2, seen.getD k (0, 0)),
   (oppN (vecC ants ((pairsN ants.length).getD k (0, 0)).1 ((pairsN ants.length).getD k (0, 0)).2), ((seen.getD k (0, 0)).1, -(seen.getD k (0, 0)).2))]
theorem gridE_succ (ants seen : List (Int × Int)) (m : Nat) : gridE ants seen (m + 1) = gridE ants seen m ++
    [(vecC ants ((pairsN ants.length).getD m (0, 0)).1 ((pairsN ants.length).getD m (0, 0)).2, seen.getD m (0, 0))] ++
    [(oppN (vecC ants ((pairsN ants.length).getD m (0, 0)).1 ((pairsN ants.length).getD m (0, 0)).2), ((seen.getD m (0, 0)).1, -(seen.getD m (0, 0)).2))] := by
  unfold gridE; rw [List.range_succ, List.flatMap_append]; simp
theorem gridE_mem {ants seen : List (Int × Int)} {m : Nat} {e : Nat × (Int × Int)} (h : e ∈ gridE ants seen m) : ∃ k, k < m ∧
    (e = (vecC ants ((pairsN ants.length).getD k (0, 0)).1 ((pairsN ants.length).getD k (0, 0)).2, seen.getD k (0, 0)) ∨
     e = (oppN (vecC ants ((pairsN ants.length).getD k (0, 0)).1 ((pairsN ants.length).getD k (0, 0)).2), ((seen.getD k (0, 0)).1, -(seen.getD k (0, 0)).2))) := by
  unfold gridE at h
  obtain ⟨k, hk, he⟩ := List.mem_flatMap.1 h
  refine ⟨k, List.mem_range.1 hk, ?_⟩
  simpa using he
theorem gridE_mem1 (ants seen : List (Int × Int)) {m k : Nat} (h : k < m) : (vecC ants ((pairsN ants.length).getD k (0, 0)).1 ((pairsN ants.length).getD k (0, 0)).2, seen.getD k (0, 0)) ∈ gridE ants seen m :=
  List.mem_flatMap.2 ⟨k, List.mem_range.2 h, by simp⟩
theorem gridE_mem2 (ants seen : List (Int × Int)) {m k : Nat} (h : k < m) : (oppN (vecC ants ((pairsN ants.length).getD k (0, 0)).1 ((pairsN ants.length).getD k (0, 0)).2), ((seen.getD k (0, 0)).1, -(seen.getD k (0, 0)).2)) ∈ gridE ants seen m :=
  List.mem_flatMap.2 ⟨k, List.mem_range.2 h, by simp⟩
theorem gridE_16 (ants seen : List (Int × Int)) (m : Nat) : ∀ e ∈ gridE ants seen m, e.1 < 16 := fun e he => by
  obtain ⟨k, _, rfl | rfl⟩ := gridE_mem he
  · exact vecC_lt _ _ _
  · exact oppN_lt _
/-- The grid of an observation. -/
def gridO (ants seen : List (Int × Int)) : Option (List (Int × Int)) := (gridRun (gridE ants seen (pairsN ants.length).length)).map (·.1)
theorem gridO_is {ants seen g : List (Int × Int)} (h : gridO ants seen = some g) : g.length = 16 ∧ (∀ k, k < (pairsN ants.length).length → g.getD (vecC ants ((pairsN ants.length).getD k (0, 0)).1 ((pairsN ants.length).getD k (0, 0)).2) (0, 0) = seen.getD k (0, 0)) ∧
    (∀ k, k < (pairsN ants.length).length → g.getD (oppN (vecC ants ((pairsN ants.length).getD k (0, 0)).1 ((pairsN ants.length).getD k (0, 0)).2)) (0, 0) = ((seen.getD k (0, 0)).1, -(seen.getD k (0, 0)).2)) ∧
    (∀ k, k < 16 → (covL ants).getD k false = false → g.getD k (0, 0) = (0, 0)) := by
  unfold gridO at h
  obtain ⟨st, hst, rfl⟩ := Option.map_eq_some_iff.1 h
  have G := gridRun_is _ (gridE_16 ants seen _) st hst
  refine ⟨G.l1, fun k hk => (G.at_ _ (gridE_mem1 ants seen hk)).1, fun k hk => (G.at_ _ (gridE_mem2 ants seen hk)).1, fun k hk hc => ?_⟩
  cases hkn : st.2.getD k false
  · exact G.rest k hkn
  · exfalso
    obtain ⟨e, he, rfl⟩ := G.known k hkn
    obtain ⟨j, hj, h1⟩ := gridE_mem he
    have hp : (pairsN ants.length).getD j (0, 0) ∈ pairsN ants.length := getD_mem hj
    have : (covL ants).getD e.1 false = true := (covL_get ants _ hk).2 ⟨_, hp, by rcases h1 with rfl | rfl; exact .inl rfl; exact .inr rfl⟩
    rw [this] at hc; cases hc
theorem getD_idx {α : Type} {l : List α} {x d : α} (h : x ∈ l) : ∃ k, k < l.length ∧ l.getD k d = x := by
  obtain ⟨k, hk, e⟩ := List.mem_iff_getElem.1 h
  exact ⟨k, hk, by rw [List.getD_eq_getElem?_getD, List.getElem?_eq_getElem hk]; exact e⟩
/-- Opposite cells of a grid are conjugate. -/
theorem gridO_conj {ants seen g : List (Int × Int)} (h : gridO ants seen = some g) (k : Nat) (hk : k < 16) : g.getD (oppN k) (0, 0) = ((g.getD k (0, 0)).1, -(g.getD k (0, 0)).2) := by
  obtain ⟨hl, h1, h2, h3⟩ := gridO_is h
  cases hc : (covL ants).getD k false
  · have hc2 : (covL ants).getD (oppN k) false = false := by rw [(covV_iff.1 (covV_cov ants)).2 k hk]; exact hc
    rw [h3 k hk hc, h3 _ (oppN_lt k) hc2]; rfl
  · obtain ⟨p, hp, he⟩ := (covL_get ants k hk).1 hc
    obtain ⟨j, hj, hje⟩ := getD_idx (d := (0, 0)) hp
    have a1 := h1 j hj
    have a2 := h2 j hj
    rw [hje] at a1 a2
    rcases he with rfl | rfl
    · rw [a1, a2]
    · rw [oppN_oppN _ (vecC_lt _ _ _), a1, a2]
      simp
/-- The grid of what the baselines see of a sky: its transform, masked. -/
theorem gridO_obs (ants : List (Int × Int)) (s : List Int) : gridO ants (obsL ants s) = some (maskG (skyT s) (covL ants)) := by
  obtain ⟨st, hst⟩ := gridRun_ok (gridE ants (obsL ants s) (pairsN ants.length).length) (fun k => (skyT s).getD k (0, 0)) (fun e he => by
    refine ⟨gridE_16 _ _ _ e he, ?_⟩
    obtain ⟨k, hk, rfl | rfl⟩ := gridE_mem he
    · exact obsL_get ants s k hk
    · dsimp only
      rw [obsL_get ants s k hk, skyT_opp s _ (vecC_lt _ _ _)])
  have hg : gridO ants (obsL ants s) = some st.1 := by unfold gridO; rw [hst]; rfl
  rw [hg]
  obtain ⟨hl, h1, h2, h3⟩ := gridO_is hg
  congr 1
  refine List.ext_getElem (by rw [hl, maskG_len]) fun k hk1 hk2 => ?_
  have hk : k < 16 := by omega
  have e : st.1.getD k (0, 0) = (maskG (skyT s) (covL ants)).getD k (0, 0) := by
    rw [maskG_get _ _ _ hk]
    split
    · rename_i hc
      obtain ⟨p, hp, he⟩ := (covL_get ants k hk).1 hc
      obtain ⟨j, hj, hje⟩ := getD_idx (d := (0, 0)) hp
      have a1 := h1 j hj
      have a2 := h2 j hj
      rw [obsL_get ants s j hj, hje] at a1 a2
      rcases he with rfl | rfl
      · exact a1
      · rw [a2, skyT_opp s _ (vecC_lt _ _ _)]
    · rename_i hc
      exact h3 k hk (by simpa using hc)
  rwa [List.getD_eq_getElem?_getD, List.getElem?_eq_getElem hk1, List.getD_eq_getElem?_getD, List.getElem?_eq_getElem hk2] at e
theorem gridO_gLe {M : Int} (hM : 0 ≤ M) {ants seen g : List (Int × Int)} (hs : gLe M seen) (h : gridO ants seen = some g) : gLe M g := by
  obtain ⟨hl, h1, h2, h3⟩ := gridO_is h
  intro x hx
  obtain ⟨k, hk, rfl⟩ := getD_idx (d := (0, 0)) hx
  cases hc : (covL ants).getD k false
  · rw [h3 k (by omega) hc]; dsimp only; omega
  · obtain ⟨p, hp, he⟩ := (covL_get ants k (by omega)).1 hc
    obtain ⟨j, hj, hje⟩ := getD_idx (d := (0, 0)) hp
    have a1 := h1 j hj
    have a2 := h2 j hj
    have hb := gLe_get hs hM j
    rw [hje] at a1 a2
    rcases he with he | he
    · rw [he] at a1; rw [a1]; exact hb
    · rw [he] at a2; rw [a2]; dsimp only; omega
end Go.Proofs.Ytcllkocmnohnkaa
