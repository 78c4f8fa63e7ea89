/- Plain laws of dirty images and folds. -/
import Derived.Test.YtcllkocmnohnkaaSum
namespace Go.Proofs.Ytcllkocmnohnkaa
open Go.RowKit

theorem tr_real (s : List Int) (t : Nat) : trT (reG s) 1 t 16 = (sum16 fun a => s.getD a 0 * wr t a, sum16 fun a => s.getD a 0 * wi t a) := by
  unfold trT sum16
  congr 1 <;> congr 1 <;> refine List.map_congr_left fun a _ => ?_ <;> (unfold trA; rw [reG_get, turn_re, Int.one_mul]; rfl)
theorem tr_back (g : List (Int × Int)) (x : Nat) : trT g (-1) x 16 = (sum16 fun t => (g.getD t (0, 0)).1 * wr x t + (g.getD t (0, 0)).2 * wi x t, sum16 fun t => (g.getD t (0, 0)).2 * wr x t - (g.getD t (0, 0)).1 * wi x t) := by
  have e : ∀ t, unit (-1 * ph x t) = (wr x t, -(wi x t)) := fun t => by
    rw [show -1 * ph x t = -(ph x t) by omega, unit_neg]; rfl
  unfold trT sum16
  congr 1 <;> congr 1 <;> refine List.map_congr_left fun t _ => ?_ <;> (unfold trA turnAt; rw [e]; simp only [Int.mul_neg]; omega)
/-- A grid of which the unset cells are struck. -/
def maskG (g : List (Int × Int)) (c : List Bool) : List (Int × Int) := (List.range 16).map fun k => if c.getD k false then g.getD k (0, 0) else (0, 0)
theorem maskG_len (g : List (Int × Int)) (c : List Bool) : (maskG g c).length = 16 := by simp [maskG]
theorem maskG_get (g : List (Int × Int)) (c : List Bool) (k : Nat) (h : k < 16) : (maskG g c).getD k (0, 0) = if c.getD k false then g.getD k (0, 0) else (0, 0) := by
  unfold maskG; rw [List.getD_eq_getElem?_getD, List.getElem?_map, List.getElem?_range h]; rfl
def dirtyL (s : List Int) (c : List Bool) : List Int := (trf (maskG (trf (reG s) 1) c) (-1)).map (·.1)
theorem dirtyL_len (s : List Int) (c : List Bool) : (dirtyL s c).length = 16 := by unfold dirtyL; rw [List.length_map, trf_len]
theorem fst_getD (g : List (Int × Int)) (k : Nat) : (g.map (·.1)).getD k 0 = (g.getD k (0, 0)).1 := by
  rw [List.getD_eq_getElem?_getD, List.getElem?_map, List.getD_eq_getElem?_getD]
  cases g[k]? <;> rfl
theorem beam_wr (c : List Bool) (k : Nat) (h : k < 16) : (beamL c).getD k 0 = sum16 fun t => if c.getD t false then wr k t else 0 := by
  rw [beamL_get _ _ h]; rfl
/-- A dirty image is the sky folded by the beam. -/
theorem dirty_get (s : List Int) (c : List Bool) (x : Nat) (hx : x < 16) : (dirtyL s c).getD x 0 = sum16 fun a => s.getD a 0 * (beamL c).getD (subC a x) 0 := by
  unfold dirtyL
  rw [fst_getD, trf_get _ _ _ hx, tr_back]
  dsimp only
  have e : ∀ t, t < 16 → ((maskG (trf (reG s) 1) c).getD t (0, 0)).1 * wr x t + ((maskG (trf (reG s) 1) c).getD t (0, 0)).2 * wi x t = sum16 fun a => s.getD a 0 * if c.getD t false then wr (subC a x) t else 0 := fun t ht => by
    rw [maskG_get _ _ _ ht]
    split
    · rw [trf_get _ _ _ ht, tr_real]
      dsimp only
      rw [← sum16_mul', ← sum16_mul', ← sum16_add]
      refine sum16_congr fun a ha => ?_
      rw [wr_comm (subC a x) t, wr_sub t a x ht ha hx, wr_comm x t, wi_comm x t, Int.mul_add, Int.mul_assoc, Int.mul_assoc]
    · rw [sum16_congr (g := fun _ => 0) fun a _ => by simp, sum16_zero]
      simp
  rw [sum16_congr e, sum16_comm]
  refine sum16_congr fun a ha => ?_
  rw [sum16_mul, beam_wr _ _ (subC_lt a x)]
/-- The beam in the other direction. -/
theorem beam_even (c : List Bool) (a b : Nat) (ha : a < 16) (hb : b < 16) : (beamL c).getD (subC b a) 0 = (beamL c).getD (subC a b) 0 := by
  rw [subC_opp a ha b hb, beam_opp c _ (subC_lt a b)]
/-- A fold of two skies. -/
def foldL (s b : List Int) : List Int := (List.range 16).map fun x => sum16 fun a => s.getD a 0 * b.getD (subC x a) 0
theorem foldL_len (s b : List Int) : (foldL s b).length = 16 := by simp [foldL]
theorem foldL_get (s b : List Int) (x : Nat) (h : x < 16) : (foldL s b).getD x 0 = sum16 fun a => s.getD a 0 * b.getD (subC x a) 0 := by
  unfold foldL; rw [List.getD_eq_getElem?_getD, List.getElem?_map, List.getElem?_range h]; rfl
theorem dirty_fold (s : List Int) (c : List Bool) : foldL s (beamL c) = dirtyL s c := by
  refine ext16 (foldL_len _ _) (dirtyL_len _ _) fun x hx => ?_
  rw [foldL_get _ _ _ hx, dirty_get _ _ _ hx]
  exact sum16_congr fun a ha => by rw [beam_even c a x ha hx]
def skySum (s : List Int) : Int := sum16 fun k => s.getD k 0
theorem dirty_sum (s : List Int) (c : List Bool) : skySum (dirtyL s c) = skySum s * skySum (beamL c) := by
  unfold skySum
  rw [sum16_congr fun x hx => dirty_get s c x hx, sum16_comm, ← sum16_mul']
  refine sum16_congr fun a ha => ?_
  rw [sum16_mul]
  congr 1
  exact sum16_perm (fun x => subC a x) (perm_sub' a ha) fun d => (beamL c).getD d 0
/-- What the cells of waves add up to: two waves folded. -/
theorem wr_fold : ∀ t, t < 16 → ∀ u, u < 16 → ∀ x, x < 16 → sum16 (fun a => wr a t * wr (subC x a) u) = (if t = u then 8 * wr x t else 0) + if t = oppN u then 8 * wr x t else 0 := by decide +kernel
theorem beam_fold {c : List Bool} (hv : covV c = true) : foldL (beamL c) (beamL c) = (beamL c).map fun x => 16 * x := by
  refine ext16 (foldL_len _ _) (by rw [List.length_map, beamL_len]) fun x hx => ?_
  have e0 : ((beamL c).map fun x => 16 * x).getD x 0 = 16 * (beamL c).getD x 0 := by
    rw [List.getD_eq_getElem?_getD, List.getElem?_map, List.getD_eq_getElem?_getD]
    cases (beamL c)[x]? <;> rfl
  obtain ⟨_, ho⟩ := covV_iff.1 hv
  rw [foldL_get _ _ _ hx, e0, beam_wr _ _ hx, ← sum16_mul]
  have e1 : ∀ a, a < 16 → (beamL c).getD a 0 * (beamL c).getD (subC x a) 0 = sum16 fun t => sum16 fun u => if c.getD t false = true ∧ c.getD u false = true then wr a t * wr (subC x a) u else 0 := fun a ha => by
    rw [beam_wr _ _ ha, beam_wr _ _ (subC_lt x a), ← sum16_mul']
    refine sum16_congr fun t _ => ?_
    rw [← sum16_mul]
    refine sum16_congr fun u _ => ?_
    cases c.getD t false <;> cases c.getD u false <;> simp
  rw [sum16_congr e1, sum16_comm]
  refine sum16_congr fun t ht => ?_
  rw [sum16_comm]
  have e2 : ∀ u, u < 16 → (sum16 fun a => if c.getD t false = true ∧ c.getD u false = true then wr a t * wr (subC x a) u else 0) = if c.getD t false = true ∧ c.getD u false = true then ((if t = u then 8 * wr x t else 0) + if t = oppN u then 8 * wr x t else 0) else 0 := fun u hu => by
    split
    · exact wr_fold t ht u hu x hx
    · exact sum16_zero
  rw [sum16_congr e2]
  cases hc : c.getD t false
  · rw [sum16_congr (g := fun _ => 0) fun u _ => by simp, sum16_zero]
    simp
  · have e3 : ∀ u, u < 16 → (if true = true ∧ c.getD u false = true then ((if t = u then 8 * wr x t else 0) + if t = oppN u then 8 * wr x t else 0) else 0) = (if u = t then 8 * wr x t else 0) + if u = oppN t then 8 * wr x t else 0 := fun u hu => by
      by_cases h1 : u = t
      · subst h1
        rw [if_pos ⟨rfl, hc⟩, if_pos rfl]
      · by_cases h2 : u = oppN t
        · subst h2
          rw [if_pos ⟨rfl, by rw [ho t ht]; exact hc⟩, oppN_oppN t ht, if_neg (fun h => h1 h.symm), if_pos rfl, if_neg h1, if_pos rfl]
        · rw [if_neg h1, if_neg h2]
          split
          · rw [if_neg (fun h => h1 h.symm), if_neg (fun h => h2 (by rw [h, oppN_oppN u hu]))]
          · rfl
    rw [sum16_congr e3, sum16_add, sum16_one t ht _ (fun k _ hk => if_neg hk), sum16_one (oppN t) (oppN_lt t) _ (fun k _ hk => if_neg hk), if_pos rfl, if_pos rfl]
    simp only [if_true]
    omega
/-- The holes of a coverage have the rest of the full beam. -/
def holesC (c : List Bool) : List Bool := c.map not
theorem holesC_get {c : List Bool} (hl : c.length = 16) (k : Nat) (h : k < 16) : (holesC c).getD k false = !(c.getD k false) := by
  unfold holesC
  rw [List.getD_eq_getElem?_getD, List.getElem?_map, List.getD_eq_getElem?_getD, List.getElem?_eq_getElem (by omega)]; rfl
theorem covV_holes {c : List Bool} (h : covV c = true) : covV (holesC c) = true := by
  obtain ⟨hl, ho⟩ := covV_iff.1 h
  refine covV_iff.2 ⟨by unfold holesC; rw [List.length_map]; exact hl, fun k hk => ?_⟩
  rw [holesC_get hl _ (oppN_lt k), holesC_get hl _ hk, ho k hk]
theorem beam_holes {c : List Bool} (hl : c.length = 16) (k : Nat) (hk : k < 16) : (beamL c).getD k 0 + (beamL (holesC c)).getD k 0 = if k = 0 then 16 else 0 := by
  rw [beam_wr _ _ hk, beam_wr _ _ hk, ← sum16_add, ← wr_sum k hk]
  refine sum16_congr fun t ht => ?_
  rw [holesC_get hl t ht, wr_comm t k]
  cases c.getD t false <;> simp
end Go.Proofs.Ytcllkocmnohnkaa
