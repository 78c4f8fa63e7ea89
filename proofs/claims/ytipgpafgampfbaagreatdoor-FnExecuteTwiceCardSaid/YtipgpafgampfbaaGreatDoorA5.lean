/- Plain laws of beams. · Sums over the sixteen cells, and the waves. · Plain laws of dirty images and folds. · Plain laws of observations: the waves that the baselines see, grids and images. · Plain laws of grids of observations and of coverages. · Plain laws of arrays of antennas. · Plain laws of cleaning. · Plain laws of a single source. -/
import Derived.Test.YtipgpafgampfbaaGreatDoorA4
import Derived.Test.YtipgpafgampfbaaGreatDoorA3
namespace Go.Proofs.YtipgpafgampfbaaGreatDoor
open Go.RowKit

/-- The weights of a coverage. -/
def wts (c : List Bool) : List Int := c.map fun b => if b then 1 else 0
theorem wts_len (c : List Bool) : (wts c).length = c.length := by simp [wts]
theorem wts_get (c : List Bool) (k : Nat) : (wts c).getD k 0 = if c.getD k false then 1 else 0 := by
  unfold wts
  rw [List.getD_eq_getElem?_getD, List.getElem?_map, List.getD_eq_getElem?_getD]
  cases c[k]? <;> rfl
def wtV (w : List Int) : Bool := w.length == 16 && (List.range 16).all fun k => inR (w.getD k 0) 0 100 && (w.getD (oppN k) 0 == w.getD k 0)
theorem wtV_iff {w : List Int} : wtV w = true ↔ w.length = 16 ∧ ∀ k, k < 16 → (0 ≤ w.getD k 0 ∧ w.getD k 0 ≤ 100) ∧ w.getD (oppN k) 0 = w.getD k 0 := by
  unfold wtV
  rw [Bool.and_eq_true, List.all_eq_true, beq_iff_eq]
  refine and_congr_right fun _ => ⟨fun h k hk => ?_, fun h k hk => ?_⟩
  · have := h k (List.mem_range.2 hk)
    rw [Bool.and_eq_true, inR_iff, beq_iff_eq] at this
    exact this
  · rw [Bool.and_eq_true, inR_iff, beq_iff_eq]
    exact h k (List.mem_range.1 hk)
theorem covV_iff {c : List Bool} : covV c = true ↔ c.length = 16 ∧ ∀ k, k < 16 → c.getD (oppN k) false = c.getD k false := by
  unfold covV
  rw [Bool.and_eq_true, List.all_eq_true, beq_iff_eq]
  refine and_congr_right fun _ => ⟨fun h k hk => by simpa using h k (List.mem_range.2 hk), fun h k hk => by simpa using h k (List.mem_range.1 hk)⟩
theorem wtV_wts {c : List Bool} (h : covV c = true) : wtV (wts c) = true := by
  obtain ⟨hl, ho⟩ := covV_iff.1 h
  refine wtV_iff.2 ⟨by rw [wts_len]; exact hl, fun k hk => ?_⟩
  rw [wts_get, wts_get, ho k hk]
  refine ⟨?_, rfl⟩
  split <;> omega
/-- The beam of weights. -/
def wbeam (w : List Int) : List Int := (trf (reG w) 1).map (·.1)
theorem wbeam_len (w : List Int) : (wbeam w).length = 16 := by unfold wbeam; rw [List.length_map, trf_len]
theorem gLe_reG {M : Int} {s : List Int} (hM : 0 ≤ M) (h : ∀ x ∈ s, -M ≤ x ∧ x ≤ M) : gLe M (reG s) := by
  intro x hx
  unfold reG at hx
  obtain ⟨y, hy, rfl⟩ := List.mem_map.1 hx
  exact ⟨h y hy, by dsimp only; omega⟩
theorem skyV_parts {g : List (Int × Int)} (hl : g.length = 16) (h : gLe 100000 g) : skyV (g.map (·.1)) = true := by
  refine skyV_iff.2 ⟨by rw [List.length_map]; exact hl, fun x hx => ?_⟩
  obtain ⟨y, hy, rfl⟩ := List.mem_map.1 hx
  exact (h y hy).1
theorem wtV_mem {w : List Int} (h : wtV w = true) : ∀ x ∈ w, 0 ≤ x ∧ x ≤ 100 := fun x hx => by
  obtain ⟨hl, ho⟩ := wtV_iff.1 h
  obtain ⟨k, hk, rfl⟩ := List.mem_iff_getElem.1 hx
  have := (ho k (by omega)).1
  rwa [List.getD_eq_getElem?_getD, List.getElem?_eq_getElem hk] at this
theorem gLe_mono {M N : Int} {g : List (Int × Int)} (h : gLe M g) (hMN : M ≤ N) : gLe N g := fun x hx => by
  have := h x hx; omega
theorem skyV_wbeam {w : List Int} (h : wtV w = true) : skyV (wbeam w) = true :=
  skyV_parts (trf_len _ _) (gLe_mono (trf_le (gLe_reG (M := 100) (by omega) fun x hx => by have := wtV_mem h x hx; omega) (by omega) 1) (by omega))
theorem reG_get (s : List Int) (a : Nat) : (reG s).getD a (0, 0) = (s.getD a 0, 0) := by
  unfold reG
  rw [List.getD_eq_getElem?_getD, List.getElem?_map, List.getD_eq_getElem?_getD]
  cases s[a]? <;> rfl
theorem turn_re (x k : Int) : turnAt (x, 0) k = (x * (unit k).1, x * (unit k).2) := by unfold turnAt; simp
/-- A sum over the cells. -/
def sum16 (f : Nat → Int) : Int := ((List.range 16).map f).sum
theorem wbeam_get (w : List Int) (k : Nat) (h : k < 16) : (wbeam w).getD k 0 = sum16 fun l => w.getD l 0 * (unit (ph k l)).1 := by
  unfold wbeam
  have e : ((trf (reG w) 1).map (·.1)).getD k 0 = ((trf (reG w) 1).getD k (0, 0)).1 := by
    rw [List.getD_eq_getElem?_getD, List.getElem?_map, List.getD_eq_getElem?_getD]
    cases (trf (reG w) 1)[k]? <;> rfl
  rw [e, trf_get _ _ _ h]
  show ((List.range 16).map fun a => (trA (reG w) 1 k a).1).sum = _
  unfold sum16
  congr 1
  refine List.map_congr_left fun a _ => ?_
  unfold trA
  rw [reG_get, turn_re, Int.one_mul]
theorem sum16_congr {f g : Nat → Int} (h : ∀ k, k < 16 → f k = g k) : sum16 f = sum16 g := by
  unfold sum16
  congr 1
  exact List.map_congr_left fun a ha => h a (List.mem_range.1 ha)
/-- What the reference adds for a beam. -/
def beamTerm (c : List Bool) (k l : Nat) : Int := if c.getD l false then (unit (ph k l)).1 else 0
def beamSum (c : List Bool) (k n : Nat) : Int := ((List.range n).map (beamTerm c k)).sum
theorem beamSum_succ (c : List Bool) (k n : Nat) : beamSum c k (n + 1) = beamSum c k n + beamTerm c k n := by
  unfold beamSum
  rw [List.range_succ, List.map_append, List.sum_append]; simp
theorem beamTerm_bd (c : List Bool) (k l : Nat) : -1 ≤ beamTerm c k l ∧ beamTerm c k l ≤ 1 := by
  unfold beamTerm
  split
  · rcases unit_cases (ph k l) with ⟨_, e⟩ | ⟨_, e⟩ | ⟨_, e⟩ | ⟨_, e⟩ <;> rw [e] <;> simp
  · omega
theorem beamSum_bd (c : List Bool) (k n : Nat) : -(n : Int) ≤ beamSum c k n ∧ beamSum c k n ≤ n := by
  induction n with
  | zero => simp [beamSum]
  | succ n ih =>
    rw [beamSum_succ]
    have := beamTerm_bd c k n
    omega
/-- The beam. -/
def beamL (c : List Bool) : List Int := (List.range 16).map fun k => beamSum c k 16
theorem beamL_len (c : List Bool) : (beamL c).length = 16 := by simp [beamL]
theorem beamL_get (c : List Bool) (k : Nat) (h : k < 16) : (beamL c).getD k 0 = beamSum c k 16 := by
  unfold beamL; rw [List.getD_eq_getElem?_getD, List.getElem?_map, List.getElem?_range h]; rfl
theorem ext16 {xs ys : List Int} (hx : xs.length = 16) (hy : ys.length = 16) (h : ∀ k, k < 16 → xs.getD k 0 = ys.getD k 0) : xs = ys := by
  refine List.ext_getElem (by omega) fun i h1 h2 => ?_
  have := h i (by omega)
  rwa [List.getD_eq_getElem?_getD, List.getElem?_eq_getElem h1, List.getD_eq_getElem?_getD, List.getElem?_eq_getElem h2] at this
theorem beamL_eq (c : List Bool) : wbeam (wts c) = beamL c := by
  refine ext16 (wbeam_len _) (beamL_len _) fun k hk => ?_
  rw [wbeam_get _ _ hk, beamL_get _ _ hk]
  refine sum16_congr fun l hl => ?_
  rw [wts_get]
  unfold beamTerm
  split <;> simp
def countB (c : List Bool) : Int := sum16 fun l => if c.getD l false then 1 else 0
theorem skyV_beam {c : List Bool} (h : covV c = true) : skyV (beamL c) = true := by
  rw [← beamL_eq]; exact skyV_wbeam (wtV_wts h)
end Go.Proofs.YtipgpafgampfbaaGreatDoor

namespace Go.Proofs.YtipgpafgampfbaaGreatDoor
open Go.RowKit

def sumN (n : Nat) (f : Nat → Int) : Int := ((List.range n).map f).sum
theorem sumN_succ (n : Nat) (f : Nat → Int) : sumN (n + 1) f = sumN n f + f n := by
  unfold sumN; rw [List.range_succ, List.map_append, List.sum_append]; simp
/-- Cells added and subtracted. -/
def addC (a b : Nat) : Nat := 4 * ((a / 4 + b / 4) % 4) + (a % 4 + b % 4) % 4
def subC (a b : Nat) : Nat := 4 * ((a / 4 + 4 - b / 4) % 4) + (a % 4 + 4 - b % 4) % 4
theorem addC_lt (a b : Nat) : addC a b < 16 := by unfold addC; omega
theorem subC_lt (a b : Nat) : subC a b < 16 := by unfold subC; omega
theorem addC_sub : ∀ a, a < 16 → ∀ b, b < 16 → subC (addC a b) b = a := by decide +kernel
theorem subC_add : ∀ a, a < 16 → ∀ b, b < 16 → addC (subC a b) b = a := by decide +kernel
theorem oppN_oppN : ∀ a, a < 16 → oppN (oppN a) = a := by decide +kernel
/-- The real and the imaginary part of a wave at a cell. -/
def wr (t a : Nat) : Int := (unit (ph t a)).1
def wi (t a : Nat) : Int := (unit (ph t a)).2
end Go.Proofs.YtipgpafgampfbaaGreatDoor

namespace Go.Proofs.YtipgpafgampfbaaGreatDoor
open Go.RowKit

theorem tr_real (s : List Int) (t : Nat) : trT (reG s) 1 t 16 = (sum16 fun a => s.getD a 0 * wr t a, sum16 fun a => s.getD a 0 * wi t a) := by
  unfold trT sum16
  congr 1 <;> congr 1 <;> refine List.map_congr_left fun a _ => ?_ <;> (unfold trA; rw [reG_get, turn_re, Int.one_mul]; rfl)
/-- A grid of which the unset cells are struck. -/
def maskG (g : List (Int × Int)) (c : List Bool) : List (Int × Int) := (List.range 16).map fun k => if c.getD k false then g.getD k (0, 0) else (0, 0)
theorem maskG_len (g : List (Int × Int)) (c : List Bool) : (maskG g c).length = 16 := by simp [maskG]
theorem maskG_get (g : List (Int × Int)) (c : List Bool) (k : Nat) (h : k < 16) : (maskG g c).getD k (0, 0) = if c.getD k false then g.getD k (0, 0) else (0, 0) := by
  unfold maskG; rw [List.getD_eq_getElem?_getD, List.getElem?_map, List.getElem?_range h]; rfl
def dirtyL (s : List Int) (c : List Bool) : List Int := (trf (maskG (trf (reG s) 1) c) (-1)).map (·.1)
theorem dirtyL_len (s : List Int) (c : List Bool) : (dirtyL s c).length = 16 := by unfold dirtyL; rw [List.length_map, trf_len]
theorem fst_getD (g : List (Int × Int)) (k : Nat) : (g.map (·.1)).getD k 0 = (g.getD k (0, 0)).1 := by
  rw [List.getD_eq_getElem?_getD, List.getElem?_map, List.getD_eq_getElem?_getD]
  cases g[k]? <;> rfl
end Go.Proofs.YtipgpafgampfbaaGreatDoor

namespace Go.Proofs.YtipgpafgampfbaaGreatDoor
open Go.RowKit

/-- The cell of a vector. -/
def cellN (x y : Int) : Nat := (cellI x y).toNat
theorem cellN_lt (x y : Int) : cellN x y < 16 := by unfold cellN; have := cellI_bd x y; omega
theorem cellN_cast (x y : Int) : cellI x y = (cellN x y : Int) := by unfold cellN; have := cellI_bd x y; omega
theorem cellN_neg (x y : Int) : cellN (-x) (-y) = oppN (cellN x y) := by unfold cellN cellI oppN; omega
/-- The vector of two antennas. -/
def vecX (ants : List (Int × Int)) (i j : Nat) : Int := (ants.getD j (0, 0)).1 - (ants.getD i (0, 0)).1
def vecY (ants : List (Int × Int)) (i j : Nat) : Int := (ants.getD j (0, 0)).2 - (ants.getD i (0, 0)).2
def vecC (ants : List (Int × Int)) (i j : Nat) : Nat := cellN (vecX ants i j) (vecY ants i j)
theorem vecC_lt (ants : List (Int × Int)) (i j : Nat) : vecC ants i j < 16 := cellN_lt _ _
theorem vecC_swap (ants : List (Int × Int)) (i j : Nat) : vecC ants j i = oppN (vecC ants i j) := by
  unfold vecC
  rw [← cellN_neg]
  unfold vecX vecY
  congr 1 <;> omega
/-- The transform of a sky. -/
def skyT (s : List Int) : List (Int × Int) := trf (reG s) 1
theorem skyT_len (s : List Int) : (skyT s).length = 16 := trf_len _ _
theorem skyT_get (s : List Int) (t : Nat) (h : t < 16) : (skyT s).getD t (0, 0) = (sum16 fun a => s.getD a 0 * wr t a, sum16 fun a => s.getD a 0 * wi t a) := by
  unfold skyT; rw [trf_get _ _ _ h, tr_real]
/-- Skies added. -/
def addS (a b : List Int) (m : Int) : List Int := (List.range 16).map fun k => a.getD k 0 + m * b.getD k 0
theorem addS_len (a b : List Int) (m : Int) : (addS a b m).length = 16 := by simp [addS]
theorem addS_get (a b : List Int) (m : Int) (k : Nat) (h : k < 16) : (addS a b m).getD k 0 = a.getD k 0 + m * b.getD k 0 := by
  unfold addS; rw [List.getD_eq_getElem?_getD, List.getElem?_map, List.getElem?_range h]; rfl
/-- A sky shifted by the cell d. -/
def shL (s : List Int) (d : Nat) : List Int := (List.range 16).map fun x => s.getD (subC x d) 0
theorem shL_len (s : List Int) (d : Nat) : (shL s d).length = 16 := by simp [shL]
theorem shL_get (s : List Int) (d x : Nat) (h : x < 16) : (shL s d).getD x 0 = s.getD (subC x d) 0 := by
  unfold shL; rw [List.getD_eq_getElem?_getD, List.getElem?_map, List.getElem?_range h]; rfl
end Go.Proofs.YtipgpafgampfbaaGreatDoor

namespace Go.Proofs.YtipgpafgampfbaaGreatDoor
open Go.RowKit

/-- The coverage of an array. -/
def covL (ants : List (Int × Int)) : List Bool := (List.range 16).map fun k => (pairsN ants.length).any fun p => vecC ants p.1 p.2 == k || oppN (vecC ants p.1 p.2) == k
theorem covL_len (ants : List (Int × Int)) : (covL ants).length = 16 := by simp [covL]
theorem covL_get (ants : List (Int × Int)) (k : Nat) (h : k < 16) : (covL ants).getD k false = true ↔ ∃ p ∈ pairsN ants.length, vecC ants p.1 p.2 = k ∨ oppN (vecC ants p.1 p.2) = k := by
  unfold covL
  rw [List.getD_eq_getElem?_getD, List.getElem?_map, List.getElem?_range h]
  simp
theorem covV_cov (ants : List (Int × Int)) : covV (covL ants) = true := by
  refine covV_iff.2 ⟨covL_len ants, fun k hk => ?_⟩
  rw [Bool.eq_iff_iff, covL_get _ _ (oppN_lt k), covL_get _ _ hk]
  refine exists_congr fun p => and_congr_right fun _ => ?_
  have hv := vecC_lt ants p.1 p.2
  generalize vecC ants p.1 p.2 = v at *
  constructor
  · rintro (h | h)
    · right; rw [h, oppN_oppN k hk]
    · left; rw [← oppN_oppN v hv, h, oppN_oppN k hk]
  · rintro (h | h)
    · right; rw [h]
    · left; rw [← h, oppN_oppN v hv]

structure GridIs (es : List (Nat × (Int × Int))) (st : List (Int × Int) × List Bool) : Prop where
  l1 : st.1.length = 16
  l2 : st.2.length = 16
  at_ : ∀ e ∈ es, st.1.getD e.1 (0, 0) = e.2 ∧ st.2.getD e.1 false = true
  known : ∀ k, st.2.getD k false = true → ∃ e ∈ es, e.1 = k
  rest : ∀ k, st.2.getD k false = false → st.1.getD k (0, 0) = (0, 0)
theorem getD_idx {α : Type} {l : List α} {x d : α} (h : x ∈ l) : ∃ k, k < l.length ∧ l.getD k d = x := by
  obtain ⟨k, hk, e⟩ := List.mem_iff_getElem.1 h
  exact ⟨k, hk, by rw [List.getD_eq_getElem?_getD, List.getElem?_eq_getElem hk]; exact e⟩
end Go.Proofs.YtipgpafgampfbaaGreatDoor

namespace Go.Proofs.YtipgpafgampfbaaGreatDoor
open Go.RowKit

def antOk (a : Int × Int) : Bool := inR a.1 (-1000) 1000 && inR a.2 (-1000) 1000
/-- So many antennas are places, each other than those ahead of it. -/
def arrP (xs : List (Int × Int)) (n : Nat) : Bool := (List.range n).all fun i => antOk (xs.getD i (0, 0)) && !decide (xs.getD i (0, 0) ∈ xs.take i)
def arrV (xs : List (Int × Int)) : Bool := inR xs.length 2 7 && arrP xs xs.length
theorem arrP_succ (xs : List (Int × Int)) (n : Nat) : arrP xs (n + 1) = (arrP xs n && (antOk (xs.getD n (0, 0)) && !decide (xs.getD n (0, 0) ∈ xs.take n))) := all_range_succ _ n
theorem arrP_no {xs : List (Int × Int)} {n i : Nat} (hi : i < n) (h : (antOk (xs.getD i (0, 0)) && !decide (xs.getD i (0, 0) ∈ xs.take i)) = false) : arrP xs n = false := by
  unfold arrP
  rw [List.all_eq_false]
  exact ⟨i, List.mem_range.2 hi, by rw [h]; simp⟩
theorem arrV_len {xs : List (Int × Int)} (h : arrV xs = true) : 2 ≤ xs.length ∧ xs.length ≤ 7 := by
  unfold arrV at h
  rw [Bool.and_eq_true, inR_iff] at h
  omega
theorem arrV_gLe {xs : List (Int × Int)} (h : arrV xs = true) : gLe 1000 xs := fun x hx => by
  obtain ⟨k, hk, rfl⟩ := getD_idx (d := (0, 0)) hx
  unfold arrV at h
  rw [Bool.and_eq_true] at h
  have h2 := h.2
  unfold arrP at h2
  rw [List.all_eq_true] at h2
  have h3 := h2 k (List.mem_range.2 hk)
  rw [Bool.and_eq_true] at h3
  have h4 := h3.1
  unfold antOk at h4
  rw [Bool.and_eq_true, inR_iff, inR_iff] at h4
  exact h4
theorem vec_bd {xs : List (Int × Int)} (h : gLe 1000 xs) (i j : Nat) : (-2000 ≤ vecX xs i j ∧ vecX xs i j ≤ 2000) ∧ -2000 ≤ vecY xs i j ∧ vecY xs i j ≤ 2000 := by
  have h1 := gLe_get h (by omega) i
  have h2 := gLe_get h (by omega) j
  unfold vecX vecY
  omega
/-- The pair of a baseline. -/
def pairAt (n k : Nat) : Nat × Nat := (pairsN n).getD k (0, 0)
theorem pairAt_lt {n k : Nat} (h : k < (pairsN n).length) : (pairAt n k).1 < (pairAt n k).2 ∧ (pairAt n k).2 < n := mem_pairsN (getD_mem h)
end Go.Proofs.YtipgpafgampfbaaGreatDoor

namespace Go.Proofs.YtipgpafgampfbaaGreatDoor
open Go.RowKit

def maxL (l : List Int) : Int := l.foldl max (l.getD 0 0)
theorem foldl_max_ge (l : List Int) (a : Int) : a ≤ l.foldl max a ∧ ∀ x ∈ l, x ≤ l.foldl max a := by
  induction l generalizing a with
  | nil => simp
  | cons y l ih =>
    obtain ⟨h1, h2⟩ := ih (max a y)
    refine ⟨by simp only [List.foldl_cons]; omega, fun x hx => ?_⟩
    simp only [List.foldl_cons]
    rcases List.mem_cons.1 hx with rfl | hx
    · omega
    · exact h2 x hx
theorem foldl_max_mem (l : List Int) (a : Int) : l.foldl max a = a ∨ l.foldl max a ∈ l := by
  induction l generalizing a with
  | nil => simp
  | cons y l ih =>
    simp only [List.foldl_cons]
    rcases ih (max a y) with h | h
    · rw [h]
      by_cases hay : y ≤ a
      · left; omega
      · right; rw [Int.max_eq_right (by omega)]; exact List.mem_cons_self
    · right; exact List.mem_cons_of_mem _ h
theorem maxL_ge {l : List Int} {x : Int} (h : x ∈ l) : x ≤ maxL l := (foldl_max_ge l _).2 x h
theorem maxL_mem {l : List Int} (h : 0 < l.length) : maxL l ∈ l := by
  rcases foldl_max_mem l (l.getD 0 0) with e | e
  · unfold maxL; rw [e]; exact getD_mem h
  · exact e
/-- The first place of the greatest number. -/
def peakI (l : List Int) : Nat := l.idxOf (maxL l)
theorem peakI_lt {l : List Int} (h : 0 < l.length) : peakI l < l.length := List.idxOf_lt_length_iff.2 (maxL_mem h)
theorem peakI_get {l : List Int} (h : 0 < l.length) : l.getD (peakI l) 0 = maxL l := by
  have hl := peakI_lt h
  rw [List.getD_eq_getElem?_getD, List.getElem?_eq_getElem hl]
  exact List.getElem_idxOf hl

/-- One step of cleaning by the beam b. -/
def cleanStep (b : List Int) (st : List Int × List Int) : Option (List Int × List Int) :=
  if (skyV st.1 && skyV st.2) = true ∧ skyV b = true ∧ 1 ≤ b.getD 0 0 then
    if 0 ≤ maxL st.2 ∧ 1 ≤ maxL st.2 / b.getD 0 0 then
      if (skyV (st.1.set (peakI st.2) (st.1.getD (peakI st.2) 0 + maxL st.2 / b.getD 0 0)) && skyV (addS st.2 (shL b (peakI st.2)) (-(maxL st.2 / b.getD 0 0)))) = true then
        some (st.1.set (peakI st.2) (st.1.getD (peakI st.2) 0 + maxL st.2 / b.getD 0 0), addS st.2 (shL b (peakI st.2)) (-(maxL st.2 / b.getD 0 0)))
      else none
    else none
  else none
/-- So many steps of cleaning, or as many as there are. -/
def cleanIter (b : List Int) : Nat → List Int × List Int → (List Int × List Int) × Nat
  | 0, st => (st, 0)
  | m + 1, st => match cleanStep b st with
    | none => (st, 0)
    | some st' => ((cleanIter b m st').1, (cleanIter b m st').2 + 1)
theorem cleanIter_none {b : List Int} {st : List Int × List Int} (h : cleanStep b st = none) (m : Nat) : cleanIter b m st = (st, 0) := by
  cases m with
  | zero => rfl
  | succ m => simp only [cleanIter, h]
theorem cleanIter_some {b : List Int} {st st' : List Int × List Int} (h : cleanStep b st = some st') (m : Nat) : cleanIter b (m + 1) st = ((cleanIter b m st').1, (cleanIter b m st').2 + 1) := by
  simp only [cleanIter, h]

theorem set_get (l : List Int) (i k : Nat) (v : Int) (hi : i < l.length) : (l.set i v).getD k 0 = if k = i then v else l.getD k 0 := by
  rw [List.getD_eq_getElem?_getD, List.getElem?_set, List.getD_eq_getElem?_getD]
  by_cases h : i = k
  · subst h; rw [if_pos rfl, if_pos hi, if_pos rfl]; rfl
  · rw [if_neg h, if_neg (fun e => h e.symm)]
theorem skyV_of {l : List Int} (hl : l.length = 16) (h : ∀ k, k < 16 → -100000 ≤ l.getD k 0 ∧ l.getD k 0 ≤ 100000) : skyV l = true := by
  refine skyV_iff.2 ⟨hl, fun x hx => ?_⟩
  obtain ⟨k, hk, rfl⟩ := List.mem_iff_getElem.1 hx
  have := h k (by omega)
  rwa [List.getD_eq_getElem?_getD, List.getElem?_eq_getElem hk] at this
end Go.Proofs.YtipgpafgampfbaaGreatDoor

namespace Go.Proofs.YtipgpafgampfbaaGreatDoor
open Go.RowKit

def zeros16 : List Int := List.replicate 16 0
theorem zeros16_get (k : Nat) : zeros16.getD k 0 = 0 := by
  unfold zeros16
  rw [List.getD_eq_getElem?_getD, List.getElem?_replicate]
  split <;> rfl
end Go.Proofs.YtipgpafgampfbaaGreatDoor
