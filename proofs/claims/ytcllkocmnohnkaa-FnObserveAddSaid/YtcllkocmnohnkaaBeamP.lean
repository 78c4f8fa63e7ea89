/- Plain laws of beams. -/
import Derived.Test.YtcllkocmnohnkaaTrans
namespace Go.Proofs.Ytcllkocmnohnkaa
open Go.RowKit

/-- The weights of a coverage. -/
def wts (c : List Bool) : List Int := c.map fun b => if b then 1 else 0
theorem wts_len (c : List Bool) : (wts c).length = c.length := by simp [wts]
theorem wts_get (c : List Bool) (k : Nat) : (wts c).getD k 0 = if c.getD k false then 1 else 0 := by
  unfold wts
  rw [List.getD_eq_getElem?_getD, List.getElem?_map, List.getD_eq_getElem?_getD]
  cases c[k]? <;> rfl
def wtV (w : List Int) : Bool := w.length == 16 && (List.range 16).all fun k => inR (w.getD k 0) 0 100 && (w.getD (oppN k) 0 == w.getD k 0)
theorem wtV_iff {w : List Int} : wtV w = true ↔ w.length = 16 ∧ ∀ k, k < 16 → (0 ≤ w.getD k 0 ∧ w.getD k 0 ≤ 100) ∧ w.getD (oppN k) 0 = w.getD k 0 := by
  unfold wtV
  rw [Bool.and_eq_true, List.all_eq_true, beq_iff_eq]
  refine and_congr_right fun _ => ⟨fun h k hk => ?_, fun h k hk => ?_⟩
  · have := h k (List.mem_range.2 hk)
    rw [Bool.and_eq_true, inR_iff, beq_iff_eq] at this
    exact this
  · rw [Bool.and_eq_true, inR_iff, beq_iff_eq]
    exact h k (List.mem_range.1 hk)
theorem covV_iff {c : List Bool} : covV c = true ↔ c.length = 16 ∧ ∀ k, k < 16 → c.getD (oppN k) false = c.getD k false := by
  unfold covV
  rw [Bool.and_eq_true, List.all_eq_true, beq_iff_eq]
  refine and_congr_right fun _ => ⟨fun h k hk => by simpa using h k (List.mem_range.2 hk), fun h k hk => by simpa using h k (List.mem_range.1 hk)⟩
theorem wtV_wts {c : List Bool} (h : covV c = true) : wtV (wts c) = true := by
  obtain ⟨hl, ho⟩ := covV_iff.1 h
  refine wtV_iff.2 ⟨by rw [wts_len]; exact hl, fun k hk => ?_⟩
  rw [wts_get, wts_get, ho k hk]
  refine ⟨?_, rfl⟩
  split <;> omega
/-- The beam of weights. -/
def wbeam (w : List Int) : List Int := (trf (reG w) 1).map (·.1)
theorem wbeam_len (w : List Int) : (wbeam w).length = 16 := by unfold wbeam; rw [List.length_map, trf_len]
theorem gLe_reG {M : Int} {s : List Int} (hM : 0 ≤ M) (h : ∀ x ∈ s, -M ≤ x ∧ x ≤ M) : gLe M (reG s) := by
  intro x hx
  unfold reG at hx
  obtain ⟨y, hy, rfl⟩ := List.mem_map.1 hx
  exact ⟨h y hy, by dsimp only; omega⟩
theorem skyV_parts {g : List (Int × Int)} (hl : g.length = 16) (h : gLe 100000 g) : skyV (g.map (·.1)) = true := by
  refine skyV_iff.2 ⟨by rw [List.length_map]; exact hl, fun x hx => ?_⟩
  obtain ⟨y, hy, rfl⟩ := List.mem_map.1 hx
  exact (h y hy).1
theorem wtV_mem {w : List Int} (h : wtV w = true) : ∀ x ∈ w, 0 ≤ x ∧ x ≤ 100 := fun x hx => by
  obtain ⟨hl, ho⟩ := wtV_iff.1 h
  obtain ⟨k, hk, rfl⟩ := List.mem_iff_getElem.1 hx
  have := (ho k (by omega)).1
  rwa [List.getD_eq_getElem?_getD, List.getElem?_eq_getElem hk] at this
theorem gLe_mono {M N : Int} {g : List (Int × Int)} (h : gLe M g) (hMN : M ≤ N) : gLe N g := fun x hx => by
  have := h x hx; omega
theorem skyV_wbeam {w : List Int} (h : wtV w = true) : skyV (wbeam w) = true :=
  skyV_parts (trf_len _ _) (gLe_mono (trf_le (gLe_reG (M := 100) (by omega) fun x hx => by have := wtV_mem h x hx; omega) (by omega) 1) (by omega))
theorem reG_get (s : List Int) (a : Nat) : (reG s).getD a (0, 0) = (s.getD a 0, 0) := by
  unfold reG
  rw [List.getD_eq_getElem?_getD, List.getElem?_map, List.getD_eq_getElem?_getD]
  cases s[a]? <;> rfl
theorem turn_re (x k : Int) : turnAt (x, 0) k = (x * (unit k).1, x * (unit k).2) := by unfold turnAt; simp
/-- A sum over the cells. -/
def sum16 (f : Nat → Int) : Int := ((List.range 16).map f).sum
theorem wbeam_get (w : List Int) (k : Nat) (h : k < 16) : (wbeam w).getD k 0 = sum16 fun l => w.getD l 0 * (unit (ph k l)).1 := by
  unfold wbeam
  have e : ((trf (reG w) 1).map (·.1)).getD k 0 = ((trf (reG w) 1).getD k (0, 0)).1 := by
    rw [List.getD_eq_getElem?_getD, List.getElem?_map, List.getD_eq_getElem?_getD]
    cases (trf (reG w) 1)[k]? <;> rfl
  rw [e, trf_get _ _ _ h]
  show ((List.range 16).map fun a => (trA (reG w) 1 k a).1).sum = _
  unfold sum16
  congr 1
  refine List.map_congr_left fun a _ => ?_
  unfold trA
  rw [reG_get, turn_re, Int.one_mul]
theorem sum16_congr {f g : Nat → Int} (h : ∀ k, k < 16 → f k = g k) : sum16 f = sum16 g := by
  unfold sum16
  congr 1
  exact List.map_congr_left fun a ha => h a (List.mem_range.1 ha)
/-- What the reference adds for a beam. -/
def beamTerm (c : List Bool) (k l : Nat) : Int := if c.getD l false then (unit (ph k l)).1 else 0
def beamSum (c : List Bool) (k n : Nat) : Int := ((List.range n).map (beamTerm c k)).sum
theorem beamSum_succ (c : List Bool) (k n : Nat) : beamSum c k (n + 1) = beamSum c k n + beamTerm c k n := by
  unfold beamSum
  rw [List.range_succ, List.map_append, List.sum_append]; simp
theorem beamTerm_bd (c : List Bool) (k l : Nat) : -1 ≤ beamTerm c k l ∧ beamTerm c k l ≤ 1 := by
  unfold beamTerm
  split
  · rcases unit_cases (ph k l) with ⟨_, e⟩ | ⟨_, e⟩ | ⟨_, e⟩ | ⟨_, e⟩ <;> rw [e] <;> simp
  · omega
theorem beamSum_bd (c : List Bool) (k n : Nat) : -(n : Int) ≤ beamSum c k n ∧ beamSum c k n ≤ n := by
  induction n with
  | zero => simp [beamSum]
  | succ n ih =>
    rw [beamSum_succ]
    have := beamTerm_bd c k n
    omega
/-- The beam. -/
def beamL (c : List Bool) : List Int := (List.range 16).map fun k => beamSum c k 16
theorem beamL_len (c : List Bool) : (beamL c).length = 16 := by simp [beamL]
theorem beamL_get (c : List Bool) (k : Nat) (h : k < 16) : (beamL c).getD k 0 = beamSum c k 16 := by
  unfold beamL; rw [List.getD_eq_getElem?_getD, List.getElem?_map, List.getElem?_range h]; rfl
theorem ext16 {xs ys : List Int} (hx : xs.length = 16) (hy : ys.length = 16) (h : ∀ k, k < 16 → xs.getD k 0 = ys.getD k 0) : xs = ys := by
  refine List.ext_getElem (by omega) fun i h1 h2 => ?_
  have := h i (by omega)
  rwa [List.getD_eq_getElem?_getD, List.getElem?_eq_getElem h1, List.getD_eq_getElem?_getD, List.getElem?_eq_getElem h2] at this
theorem beamL_eq (c : List Bool) : wbeam (wts c) = beamL c := by
  refine ext16 (wbeam_len _) (beamL_len _) fun k hk => ?_
  rw [wbeam_get _ _ hk, beamL_get _ _ hk]
  refine sum16_congr fun l hl => ?_
  rw [wts_get]
  unfold beamTerm
  split <;> simp
def countB (c : List Bool) : Int := sum16 fun l => if c.getD l false then 1 else 0
theorem unit_neg (k : Int) : unit (-k) = ((unit k).1, -(unit k).2) := by
  rcases unit_cases k with ⟨h1, e1⟩ | ⟨h1, e1⟩ | ⟨h1, e1⟩ | ⟨h1, e1⟩ <;> rcases unit_cases (-k) with ⟨h2, e2⟩ | ⟨h2, e2⟩ | ⟨h2, e2⟩ | ⟨h2, e2⟩ <;>
    first | (exfalso; omega) | (rw [e1, e2]; done) | (rw [e1, e2]; simp)
theorem ph_opp : ∀ k, k < 16 → ∀ l, l < 16 → (ph (oppN k) l + ph k l) % 4 = 0 := by decide +kernel
theorem ph_0 : ∀ l, l < 16 → ph 0 l = 0 := by decide +kernel
theorem sum16_le {f g : Nat → Int} (h : ∀ k, k < 16 → f k ≤ g k) : sum16 f ≤ sum16 g := by
  have : ∀ n, n ≤ 16 → ((List.range n).map f).sum ≤ ((List.range n).map g).sum := by
    intro n
    induction n with
    | zero => intro _; simp
    | succ n ih =>
      intro hn
      rw [List.range_succ, List.map_append, List.map_append, List.sum_append, List.sum_append]
      have := ih (by omega)
      have := h n (by omega)
      simp
      omega
  exact this 16 (by omega)
theorem beam_opp (c : List Bool) (k : Nat) (h : k < 16) : (beamL c).getD (oppN k) 0 = (beamL c).getD k 0 := by
  rw [beamL_get _ _ (oppN_lt k), beamL_get _ _ h]
  refine sum16_congr fun l hl => ?_
  unfold beamTerm
  have : unit (ph (oppN k) l) = unit (-(ph k l)) := unit_congr (by have := ph_opp k h l hl; omega)
  rw [this, unit_neg]
theorem sum16_neg (f : Nat → Int) : sum16 (fun k => -(f k)) = -(sum16 f) := by
  have : ∀ n, ((List.range n).map fun k => -(f k)).sum = -((List.range n).map f).sum := by
    intro n
    induction n with
    | zero => simp
    | succ n ih =>
      rw [List.range_succ, List.map_append, List.map_append, List.sum_append, List.sum_append, ih]
      simp; omega
  exact this 16
theorem beam_le (c : List Bool) (k : Nat) (h : k < 16) : -(countB c) ≤ (beamL c).getD k 0 ∧ (beamL c).getD k 0 ≤ countB c := by
  rw [beamL_get _ _ h]
  have ht : ∀ l, -(if c.getD l false then 1 else 0) ≤ beamTerm c k l ∧ beamTerm c k l ≤ if c.getD l false then 1 else 0 := fun l => by
    have := beamTerm_bd c k l
    split
    · exact this
    · rename_i hc; unfold beamTerm; rw [if_neg hc]; omega
  refine ⟨?_, sum16_le fun l _ => (ht l).2⟩
  unfold countB
  rw [← sum16_neg]
  exact sum16_le fun l _ => (ht l).1
theorem beam_0 (c : List Bool) : (beamL c).getD 0 0 = countB c := by
  rw [beamL_get _ _ (by omega)]
  refine sum16_congr fun l hl => ?_
  unfold beamTerm
  rw [ph_0 l hl]
  rfl
theorem skyV_beam {c : List Bool} (h : covV c = true) : skyV (beamL c) = true := by
  rw [← beamL_eq]; exact skyV_wbeam (wtV_wts h)
def countN (c : List Bool) (n : Nat) : Int := ((List.range n).map fun l => if c.getD l false then (1 : Int) else 0).sum
theorem countN_succ (c : List Bool) (n : Nat) : countN c (n + 1) = countN c n + if c.getD n false then 1 else 0 := by
  unfold countN; rw [List.range_succ, List.map_append, List.sum_append]; simp
theorem countN_bd (c : List Bool) (n : Nat) : 0 ≤ countN c n ∧ countN c n ≤ n := by
  induction n with
  | zero => simp [countN]
  | succ n ih =>
    rw [countN_succ]
    split <;> omega
end Go.Proofs.Ytcllkocmnohnkaa
