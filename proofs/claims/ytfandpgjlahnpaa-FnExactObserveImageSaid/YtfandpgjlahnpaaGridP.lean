/- Plain laws of what the baselines lay on a grid, pair by pair. -/
import Derived.Test.YtfandpgjlahnpaaArrS
import Derived.Test.YtfandpgjlahnpaaTurnI
import Derived.Test.YtfandpgjlahnpaaGridT
namespace Go.Proofs.Ytfandpgjlahnpaa
open Go.RowKit

def bN (n : Nat) (p : Nat × Nat) : Nat := (bF n p.1 p.2).toNat
theorem bN_lt {n : Nat} {p : Nat × Nat} (h2 : 2 ≤ n) (h7 : n ≤ 7) (hp : p.1 < p.2) (hn : p.2 < n) : bF n p.1 p.2 = (bN n p : Int) ∧ bN n p < (pairsN n).length := by
  have h := bF_bd n p.1 p.2 (by omega) (by omega) (by omega)
  have hm := bm_pairs n h2 h7
  unfold bN
  omega
theorem bF_pairs : ∀ n, n ≤ 7 → ∀ k, k < (pairsN n).length → bN n ((pairsN n).getD k (0, 0)) = k := by decide +kernel
/-- What one baseline lays: its number, and the conjugate in the opposite cell. -/
def gridE2 (ants seen : List (Int × Int)) (n : Nat) (p : Nat × Nat) : List (Nat × (Int × Int)) :=
  [(vecC ants p.1 p.2, seen.getD (bN n p) (0, 0)), (oppN (vecC ants p.1 p.2), ((seen.getD (bN n p) (0, 0)).1, -(seen.getD (bN n p) (0, 0)).2))]
def gridEP (ants seen : List (Int × Int)) (n : Nat) (ps : List (Nat × Nat)) : List (Nat × (Int × Int)) := ps.flatMap (gridE2 ants seen n)
theorem gridEP_snoc (ants seen : List (Int × Int)) (n : Nat) (ps : List (Nat × Nat)) (p : Nat × Nat) : gridEP ants seen n (ps ++ [p]) = gridEP ants seen n ps ++ gridE2 ants seen n p := by
  unfold gridEP; rw [List.flatMap_append]; simp
theorem range_getD {α : Type} (l : List α) (d : α) : (List.range l.length).map (fun k => l.getD k d) = l := by
  refine List.ext_getElem (by simp) fun i h1 h2 => ?_
  simp [List.getD_eq_getElem?_getD, List.getElem?_eq_getElem h2]
theorem gridEP_all {ants seen : List (Int × Int)} {n : Nat} (hn : ants.length = n) (h7 : n ≤ 7) : gridEP ants seen n (pairsN n) = gridE ants seen (pairsN n).length := by
  subst hn
  unfold gridEP gridE
  conv => lhs; arg 2; rw [← range_getD (pairsN ants.length) (0, 0)]
  rw [List.flatMap_map]
  simp only [List.flatMap_def]
  congr 1
  refine List.map_congr_left fun k hk => ?_
  unfold gridE2
  rw [bF_pairs _ h7 k (List.mem_range.1 hk)]
theorem gridO_pre {ants seen : List (Int × Int)} {n : Nat} {ps : List (Nat × Nat)} (hn : ants.length = n) (h7 : n ≤ 7) (hp : ps <+: pairsN n) (h : gridRun (gridEP ants seen n ps) = none) : gridO ants seen = none := by
  obtain ⟨t, ht⟩ := hp
  unfold gridO
  have e := gridEP_all (seen := seen) hn h7
  subst hn
  rw [← e, ← ht]
  unfold gridEP at h ⊢
  rw [List.flatMap_append, gridRun_none h]
  rfl
theorem gridO_end {ants seen : List (Int × Int)} {n : Nat} {st : List (Int × Int) × List Bool} (hn : ants.length = n) (h7 : n ≤ 7) (h : gridRun (gridEP ants seen n (pairsN n)) = some st) : gridO ants seen = some st.1 := by
  rw [gridEP_all hn h7] at h
  unfold gridO
  rw [hn, h]
  rfl
theorem gridRun_two {ants seen : List (Int × Int)} {n : Nat} {ps : List (Nat × Nat)} {p : Nat × Nat} {st : List (Int × Int) × List Bool} {a : Int × Int} {c : Nat} (h : gridRun (gridEP ants seen n ps) = some st) (ha : seen.getD (bN n p) (0, 0) = a) (hc : vecC ants p.1 p.2 = c) :
    gridRun (gridEP ants seen n (ps ++ [p])) = (gput st c a).bind fun s => gput s (oppN c) (a.1, -a.2) := by
  rw [gridEP_snoc]
  unfold gridE2
  rw [ha, hc, show ∀ (u v : Nat × (Int × Int)), [u, v] = [u] ++ [v] from fun _ _ => rfl, ← List.append_assoc, gridRun_snoc, gridRun_snoc, h]
  rfl
def layN (st : List (Int × Int) × List Bool) (c : Nat) (a : Int × Int) : Nat → Option (List (Int × Int) × List Bool)
  | 0 => some st
  | 1 => gput st c a
  | _ => (gput st c a).bind fun s => gput s (oppN c) (a.1, -a.2)
/-- The cells of the two entries. -/
def entC (X Y : Int) (a : Int × Int) : List Value := [.int .i64 X, .int .i64 Y, .int .i64 a.1, .int .i64 a.2, .int .i64 (-X), .int .i64 (-Y), .int .i64 a.1, .int .i64 (-a.2)]
theorem entC_at (X Y : Int) (a : Int × Int) (c : Nat) (st : List (Int × Int) × List Bool) (hc : cellI X Y = (c : Int)) (ho : cellI (-X) (-Y) = (oppN c : Int)) (h16 : c < 16) (i : Nat) (hi : i < 2) :
    ∃ (x y : Int) (p : Int × Int) (d : Nat), (entC X Y a)[i * 4]? = some (.int .i64 x) ∧ (entC X Y a)[i * 4 + 1]? = some (.int .i64 y) ∧ (entC X Y a)[i * 4 + 2]? = some (.int .i64 p.1) ∧ (entC X Y a)[i * 4 + 3]? = some (.int .i64 p.2) ∧
      cellI x y = (d : Int) ∧ d < 16 ∧ layN st c a (i + 1) = (layN st c a i).bind fun s => gput s d p := by
  rcases (show i = 0 ∨ i = 1 by omega) with rfl | rfl
  · exact ⟨X, Y, a, c, rfl, rfl, rfl, rfl, hc, h16, rfl⟩
  · exact ⟨-X, -Y, (a.1, -a.2), oppN c, rfl, rfl, rfl, rfl, ho, oppN_lt c, rfl⟩
theorem layN_no {c : Nat} {a : Int × Int} {st : List (Int × Int) × List Bool} {i : Nat} (hi : i < 2) (h : layN st c a (i + 1) = none) : layN st c a 2 = none := by
  rcases (show i = 0 ∨ i = 1 by omega) with rfl | rfl
  · show (gput st c a).bind _ = none
    rw [show gput st c a = none from h]; rfl
  · exact h
end Go.Proofs.Ytfandpgjlahnpaa
