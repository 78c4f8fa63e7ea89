/- Plain laws on triples of observations of shifted skies and of single sources. -/
import Derived.Test.YtfandpgjlahnpaaLawObs
import Derived.Test.YtfandpgjlahnpaaTripleP
namespace Go.Proofs.Ytfandpgjlahnpaa
open Go.RowKit

/-- The phase of an antenna for the cell d. -/
def antP (ants : List (Int × Int)) (d i : Nat) : Int := (ants.getD i (0, 0)).1 * ((d % 4 : Nat) : Int) + (ants.getD i (0, 0)).2 * ((d / 4 : Nat) : Int)
theorem ph_vec (ants : List (Int × Int)) (i j d : Nat) : (ph (vecC ants i j) d - (antP ants d j - antP ants d i)) % 4 = 0 := by
  have h := ph_cell (vecX ants i j) (vecY ants i j) d
  have e : vecX ants i j * ((d % 4 : Nat) : Int) + vecY ants i j * ((d / 4 : Nat) : Int) = antP ants d j - antP ants d i := by
    unfold vecX vecY antP
    rw [Int.sub_mul, Int.sub_mul]; omega
  rw [e] at h
  exact h
theorem turnAt_congr {g : Int × Int} {a b : Int} (h : (a - b) % 4 = 0) : turnAt g a = turnAt g b := by unfold turnAt; rw [unit_congr h]
theorem turn_ph (ants : List (Int × Int)) (g : Int × Int) (i j d : Nat) : turnAt g (ph (vecC ants i j) d) = turnAt g (antP ants d j - antP ants d i) := turnAt_congr (ph_vec ants i j d)
theorem obs_at (ants : List (Int × Int)) (s : List Int) (i j : Nat) (h7 : ants.length ≤ 7) (hi : i < j) (hj : j < ants.length) : (obsL ants s).getD (bF ants.length i j).toNat (0, 0) = (skyT s).getD (vecC ants i j) (0, 0) := by
  obtain ⟨h1, h2⟩ := upTo_get ants.length i j h7 hi hj
  rw [obsL_get _ _ _ h2, h1]
theorem gv_le {g : Int × Int} {M : Int} (hM : M ≤ 1000000000) (h : (-M ≤ g.1 ∧ g.1 ≤ M) ∧ -M ≤ g.2 ∧ g.2 ≤ M) : gv g.1 g.2 = true := gv_iff.2 (by omega)
theorem obsV_obs {ants : List (Int × Int)} {s : List Int} (h1 : arrV ants = true) (h2 : skyV s = true) : obsV ants.length (obsL ants s) = true := by
  have hl := arrV_len h1
  unfold obsV
  rw [inR_iff.2 (by omega), obsL_len, ← bm_pairs _ hl.1 hl.2]
  have : allV (obsL ants s) = true := by
    unfold allV
    rw [List.all_eq_true]
    exact fun g hg => gv_le (M := 1600000) (by omega) (obs_le h2 g hg)
  rw [this]; simp
theorem trip_shift {ants : List (Int × Int)} {s : List Int} (h1 : arrV ants = true) (h2 : skyV s = true) (d : Nat) (hd : d < 16) (i j k : Nat) : tripV ants.length (obsL ants (shL s d)) i j k = tripV ants.length (obsL ants s) i j k := by
  have hl := arrV_len h1
  have v1 := obsV_obs h1 h2
  have v2 := obsV_obs h1 (skyV_sh h2 d)
  have he : tripOK ants.length (obsL ants (shL s d)) i j k = tripOK ants.length (obsL ants s) i j k := by unfold tripOK; rw [v1, v2]
  cases h : tripOK ants.length (obsL ants s) i j k
  · rw [tripV_no h, tripV_no (he.trans h)]
  · obtain ⟨_, _, c1, c2, c3⟩ := tripOK_iff.1 h
    have c1 : i < j := by omega
    have c2 : j < k := by omega
    have c3 : k < ants.length := by omega
    rw [tripV_yes h, tripV_yes (he.trans h), obs_at _ _ i j hl.2 c1 (by omega), obs_at _ _ j k hl.2 c2 c3, obs_at _ _ i k hl.2 (by omega) c3,
      obs_at _ _ i j hl.2 c1 (by omega), obs_at _ _ j k hl.2 c2 c3, obs_at _ _ i k hl.2 (by omega) c3,
      skyT_shift _ _ _ hd (vecC_lt _ _ _), skyT_shift _ _ _ hd (vecC_lt _ _ _), skyT_shift _ _ _ hd (vecC_lt _ _ _), turn_ph, turn_ph, turn_ph]
    have e : antP ants d k - antP ants d i = (antP ants d j - antP ants d i) + (antP ants d k - antP ants d j) := by omega
    rw [e, trip3_turn]
theorem skyT_spot (p : Nat) (m : Int) (hp : p < 16) (c : Nat) (hc : c < 16) : (skyT (spotL p m)).getD c (0, 0) = turnAt (m, 0) (ph c p) := by
  rw [skyT_get _ _ hc, sum16_spot _ _ hp, sum16_spot _ _ hp, turn_re]; rfl
theorem trip_spot {ants : List (Int × Int)} (h1 : arrV ants = true) (p : Nat) (m : Int) (hp : p < 16) (hm : 1 ≤ m ∧ m ≤ 50) (i j k : Nat) (c1 : i < j) (c2 : j < k) (c3 : k < ants.length) :
    tripV ants.length (obsL ants (spotL p m)) i j k = ((m * m * m, 0), true) := by
  have hl := arrV_len h1
  have v1 := obsV_obs h1 (skyV_spot p m hp (by omega))
  have h : tripOK ants.length (obsL ants (spotL p m)) i j k = true := tripOK_iff.2 ⟨v1, by omega, by omega, by omega, by omega⟩
  rw [tripV_yes h, obs_at _ _ i j hl.2 c1 (by omega), obs_at _ _ j k hl.2 c2 c3, obs_at _ _ i k hl.2 (by omega) c3, skyT_spot p m hp _ (vecC_lt _ _ _), skyT_spot p m hp _ (vecC_lt _ _ _), skyT_spot p m hp _ (vecC_lt _ _ _), turn_ph, turn_ph, turn_ph]
  have e : antP ants p k - antP ants p i = (antP ants p j - antP ants p i) + (antP ants p k - antP ants p j) := by omega
  rw [e, trip3_turn]
  have b1 := mul_bd m m 50 50 (by omega) (by omega)
  have b2 := mul_bd (m * m) m 2500 50 (by simpa using b1) (by omega)
  simp only [Int.reduceMul, Int.reduceNeg] at b1 b2
  have g1 : gv m 0 = true := gv_iff.2 (by omega)
  have g2 : gv (m * m) 0 = true := gv_iff.2 (by omega)
  have g3 : gv (m * m * m) 0 = true := gv_iff.2 (by omega)
  unfold trip3 gMul
  simp [g1, g2, g3]
end Go.Proofs.Ytfandpgjlahnpaa
