/- Plain laws of a single source. -/
import Derived.Test.YtcllkocmnohnkaaCleanP
namespace Go.Proofs.Ytcllkocmnohnkaa
open Go.RowKit

def zeros16 : List Int := List.replicate 16 0
theorem zeros16_get (k : Nat) : zeros16.getD k 0 = 0 := by
  unfold zeros16
  rw [List.getD_eq_getElem?_getD, List.getElem?_replicate]
  split <;> rfl
/-- A single source of strength n at a cell. -/
def spotL (i : Nat) (n : Int) : List Int := zeros16.set i n
theorem spotL_len (i : Nat) (n : Int) : (spotL i n).length = 16 := by simp [spotL, zeros16]
theorem spotL_get (i : Nat) (n : Int) (hi : i < 16) (k : Nat) : (spotL i n).getD k 0 = if k = i then n else 0 := by
  unfold spotL
  rw [set_get _ _ _ _ (by simp [zeros16]; exact hi), zeros16_get]
theorem skyV_spot (i : Nat) (n : Int) (hi : i < 16) (hn : 0 ≤ n ∧ n ≤ 100000) : skyV (spotL i n) = true :=
  skyV_of (spotL_len i n) fun k _ => by rw [spotL_get i n hi k]; split <;> omega
theorem sum16_spot (i : Nat) (n : Int) (hi : i < 16) (f : Nat → Int) : sum16 (fun a => (spotL i n).getD a 0 * f a) = n * f i := by
  rw [sum16_one i hi _ fun k _ hk => by rw [spotL_get i n hi, if_neg hk, Int.zero_mul], spotL_get i n hi, if_pos rfl]
theorem dirty_spot (c : List Bool) (i : Nat) (n : Int) (hi : i < 16) (x : Nat) (hx : x < 16) : (dirtyL (spotL i n) c).getD x 0 = n * (beamL c).getD (subC i x) 0 := by
  rw [dirty_get _ _ _ hx, sum16_spot i n hi]
theorem countB_bd (c : List Bool) : 0 ≤ countB c ∧ countB c ≤ 16 := countN_bd c 16
theorem dirty_spot_bd (c : List Bool) (i : Nat) (n : Int) (hi : i < 16) (hn : 0 ≤ n) (x : Nat) (hx : x < 16) : -(n * countB c) ≤ (dirtyL (spotL i n) c).getD x 0 ∧ (dirtyL (spotL i n) c).getD x 0 ≤ n * countB c := by
  rw [dirty_spot c i n hi x hx]
  have := beam_le c (subC i x) (subC_lt i x)
  refine ⟨?_, Int.mul_le_mul_of_nonneg_left this.2 hn⟩
  rw [← Int.mul_neg]
  exact Int.mul_le_mul_of_nonneg_left this.1 hn
theorem skyV_dirty_spot (c : List Bool) (i : Nat) (n : Int) (hi : i < 16) (hn : 0 ≤ n ∧ n ≤ 100) : skyV (dirtyL (spotL i n) c) = true := by
  refine skyV_of (dirtyL_len _ _) fun x hx => ?_
  have h1 := dirty_spot_bd c i n hi hn.1 x hx
  have h2 := countB_bd c
  have h3 : n * countB c ≤ 100 * 16 := Int.mul_le_mul hn.2 h2.2 h2.1 (by omega)
  omega
/-- A single source is found in one step. -/
theorem clean_spot {c : List Bool} (hv : covV c = true) (i : Nat) (n : Int) (hi : i < 16) (hn : 1 ≤ n ∧ n ≤ 100) (hB : 1 ≤ countB c) :
    maxL (dirtyL (spotL i n) c) = n * countB c ∧
    cleanStep (beamL c) (zeros16, dirtyL (spotL i n) c) = some (zeros16.set (peakI (dirtyL (spotL i n) c)) n, addS (dirtyL (spotL i n) c) (shL (beamL c) (peakI (dirtyL (spotL i n) c))) (-n)) ∧
    (peakI (dirtyL (spotL i n) c) = i → addS (dirtyL (spotL i n) c) (shL (beamL c) (peakI (dirtyL (spotL i n) c))) (-n) = zeros16) := by
  have hl := dirtyL_len (spotL i n) c
  have hsv := skyV_dirty_spot c i n hi (by omega)
  have hii : (dirtyL (spotL i n) c).getD i 0 = n * countB c := by rw [dirty_spot c i n hi i hi, subC_self i hi, beam_0]
  have hmax : maxL (dirtyL (spotL i n) c) = n * countB c := by
    have h1 : n * countB c ≤ maxL (dirtyL (spotL i n) c) := by rw [← hii]; exact maxL_ge (getD_mem (by omega))
    have hm := maxL_mem (l := dirtyL (spotL i n) c) (by omega)
    obtain ⟨k, hk, e⟩ := List.mem_iff_getElem.1 hm
    have h2 := dirty_spot_bd c i n hi (by omega) k (by omega)
    rw [List.getD_eq_getElem?_getD, List.getElem?_eq_getElem hk] at h2
    simp only [Option.getD_some] at h2
    rw [e] at h2
    omega
  have hdiv : maxL (dirtyL (spotL i n) c) / (beamL c).getD 0 0 = n := by
    rw [hmax, beam_0, Int.mul_ediv_cancel _ (by omega)]
  have hp := peakI_lt (l := dirtyL (spotL i n) c) (by omega)
  obtain ⟨p, hpp⟩ : ∃ p, peakI (dirtyL (spotL i n) c) = p := ⟨_, rfl⟩
  rw [hpp] at hp ⊢
  have hp16 : p < 16 := by omega
  have hcb := countB_bd c
  have hleft : ∀ k, k < 16 → (addS (dirtyL (spotL i n) c) (shL (beamL c) p) (-n)).getD k 0 = n * ((beamL c).getD (subC i k) 0 - (beamL c).getD (subC k p) 0) := fun k hk => by
    rw [addS_get _ _ _ _ hk, shL_get _ _ _ hk, dirty_spot c i n hi k hk, Int.mul_sub, Int.neg_mul]; omega
  refine ⟨hmax, ?_, fun hpi => ?_⟩
  · unfold cleanStep
    dsimp only
    rw [hdiv, hpp, zeros16_get, Int.zero_add, if_pos, if_pos, if_pos]
    · rw [Bool.and_eq_true]
      refine ⟨skyV_spot p n hp16 (by omega), skyV_of (addS_len _ _ _) fun k hk => ?_⟩
      rw [hleft k hk]
      have b1 := beam_le c (subC i k) (subC_lt i k)
      have b2 := beam_le c (subC k p) (subC_lt k p)
      have m := mul_bd n ((beamL c).getD (subC i k) 0 - (beamL c).getD (subC k p) 0) 100 32 (by omega) (by omega)
      simp only [Int.reduceMul] at m
      omega
    · rw [hmax]
      exact ⟨Int.mul_nonneg (by omega) hcb.1, hn.1⟩
    · rw [Bool.and_eq_true, beam_0]
      exact ⟨⟨by decide +kernel, hsv⟩, skyV_beam hv, hB⟩
  · subst hpi
    refine ext16 (addS_len _ _ _) (by simp [zeros16]) fun k hk => ?_
    rw [hleft k hk, zeros16_get, beam_even c k p hk hi, Int.sub_self, Int.mul_zero]
end Go.Proofs.Ytcllkocmnohnkaa
