/- Plain laws of cleaning. -/
import Derived.Test.YtcllkocmnohnkaaObsP
namespace Go.Proofs.Ytcllkocmnohnkaa
open Go.RowKit

def maxL (l : List Int) : Int := l.foldl max (l.getD 0 0)
theorem foldl_max_ge (l : List Int) (a : Int) : a ≤ l.foldl max a ∧ ∀ x ∈ l, x ≤ l.foldl max a := by
  induction l generalizing a with
  | nil => simp
  | cons y l ih =>
    obtain ⟨h1, h2⟩ := ih (max a y)
    refine ⟨by simp only [List.foldl_cons]; omega, fun x hx => ?_⟩
    simp only [List.foldl_cons]
    rcases List.mem_cons.1 hx with rfl | hx
    · omega
    · exact h2 x hx
theorem foldl_max_mem (l : List Int) (a : Int) : l.foldl max a = a ∨ l.foldl max a ∈ l := by
  induction l generalizing a with
  | nil => simp
  | cons y l ih =>
    simp only [List.foldl_cons]
    rcases ih (max a y) with h | h
    · rw [h]
      by_cases hay : y ≤ a
      · left; omega
      · right; rw [Int.max_eq_right (by omega)]; exact List.mem_cons_self
    · right; exact List.mem_cons_of_mem _ h
theorem maxL_ge {l : List Int} {x : Int} (h : x ∈ l) : x ≤ maxL l := (foldl_max_ge l _).2 x h
theorem maxL_mem {l : List Int} (h : 0 < l.length) : maxL l ∈ l := by
  rcases foldl_max_mem l (l.getD 0 0) with e | e
  · unfold maxL; rw [e]; exact getD_mem h
  · exact e
/-- The first place of the greatest number. -/
def peakI (l : List Int) : Nat := l.idxOf (maxL l)
theorem peakI_lt {l : List Int} (h : 0 < l.length) : peakI l < l.length := List.idxOf_lt_length_iff.2 (maxL_mem h)
theorem peakI_get {l : List Int} (h : 0 < l.length) : l.getD (peakI l) 0 = maxL l := by
  have hl := peakI_lt h
  rw [List.getD_eq_getElem?_getD, List.getElem?_eq_getElem hl]
  exact List.getElem_idxOf hl

/-- One step of cleaning by the beam b. -/
def cleanStep (b : List Int) (st : List Int × List Int) : Option (List Int × List Int) :=
  if (skyV st.1 && skyV st.2) = true ∧ skyV b = true ∧ 1 ≤ b.getD 0 0 then
    if 0 ≤ maxL st.2 ∧ 1 ≤ maxL st.2 / b.getD 0 0 then
      if (skyV (st.1.set (peakI st.2) (st.1.getD (peakI st.2) 0 + maxL st.2 / b.getD 0 0)) && skyV (addS st.2 (shL b (peakI st.2)) (-(maxL st.2 / b.getD 0 0)))) = true then
        some (st.1.set (peakI st.2) (st.1.getD (peakI st.2) 0 + maxL st.2 / b.getD 0 0), addS st.2 (shL b (peakI st.2)) (-(maxL st.2 / b.getD 0 0)))
      else none
    else none
  else none
/-- So many steps of cleaning, or as many as there are. -/
def cleanIter (b : List Int) : Nat → List Int × List Int → (List Int × List Int) × Nat
  | 0, st => (st, 0)
  | m + 1, st => match cleanStep b st with
    | none => (st, 0)
    | some st' => ((cleanIter b m st').1, (cleanIter b m st').2 + 1)
theorem cleanIter_none {b : List Int} {st : List Int × List Int} (h : cleanStep b st = none) (m : Nat) : cleanIter b m st = (st, 0) := by
  cases m with
  | zero => rfl
  | succ m => simp only [cleanIter, h]
theorem cleanIter_some {b : List Int} {st st' : List Int × List Int} (h : cleanStep b st = some st') (m : Nat) : cleanIter b (m + 1) st = ((cleanIter b m st').1, (cleanIter b m st').2 + 1) := by
  simp only [cleanIter, h]

/-- The beam of all cells. -/
def fullB : List Int := [16, 0, 0, 0, 0, 0, 0, 0, 0, 0, 0, 0, 0, 0, 0, 0]
theorem fullB_get (k : Nat) (hk : k < 16) : fullB.getD k 0 = if k = 0 then 16 else 0 := by
  have : ∀ k, k < 16 → fullB.getD k 0 = if k = 0 then (16 : Int) else 0 := by decide +kernel
  exact this k hk
def cntL (l : List Int) : Int := sum16 fun k => if l.getD k 0 = 0 then 0 else 1
theorem cntL_zero {l : List Int} (h : cntL l = 0) : ∀ k, k < 16 → l.getD k 0 = 0 := fun k hk => by
  by_cases h0 : l.getD k 0 = 0
  · exact h0
  · exfalso
    have h1 : (sum16 fun j => if j = k then (1 : Int) else 0) ≤ cntL l := sum16_le fun j _ => by
      by_cases hj : j = k
      · subst hj; rw [if_pos rfl, if_neg h0]; exact Int.le_refl _
      · rw [if_neg hj]; split <;> omega
    rw [sum16_one k hk _ (fun j _ hj => if_neg hj), if_pos rfl] at h1
    omega
theorem set_get (l : List Int) (i k : Nat) (v : Int) (hi : i < l.length) : (l.set i v).getD k 0 = if k = i then v else l.getD k 0 := by
  rw [List.getD_eq_getElem?_getD, List.getElem?_set, List.getD_eq_getElem?_getD]
  by_cases h : i = k
  · subst h; rw [if_pos rfl, if_pos hi, if_pos rfl]; rfl
  · rw [if_neg h, if_neg (fun e => h e.symm)]
theorem skyV_of {l : List Int} (hl : l.length = 16) (h : ∀ k, k < 16 → -100000 ≤ l.getD k 0 ∧ l.getD k 0 ≤ 100000) : skyV l = true := by
  refine skyV_iff.2 ⟨hl, fun x hx => ?_⟩
  obtain ⟨k, hk, rfl⟩ := List.mem_iff_getElem.1 hx
  have := h k (by omega)
  rwa [List.getD_eq_getElem?_getD, List.getElem?_eq_getElem hk] at this
/-- With all cells every source is found. -/
theorem clean_full (s : List Int) (hs : s.length = 16) (h49 : ∀ k, k < 16 → 0 ≤ s.getD k 0 ∧ s.getD k 0 ≤ 49) : ∀ (m : Nat) (M L : List Int), M.length = 16 → L.length = 16 →
    (∀ k, k < 16 → (M.getD k 0 = s.getD k 0 ∧ L.getD k 0 = 0) ∨ (M.getD k 0 = 0 ∧ L.getD k 0 = 16 * s.getD k 0)) → cntL L ≤ m →
    ∃ Z, cleanIter fullB m (M, L) = ((s, Z), (cntL L).toNat) ∧ Z.length = 16 ∧ ∀ k, k < 16 → Z.getD k 0 = 0 := by
  intro m
  induction m with
  | zero =>
    intro M L hM hL hk hc
    have h0 : cntL L = 0 := by
      have : (sum16 fun _ => 0) ≤ cntL L := sum16_le fun j _ => by split <;> omega
      rw [sum16_zero] at this; omega
    have hz := cntL_zero h0
    refine ⟨L, ?_, hL, hz⟩
    have hMs : M = s := ext16 hM hs fun k h => by
      have := hz k h
      rcases hk k h with ⟨h1, _⟩ | ⟨h1, h2⟩
      · exact h1
      · omega
    rw [h0, hMs]; rfl
  | succ m ih =>
    intro M L hM hL hk hc
    have hlo : 0 ≤ cntL L := by
      have : (sum16 fun _ => 0) ≤ cntL L := sum16_le fun j _ => by split <;> omega
      rw [sum16_zero] at this; omega
    by_cases h0 : cntL L = 0
    · have hz := cntL_zero h0
      have hMs : M = s := ext16 hM hs fun k h => by
        have := hz k h
        rcases hk k h with ⟨h1, _⟩ | ⟨h1, h2⟩
        · exact h1
        · omega
      have hmx : maxL L = 0 := by
        have hmem := maxL_mem (l := L) (by omega)
        obtain ⟨k, hk2, e⟩ := List.mem_iff_getElem.1 hmem
        have := hz k (by omega)
        rw [List.getD_eq_getElem?_getD, List.getElem?_eq_getElem hk2] at this
        rw [← e]; exact this
      refine ⟨L, ?_, hL, hz⟩
      rw [cleanIter_none, h0, hMs]
      · rfl
      · unfold cleanStep
        dsimp only
        rw [hmx, Int.zero_ediv, if_neg (c := 0 ≤ (0 : Int) ∧ 1 ≤ (0 : Int)) (by omega)]
        split <;> rfl
    · have hp := peakI_lt (l := L) (by omega)
      have hpg := peakI_get (l := L) (by omega)
      obtain ⟨p, hpp⟩ : ∃ p, peakI L = p := ⟨_, rfl⟩
      rw [hpp] at hp hpg
      have hp16 : p < 16 := by omega
      have hpos : 0 < maxL L := by
        rcases Int.lt_or_le 0 (maxL L) with h | h
        · exact h
        · exfalso
          refine h0 ?_
          unfold cntL
          rw [sum16_congr (g := fun _ => 0) fun k hk2 => ?_, sum16_zero]
          have hge : L.getD k 0 ≤ maxL L := maxL_ge (getD_mem (by omega))
          have h49k := h49 k hk2
          rw [if_pos]
          rcases hk k hk2 with ⟨_, h2⟩ | ⟨_, h2⟩ <;> omega
      have hMp : M.getD p 0 = 0 ∧ maxL L = 16 * s.getD p 0 := by
        rcases hk p hp16 with ⟨_, h2⟩ | ⟨h1, h2⟩
        · rw [hpg] at h2; omega
        · rw [hpg] at h2; exact ⟨h1, h2⟩
      have hdiv : maxL L / fullB.getD 0 0 = s.getD p 0 := by
        rw [fullB_get 0 (by omega), if_pos rfl, hMp.2]; omega
      have h49p := h49 p hp16
      have hL' : ∀ k, k < 16 → (addS L (shL fullB p) (-(s.getD p 0))).getD k 0 = if k = p then 0 else L.getD k 0 := fun k hk2 => by
        rw [addS_get _ _ _ _ hk2, shL_get _ _ _ hk2, fullB_get _ (subC_lt k p)]
        by_cases hkp : k = p
        · subst hkp
          rw [subC_self k hk2, if_pos rfl, if_pos rfl, hpg, hMp.2]; omega
        · rw [if_neg hkp, if_neg, Int.mul_zero, Int.add_zero]
          intro h
          refine hkp ?_
          have := subC_add k hk2 p hp16
          rw [h, addC_comm] at this
          have h2 := subC_add p hp16 p hp16
          rw [subC_self p hp16, addC_comm] at h2
          omega
      have hM' : ∀ k, (M.set p (M.getD p 0 + s.getD p 0)).getD k 0 = if k = p then s.getD p 0 else M.getD k 0 := fun k => by
        rw [set_get _ _ _ _ (by omega), hMp.1, Int.zero_add]
      have hstep : cleanStep fullB (M, L) = some (M.set p (M.getD p 0 + s.getD p 0), addS L (shL fullB p) (-(s.getD p 0))) := by
        unfold cleanStep
        dsimp only
        rw [hdiv, hpp, if_pos, if_pos, if_pos]
        · rw [Bool.and_eq_true]
          refine ⟨skyV_of (by rw [List.length_set]; exact hM) fun k hk2 => ?_, skyV_of (addS_len _ _ _) fun k hk2 => ?_⟩
          · rw [hM' k]
            have h49k := h49 k hk2
            rcases hk k hk2 with ⟨h1, _⟩ | ⟨h1, _⟩ <;> split <;> omega
          · rw [hL' k hk2]
            have h49k := h49 k hk2
            rcases hk k hk2 with ⟨_, h1⟩ | ⟨_, h1⟩ <;> split <;> omega
        · have := hMp.2; omega
        · rw [Bool.and_eq_true]
          refine ⟨⟨skyV_of hM fun k hk2 => ?_, skyV_of hL fun k hk2 => ?_⟩, by decide +kernel, by decide +kernel⟩
          · have h49k := h49 k hk2
            rcases hk k hk2 with ⟨h1, _⟩ | ⟨h1, _⟩ <;> omega
          · have h49k := h49 k hk2
            rcases hk k hk2 with ⟨_, h1⟩ | ⟨_, h1⟩ <;> omega
      have hcnt : cntL (addS L (shL fullB p) (-(s.getD p 0))) = cntL L - 1 := by
        have e : ∀ k, k < 16 → (if (addS L (shL fullB p) (-(s.getD p 0))).getD k 0 = 0 then (0 : Int) else 1) = (if L.getD k 0 = 0 then 0 else 1) - if k = p then 1 else 0 := fun k hk2 => by
          rw [hL' k hk2]
          by_cases hkp : k = p
          · subst hkp
            rw [if_pos rfl, if_pos rfl, if_pos rfl, if_neg (by rw [hpg]; omega)]; rfl
          · rw [if_neg hkp, if_neg hkp, Int.sub_zero]
        unfold cntL
        rw [sum16_congr e, sum16_sub, sum16_one p hp16 (fun k => if k = p then (1 : Int) else 0) (fun k _ hk2 => if_neg hk2), if_pos rfl]
      obtain ⟨Z, hZ, hZl, hZ0⟩ := ih (M.set p (M.getD p 0 + s.getD p 0)) (addS L (shL fullB p) (-(s.getD p 0))) (by rw [List.length_set]; exact hM) (addS_len _ _ _) (fun k hk2 => by
        rw [hM' k, hL' k hk2]
        by_cases hkp : k = p
        · subst hkp; rw [if_pos rfl, if_pos rfl]; exact .inl ⟨rfl, rfl⟩
        · rw [if_neg hkp, if_neg hkp]; exact hk k hk2) (by rw [hcnt]; omega)
      refine ⟨Z, ?_, hZl, hZ0⟩
      rw [cleanIter_some hstep, hZ, hcnt]
      dsimp only
      congr 1
      omega
end Go.Proofs.Ytcllkocmnohnkaa
