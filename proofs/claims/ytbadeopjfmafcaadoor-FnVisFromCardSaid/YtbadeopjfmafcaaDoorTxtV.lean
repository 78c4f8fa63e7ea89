/- Plain texts of visibilities: the text; what is read from it. No program. -/
import Derived.Test.YtbadeopjfmafcaaDoorA4
import Derived.Test.YtbadeopjfmafcaaDoorA3
import Derived.Test.YtbadeopjfmafcaaDoorTxtS
namespace Go.Proofs.YtbadeopjfmafcaaDoor
open Go

/-- A visibility's amplitude and phase are in range. -/
def visOk (g : Int × Int) : Bool := inR g.1 1 1000000 && inR g.2 0 359
def visV (n : Int) (vs : List (Int × Int)) : Bool := inR n 2 7 && (decide ((vs.length : Int) = bm n) && vs.all visOk)
theorem visOk_iff {g : Int × Int} : visOk g = true ↔ (1 ≤ g.1 ∧ g.1 ≤ 1000000) ∧ 0 ≤ g.2 ∧ g.2 ≤ 359 := by
  unfold visOk; rw [Bool.and_eq_true, inR_iff, inR_iff]
theorem visV_iff {n : Int} {vs : List (Int × Int)} : visV n vs = true ↔ (2 ≤ n ∧ n ≤ 7) ∧ (vs.length : Int) = bm n ∧ ∀ g ∈ vs, visOk g = true := by
  unfold visV; rw [Bool.and_eq_true, Bool.and_eq_true, inR_iff, decide_eq_true_iff, List.all_eq_true]

def visLine (p : Nat × Nat) (g : Int × Int) : List UInt8 := Lib.itoa p.1 ++ 45 :: (Lib.itoa p.2 ++ 32 :: (Lib.itoa g.1 ++ 32 :: Lib.itoa g.2))
/-- The lines of the first k baselines. -/
def visB (n : Nat) (vs : List (Int × Int)) (k : Nat) : List UInt8 := (List.range k).flatMap fun t => visLine ((pairsN n).getD t (0, 0)) (vs.getD t (0, 0)) ++ [10]
theorem visB_zero (n : Nat) (vs : List (Int × Int)) : visB n vs 0 = [] := rfl
theorem visB_succ (n : Nat) (vs : List (Int × Int)) (k : Nat) : visB n vs (k + 1) = visB n vs k ++ (visLine ((pairsN n).getD k (0, 0)) (vs.getD k (0, 0)) ++ [10]) := by
  unfold visB; rw [List.range_succ, List.flatMap_append]; simp
def visStr (n : Int) (vs : List (Int × Int)) : List UInt8 := if visV n vs then visB n.toNat vs vs.length else []
theorem visStr_yes {n : Int} {vs : List (Int × Int)} (h : visV n vs = true) : visStr n vs = visB n.toNat vs vs.length := by unfold visStr; rw [if_pos h]
theorem visStr_no {n : Int} {vs : List (Int × Int)} (h : visV n vs = false) : visStr n vs = [] := by unfold visStr; rw [h]; rfl
theorem visB_ne (n : Nat) (vs : List (Int × Int)) (k : Nat) (h : 1 ≤ k) : visB n vs k ≠ [] := by
  obtain ⟨j, rfl⟩ : ∃ j, k = j + 1 := ⟨k - 1, by omega⟩
  rw [visB_succ]; simp
theorem visV_len {n : Int} {vs : List (Int × Int)} (h : visV n vs = true) : 1 ≤ vs.length := by
  obtain ⟨h1, h2, _⟩ := visV_iff.1 h
  rcases bm_cases n with h | h | h | h | h | h | h <;> omega
theorem visStr_nil {n : Int} {vs : List (Int × Int)} : visStr n vs = [] ↔ visV n vs = false := by
  cases h : visV n vs
  · simp [visStr_no h]
  · simp [visStr_yes h, visB_ne _ _ _ (visV_len h)]
theorem itoa_len21 {n : Int} (h : -9223372036854775808 ≤ n ∧ n ≤ 9223372036854775807) : (Lib.itoa n).length ≤ 21 := Lib.itoa_length_le n h.1 h.2

theorem visLine_no (c : UInt8) (hc : c.toNat < 32) (p : Nat × Nat) (g : Int × Int) : c ∉ visLine p g := by
  have h : ∀ n, c ∉ Lib.itoa n := fun n => itoa_no (by omega)
  have h1 : c ≠ 45 := by rintro rfl; simp at hc
  have h2 : c ≠ 32 := by rintro rfl; simp at hc
  unfold visLine
  simp only [List.mem_append, List.mem_cons, not_or]
  exact ⟨h _, h1, h _, h2, h _, h2, h _⟩
def visLines (n : Nat) (vs : List (Int × Int)) (k : Nat) : List (List UInt8) := (List.range k).map fun t => visLine ((pairsN n).getD t (0, 0)) (vs.getD t (0, 0))
theorem visLines_text (n : Nat) (vs : List (Int × Int)) (k : Nat) : (visLines n vs k).flatMap (· ++ [10]) = visB n vs k := by
  unfold visLines visB; rw [List.flatMap_map]
theorem visB_cut (n : Nat) (vs : List (Int × Int)) (k : Nat) : cut 10 (visB n vs k) = visLines n vs k ++ [[]] := by
  rw [← visLines_text]
  refine cut_lines _ fun x hx => ?_
  obtain ⟨t, _, rfl⟩ := List.mem_map.1 hx
  exact visLine_no 10 (by decide) _ _
theorem visLine_cut (p : Nat × Nat) (g : Int × Int) : cut 32 (visLine p g) = [Lib.itoa p.1 ++ 45 :: Lib.itoa p.2, Lib.itoa g.1, Lib.itoa g.2] := by
  have hn : ∀ n, (32 : UInt8) ∉ Lib.itoa n := fun n => itoa_no (by decide)
  have e : visLine p g = (Lib.itoa p.1 ++ 45 :: Lib.itoa p.2) ++ 32 :: (Lib.itoa g.1 ++ 32 :: Lib.itoa g.2) := by simp [visLine]
  rw [e, cut_hit, cut_hit _ (hn _), cut_none (hn _)]
  simp only [List.mem_append, List.mem_cons, not_or]
  exact ⟨hn _, by decide, hn _⟩

/-- A line's visibility: the second and the third word. -/
def lineVis (l : List UInt8) : Option (Int × Int) := match cut 32 l with
  | [_, a, p] => some (num7 a, num7 p)
  | _ => none
theorem lineVis_line (p : Nat × Nat) {g : Int × Int} (h : visOk g = true) : lineVis (visLine p g) = some g := by
  obtain ⟨h1, h2⟩ := visOk_iff.1 h
  unfold lineVis
  rw [visLine_cut]
  simp only
  rw [num7_itoa (by omega) (by omega), num7_itoa (by omega) (by omega)]
/-- Visibilities of lines, if each has three words. -/
def linesVis : List (List UInt8) → Option (List (Int × Int))
  | [] => some []
  | l :: t => match lineVis l with
    | none => none
    | some g => (linesVis t).map (g :: ·)
theorem linesVis_snoc (l : List UInt8) : ∀ ls : List (List UInt8), linesVis (ls ++ [l]) = match linesVis ls with
    | none => none
    | some gs => (lineVis l).map fun g => gs ++ [g]
  | [] => by
    simp only [List.nil_append, linesVis]
    cases lineVis l <;> rfl
  | a :: t => by
    simp only [List.cons_append, linesVis]
    cases lineVis a with
    | none => rfl
    | some g =>
      simp only
      rw [linesVis_snoc l t]
      cases linesVis t with
      | none => rfl
      | some gs => cases lineVis l <;> rfl
theorem linesVis_map {vs : List (Int × Int)} (n : Nat) (h : ∀ g ∈ vs, visOk g = true) (k : Nat) (hk : k ≤ vs.length) : linesVis (visLines n vs k) = some (vs.take k) := by
  induction k with
  | zero => rfl
  | succ k ih =>
    have hlt : k < vs.length := by omega
    have e : visLines n vs (k + 1) = visLines n vs k ++ [visLine ((pairsN n).getD k (0, 0)) (vs.getD k (0, 0))] := by
      unfold visLines; rw [List.range_succ, List.map_append]; rfl
    rw [e, linesVis_snoc, ih (by omega)]
    simp only
    rw [lineVis_line _ (h _ (getD_mem hlt)), Option.map_some, take_succ_getD (d := (0, 0)) hlt]

/-- What is read of a text: the number of antennas and the visibilities whose text it is. -/
def VisIs (l : List UInt8) (n : Int) (vs : List (Int × Int)) : Prop := visV n vs = true ∧ l = visB n.toNat vs vs.length
theorem bm_inj {n m : Int} (hn : 2 ≤ n ∧ n ≤ 7) (hm : 2 ≤ m ∧ m ≤ 7) (h : bm n = bm m) : n = m := by
  have := hn; have := hm
  rcases bm_cases n with a | a | a | a | a | a | a <;> rcases bm_cases m with b | b | b | b | b | b | b <;> omega
theorem VisIs.lines {l : List UInt8} {n : Int} {vs : List (Int × Int)} (h : VisIs l n vs) : cut 10 l = visLines n.toNat vs vs.length ++ [[]] := by
  obtain ⟨h1, rfl⟩ := h
  exact visB_cut _ _ _
theorem VisIs.inj {l : List UInt8} {n m : Int} {vs us : List (Int × Int)} (h : VisIs l n vs) (h' : VisIs l m us) : n = m ∧ vs = us := by
  obtain ⟨a1, a2, a3⟩ := visV_iff.1 h.1
  obtain ⟨b1, b2, b3⟩ := visV_iff.1 h'.1
  have e1 := linesVis_map n.toNat a3 vs.length (Nat.le_refl _)
  have e2 := linesVis_map m.toNat b3 us.length (Nat.le_refl _)
  have e : visLines n.toNat vs vs.length = visLines m.toNat us us.length := by
    have := h.lines.symm.trans h'.lines
    exact List.append_cancel_right this
  rw [e, e2] at e1
  injection e1 with e1
  rw [List.take_length, List.take_length] at e1
  subst e1
  exact ⟨bm_inj a1 b1 (by omega), rfl⟩
theorem VisIs.read {l : List UInt8} {n : Int} {vs : List (Int × Int)} (h : VisIs l n vs) : linesVis (cut 10 l).dropLast = some vs := by
  rw [h.lines, List.dropLast_concat, linesVis_map _ (visV_iff.1 h.1).2.2 _ (Nat.le_refl _), List.take_length]
theorem VisIs.ne {l : List UInt8} {n : Int} {vs : List (Int × Int)} (h : VisIs l n vs) : l ≠ [] := by
  rw [h.2]; exact visB_ne _ _ _ (visV_len h.1)
theorem VisIs.of {l : List UInt8} {n : Int} {vs : List (Int × Int)} (hl : l ≠ []) (h : visStr n vs = l) : VisIs l n vs := by
  cases hv : visV n vs
  · rw [visStr_no hv] at h; exact absurd h.symm hl
  · exact ⟨hv, by rw [visStr_yes hv] at h; exact h.symm⟩
theorem VisIs.text {l : List UInt8} {n : Int} {vs : List (Int × Int)} (h : VisIs l n vs) : visStr n vs = l := by rw [visStr_yes h.1, h.2]
theorem VisIs.bd {l : List UInt8} {n : Int} {vs : List (Int × Int)} (h : VisIs l n vs) : (2 ≤ n ∧ n ≤ 7) ∧ (vs.length : Int) = bm n := ⟨(visV_iff.1 h.1).1, (visV_iff.1 h.1).2.1⟩
theorem visB_count (n : Nat) (vs : List (Int × Int)) (k : Nat) : (visB n vs k).count 10 = k := by
  have h := cut_len 10 (visB n vs k)
  rw [visB_cut] at h
  unfold visLines at h
  simp at h; omega
end Go.Proofs.YtbadeopjfmafcaaDoor
