/- What the program's VisFrom reads: plain. -/
import Derived.Test.YtbadeopjfmafcaaDoorTxtW
namespace Go.Proofs.YtbadeopjfmafcaaDoor
open Go

theorem trim_snoc (a : List UInt8) (c : UInt8) : Lib.trimSuffix (a ++ [c]) [c] = a := by
  unfold Lib.trimSuffix Lib.hasSuffix
  simp
theorem cut_lines_app {c : UInt8} {x : List UInt8} (hx : c ∉ x) : ∀ ls : List (List UInt8), (∀ y ∈ ls, c ∉ y) → cut c (ls.flatMap (· ++ [c]) ++ x) = ls ++ [x]
  | [], _ => by simpa using cut_none hx
  | y :: t, h => by
    have ih := cut_lines_app hx t fun z hz => h z (by simp [hz])
    have e : (y :: t).flatMap (· ++ [c]) ++ x = y ++ c :: (t.flatMap (· ++ [c]) ++ x) := by simp
    rw [e, cut_hit _ (h y (by simp)), ih]; rfl
theorem VisIs.trim {l : List UInt8} {n : Int} {us : List (Int × Int)} (h : VisIs l n us) : cut 10 (Lib.trimSuffix l [10]) = visLines n.toNat us us.length := by
  obtain ⟨h1, rfl⟩ := h
  have hl := visV_len h1
  obtain ⟨j, hj⟩ : ∃ j, us.length = j + 1 := ⟨us.length - 1, by omega⟩
  rw [hj, visB_succ, ← List.append_assoc, trim_snoc, ← visLines_text]
  rw [cut_lines_app (visLine_no 10 (by decide) _ _) _ fun y hy => by
    obtain ⟨t, _, rfl⟩ := List.mem_map.1 hy
    exact visLine_no 10 (by decide) _ _]
  unfold visLines
  rw [List.range_succ, List.map_append]; rfl

/-- A line's words, and the numbers that were read of them. -/
def WordsOK (x : List UInt8) (g : Int × Int) : Prop :=
  (cut 32 x).length = 3 ∧ (∀ m, numOf ((cut 32 x).getD 1 []) = some m → g.1 = m) ∧ ∀ m, numOf ((cut 32 x).getD 2 []) = some m → g.2 = m
def Reads : List (List UInt8) → List (Int × Int) → Prop
  | [], [] => True
  | x :: t, g :: u => WordsOK x g ∧ Reads t u
  | _, _ => False
theorem Reads.len : ∀ {ls : List (List UInt8)} {vs : List (Int × Int)}, Reads ls vs → vs.length = ls.length
  | [], [], _ => rfl
  | _ :: t, _ :: u, h => by simp [Reads.len h.2]
  | [], _ :: _, h => h.elim
  | _ :: _, [], h => h.elim
theorem Reads.snoc {x : List UInt8} {g : Int × Int} (hx : WordsOK x g) : ∀ {ls : List (List UInt8)} {vs : List (Int × Int)}, Reads ls vs → Reads (ls ++ [x]) (vs ++ [g])
  | [], [], _ => ⟨hx, trivial⟩
  | _ :: _, _ :: _, h => ⟨h.1, Reads.snoc hx h.2⟩
  | [], _ :: _, h => h.elim
  | _ :: _, [], h => h.elim
theorem Reads.vis : ∀ {ps : List ((Nat × Nat) × (Int × Int))} {vs : List (Int × Int)}, (∀ p ∈ ps, visOk p.2 = true) → Reads (ps.map fun p => visLine p.1 p.2) vs → vs = ps.map (·.2)
  | [], [], _, _ => rfl
  | p :: t, g :: u, hp, h => by
    obtain ⟨⟨_, h1, h2⟩, h3⟩ := h
    rw [visLine_cut] at h1 h2
    obtain ⟨a, b⟩ := visOk_iff.1 (hp p (by simp))
    have e1 := h1 p.2.1 (numOf_itoa (by omega) (by omega))
    have e2 := h2 p.2.2 (numOf_itoa (by omega) (by omega))
    rw [List.map_cons, ← Reads.vis (fun q hq => hp q (by simp [hq])) h3]
    congr 1
    exact Prod.ext e1 e2
  | [], _ :: _, _, h => h.elim
  | _ :: _, [], _, h => h.elim
theorem VisIs.reads {l : List UInt8} {n : Int} {us vs : List (Int × Int)} (h : VisIs l n us) (hr : Reads (cut 10 (Lib.trimSuffix l [10])) vs) : us = vs := by
  rw [h.trim] at hr
  have e : visLines n.toNat us us.length = ((List.range us.length).map fun t => ((pairsN n.toNat).getD t (0, 0), us.getD t (0, 0))).map fun p => visLine p.1 p.2 := by
    unfold visLines; rw [List.map_map]; rfl
  rw [e] at hr
  have := Reads.vis (fun p hp => by
    obtain ⟨t, ht, rfl⟩ := List.mem_map.1 hp
    exact (visV_iff.1 h.1).2.2 _ (getD_mem (List.mem_range.1 ht))) hr
  rw [this, List.map_map]
  apply List.ext_getElem
  · simp
  · intro i h1 h2
    simp [h1]
theorem Reads.ne {l : List UInt8} {vs : List (Int × Int)} (hr : Reads (cut 10 (Lib.trimSuffix l [10])) vs) : l ≠ [] := fun e => by
  subst e
  match vs, hr with
  | [], h => exact h
  | g :: u, h => exact absurd h.1.1 (by decide)
theorem vis_not3 {l x : List UInt8} {pre : List (List UInt8)} (hp : pre ++ [x] <+: cut 10 (Lib.trimSuffix l [10])) (h3 : (cut 32 x).length ≠ 3) : ∀ m us, ¬ VisIs l m us := fun m us h => by
  rw [h.trim] at hp
  have hx : x ∈ visLines m.toNat us us.length := hp.subset (by simp)
  obtain ⟨t, _, rfl⟩ := List.mem_map.1 hx
  rw [visLine_cut] at h3
  exact h3 rfl
theorem vis_many {l x : List UInt8} {pre : List (List UInt8)} (hp : pre ++ [x] <+: cut 10 (Lib.trimSuffix l [10])) (h : pre.length = 21) : ∀ m us, ¬ VisIs l m us := fun m us hv => by
  rw [hv.trim] at hp
  have h1 := hp.length_le
  unfold visLines at h1
  simp at h1
  have h2 := hv.bd
  rcases bm_cases m with a | a | a | a | a | a | a <;> omega
theorem trim_len (l : List UInt8) : (Lib.trimSuffix l [10]).length ≤ l.length := by
  unfold Lib.trimSuffix
  split
  · rw [List.length_take]; omega
  · exact Nat.le_refl _
end Go.Proofs.YtbadeopjfmafcaaDoor
