/- What a text of visibilities reads as: plain. -/
import Derived.Test.YtbadeopjfmafcaaDoorTxtV
namespace Go.Proofs.YtbadeopjfmafcaaDoor
open Go

/-- What VisFrom returns. -/
def VisRes (l : List UInt8) (n : Int) (vs : List (Int × Int)) (ok : Bool) : Prop := (ok = true ∧ VisIs l n vs) ∨ (ok = false ∧ n = 0 ∧ vs = [] ∧ ∀ m us, ¬ VisIs l m us)
theorem VisRes.uniq {l : List UInt8} {n n' : Int} {vs vs' : List (Int × Int)} {ok ok' : Bool} (h : VisRes l n vs ok) (h' : VisRes l n' vs' ok') : n = n' ∧ vs = vs' ∧ ok = ok' := by
  rcases h with ⟨rfl, h⟩ | ⟨rfl, rfl, rfl, h⟩ <;> rcases h' with ⟨rfl, h'⟩ | ⟨rfl, rfl, rfl, h'⟩
  · exact ⟨(h.inj h').1, (h.inj h').2, rfl⟩
  · exact absurd h (h' _ _)
  · exact absurd h' (h _ _)
  · exact ⟨rfl, rfl, rfl⟩
theorem lineVis_three {x : List UInt8} (h : (cut 32 x).length = 3) : lineVis x = some (num7 ((cut 32 x).getD 1 []), num7 ((cut 32 x).getD 2 [])) := by
  unfold lineVis
  match hc : cut 32 x, h with
  | [a, b, c], _ => simp
theorem lineVis_not {x : List UInt8} (h : (cut 32 x).length ≠ 3) : lineVis x = none := by
  unfold lineVis
  match hc : cut 32 x with
  | [] => rfl
  | [_] => rfl
  | [_, _] => rfl
  | [_, _, _] => rw [hc] at h; exact absurd rfl h
  | _ :: _ :: _ :: _ :: _ => rfl
theorem linesVis_mem {ls : List (List UInt8)} {x : List UInt8} (hx : x ∈ ls) (h : lineVis x = none) : linesVis ls = none := by
  induction ls with
  | nil => cases hx
  | cons a t ih =>
    simp only [linesVis]
    cases ha : lineVis a with
    | none => rfl
    | some g =>
      rcases List.mem_cons.1 hx with rfl | hx
      · rw [h] at ha; cases ha
      · simp only; rw [ih hx]; rfl
theorem linesVis_len {ls : List (List UInt8)} : ∀ {vs : List (Int × Int)}, linesVis ls = some vs → vs.length = ls.length := by
  induction ls with
  | nil => intro vs h; simp only [linesVis, Option.some.injEq] at h; subst h; rfl
  | cons a t ih =>
    intro vs h
    simp only [linesVis] at h
    cases ha : lineVis a with
    | none => rw [ha] at h; cases h
    | some g =>
      rw [ha] at h
      simp only at h
      cases ht : linesVis t with
      | none => rw [ht] at h; cases h
      | some us =>
        rw [ht] at h
        simp only [Option.map_some, Option.some.injEq] at h
        subst h
        simp [ih ht]
theorem linesVis_take {ls : List (List UInt8)} {k : Nat} {vs : List (Int × Int)} {g : Int × Int} (hk : k < ls.length) (h : linesVis (ls.take k) = some vs) (hg : lineVis (ls.getD k []) = some g) : linesVis (ls.take (k + 1)) = some (vs ++ [g]) := by
  rw [take_succ_getD (d := []) hk, linesVis_snoc, h]
  simp only
  rw [hg]; rfl
/-- A text of which some full line has not three words is none. -/
theorem VisIs.lines_not {l : List UInt8} {x : List UInt8} (hx : x ∈ (cut 10 l).dropLast) (h : lineVis x = none) : ∀ m us, ¬ VisIs l m us := fun m us hv => by
  have := hv.read
  rw [linesVis_mem hx h] at this
  cases this
theorem dropLast_mem {ls : List (List UInt8)} {k n : Nat} (hn : ls.length = n) (hk : k + 1 < n) : ls.getD k [] ∈ ls.dropLast := by
  rw [List.dropLast_eq_take, hn]
  have hk2 : k < (ls.take (n - 1)).length := by rw [List.length_take]; omega
  have : (ls.take (n - 1)).getD k [] = ls.getD k [] := by
    simp only [List.getD_eq_getElem?_getD]
    rw [List.getElem?_take, if_pos (by omega)]
  rw [← this]
  exact getD_mem hk2
end Go.Proofs.YtbadeopjfmafcaaDoor
