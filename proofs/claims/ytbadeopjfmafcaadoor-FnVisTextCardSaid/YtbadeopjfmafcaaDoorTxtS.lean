/- Plain texts of skies: a sky's text; what is read from it. No program. -/
import Derived.Test.YtbadeopjfmafcaaDoorA4
import Derived.Test.YtbadeopjfmafcaaDoorTxtP
namespace Go.Proofs.YtbadeopjfmafcaaDoor
open Go

def sep4 (k : Nat) : UInt8 := if k % 4 = 3 then 10 else 32
def skyB (s : List Int) (n : Nat) : List UInt8 := (List.range n).flatMap fun k => Lib.itoa (s.getD k 0) ++ [sep4 k]
theorem skyB_zero (s : List Int) : skyB s 0 = [] := rfl
theorem skyB_succ (s : List Int) (k : Nat) : skyB s (k + 1) = skyB s k ++ (Lib.itoa (s.getD k 0) ++ [sep4 k]) := by
  unfold skyB; rw [List.range_succ, List.flatMap_append]; simp
def skyStr (s : List Int) : List UInt8 := if skyV s then skyB s 16 else []
theorem skyV_len {s : List Int} (h : skyV s = true) : s.length = 16 := (skyV_iff.1 h).1
theorem getD_le {s : List Int} {m : Int} (hm : 0 ≤ m) (h : ∀ x ∈ s, -m ≤ x ∧ x ≤ m) (k : Nat) : -m ≤ s.getD k 0 ∧ s.getD k 0 ≤ m := by
  by_cases hk : k < s.length
  · exact h _ (getD_mem hk)
  · rw [List.getD_eq_getElem?_getD, List.getElem?_eq_none (by omega)]; simp; omega
theorem skyV_get {s : List Int} (h : skyV s = true) (k : Nat) : -100000 ≤ s.getD k 0 ∧ s.getD k 0 ≤ 100000 := getD_le (by decide) (skyV_iff.1 h).2 k
theorem skyB_len {s : List Int} (h : ∀ x ∈ s, -9223372036854775808 ≤ x ∧ x ≤ 9223372036854775807) (n : Nat) : (skyB s n).length ≤ 22 * n := by
  induction n with
  | zero => exact Nat.le_refl _
  | succ k ih =>
    rw [skyB_succ, List.length_append, List.length_append]
    have hb : -9223372036854775808 ≤ s.getD k 0 ∧ s.getD k 0 ≤ 9223372036854775807 := by
      by_cases hk : k < s.length
      · exact h _ (getD_mem hk)
      · rw [List.getD_eq_getElem?_getD, List.getElem?_eq_none (by omega)]; simp
    have := Lib.itoa_length_le _ hb.1 hb.2
    simp only [List.length_cons, List.length_nil]; omega
theorem skyB_ne (s : List Int) (n : Nat) (h : 1 ≤ n) : skyB s n ≠ [] := by
  obtain ⟨k, rfl⟩ : ∃ k, n = k + 1 := ⟨n - 1, by omega⟩
  rw [skyB_succ]; simp
theorem skyStr_yes {s : List Int} (h : skyV s = true) : skyStr s = skyB s 16 := by unfold skyStr; rw [if_pos h]
theorem skyStr_no {s : List Int} (h : skyV s = false) : skyStr s = [] := by unfold skyStr; rw [h]; rfl
theorem skyStr_nil {s : List Int} : skyStr s = [] ↔ skyV s = false := by
  cases h : skyV s
  · simp [skyStr_no h]
  · simp [skyStr_yes h, skyB_ne s 16 (by decide)]

def skyWords (s : List Int) : List (List UInt8 × UInt8) := (List.range 16).map fun k => (Lib.itoa (s.getD k 0), sep4 k)
theorem skyWords_text (s : List Int) : (skyWords s).flatMap (fun x => x.1 ++ [x.2]) = skyB s 16 := by
  unfold skyWords skyB; rw [List.flatMap_map]
theorem map_range {s : List Int} {α : Type} (f : Int → α) (n : Nat) (h : s.length = n) : (List.range n).map (fun k => f (s.getD k 0)) = s.map f := by
  apply List.ext_getElem
  · simp [h]
  · intro i h1 h2
    simp only [List.getElem_map, List.getElem_range]
    rw [List.getD_eq_getElem?_getD, List.getElem?_eq_getElem (by simpa using h2)]
    rfl
theorem skyWords_fst {s : List Int} (h : s.length = 16) : (skyWords s).map (·.1) = s.map Lib.itoa := by
  unfold skyWords; rw [List.map_map]
  exact map_range Lib.itoa 16 h
/-- The rune is a blank or a newline. -/
def blankR (r : Nat) : Bool := decide (r = 32) || decide (r = 10)
theorem sep4_blank (k : Nat) : (sep4 k).toNat < 128 ∧ blankR (sep4 k).toNat = true := by
  unfold sep4; split <;> decide
theorem itoa_fine (n : Int) : ∀ b ∈ Lib.itoa n, b.toNat < 128 ∧ blankR b.toNat = false := by
  intro b hb
  have := itoa_mem n b hb
  refine ⟨by omega, ?_⟩
  unfold blankR
  simp; omega
theorem itoa_no {n : Int} {c : UInt8} (h : c.toNat < 45) : c ∉ Lib.itoa n := fun hm => by
  have := itoa_mem n c hm; omega
theorem sky_fields {s : ByteArray} {x : List Int} (hx : x.length = 16) (hs : s.data.toList = skyB x 16) : (Lib.goFieldsP blankR s).map (·.data.toList) = x.map Lib.itoa := by
  rw [fields_words blankR s (skyWords x) ?_ (by rw [skyWords_text]; exact hs), skyWords_fst hx]
  intro y hy
  unfold skyWords at hy
  obtain ⟨k, hk, rfl⟩ := List.mem_map.1 hy
  exact ⟨itoa_ne _, itoa_fine _, sep4_blank k⟩
theorem words_nums {x : List Int} (h : skyV x = true) : (x.map Lib.itoa).map num7 = x := by
  rw [List.map_map]
  conv => rhs; rw [← List.map_id x]
  refine List.map_congr_left fun n hn => ?_
  have := (skyV_iff.1 h).2 n hn
  exact num7_itoa (by omega) (by omega)

/-- The numbers of the lines that end, read word by word. -/
def lineNums (l : List UInt8) : List Int := (cut 32 l).map num7
def specNums (l : List UInt8) : List Int := (cut 10 l).dropLast.flatMap lineNums
def skyLine (x : List Int) (r : Nat) : List UInt8 := Lib.itoa (x.getD (4 * r) 0) ++ 32 :: (Lib.itoa (x.getD (4 * r + 1) 0) ++ 32 :: (Lib.itoa (x.getD (4 * r + 2) 0) ++ 32 :: Lib.itoa (x.getD (4 * r + 3) 0)))
theorem skyLine_no (x : List Int) (r : Nat) : (10 : UInt8) ∉ skyLine x r := by
  unfold skyLine
  simp only [List.mem_append, List.mem_cons, not_or]
  have h : ∀ n, (10 : UInt8) ∉ Lib.itoa n := fun n => itoa_no (by decide)
  exact ⟨h _, by decide, h _, by decide, h _, by decide, h _⟩
theorem skyB_lines (x : List Int) : skyB x 16 = [skyLine x 0, skyLine x 1, skyLine x 2, skyLine x 3].flatMap (· ++ [10]) := by
  unfold skyB skyLine
  simp only [show List.range 16 = [0, 1, 2, 3, 4, 5, 6, 7, 8, 9, 10, 11, 12, 13, 14, 15] from rfl, List.flatMap_cons, List.flatMap_nil, List.append_nil, List.append_assoc, List.cons_append, List.nil_append]
  rfl
theorem skyLine_nums {x : List Int} (h : skyV x = true) (r : Nat) : lineNums (skyLine x r) = [x.getD (4 * r) 0, x.getD (4 * r + 1) 0, x.getD (4 * r + 2) 0, x.getD (4 * r + 3) 0] := by
  unfold lineNums skyLine
  have hn : ∀ n, (32 : UInt8) ∉ Lib.itoa n := fun n => itoa_no (by decide)
  rw [cut_hit _ (hn _), cut_hit _ (hn _), cut_hit _ (hn _), cut_none (hn _)]
  have e : ∀ k, num7 (Lib.itoa (x.getD k 0)) = x.getD k 0 := fun k => by
    have := skyV_get h k
    exact num7_itoa (by omega) (by omega)
  simp only [List.map_cons, List.map_nil, e]
theorem specNums_sky {x : List Int} (h : skyV x = true) : specNums (skyB x 16) = x := by
  unfold specNums
  rw [skyB_lines, cut_lines _ (by
    intro y hy
    simp only [List.mem_cons, List.not_mem_nil, or_false] at hy
    rcases hy with rfl | rfl | rfl | rfl <;> exact skyLine_no x _), List.dropLast_concat]
  simp only [List.flatMap_cons, List.flatMap_nil, skyLine_nums h, List.append_nil, List.cons_append, List.nil_append, Nat.mul_zero, Nat.zero_add, Nat.reduceMul, Nat.reduceAdd]
  have hl := skyV_len h
  apply List.ext_getElem
  · simp [hl]
  · intro i h1 h2
    simp only [List.length_cons, List.length_nil] at h1
    have : x[i] = x.getD i 0 := by rw [List.getD_eq_getElem?_getD, List.getElem?_eq_getElem h2]; rfl
    rw [this]
    have hi : i = 0 ∨ i = 1 ∨ i = 2 ∨ i = 3 ∨ i = 4 ∨ i = 5 ∨ i = 6 ∨ i = 7 ∨ i = 8 ∨ i = 9 ∨ i = 10 ∨ i = 11 ∨ i = 12 ∨ i = 13 ∨ i = 14 ∨ i = 15 := by omega
    rcases hi with rfl | rfl | rfl | rfl | rfl | rfl | rfl | rfl | rfl | rfl | rfl | rfl | rfl | rfl | rfl | rfl <;> rfl
/-- What is read of a text: the sky whose text it is. -/
def readSky (l : List UInt8) : Option (List Int) := if l ≠ [] ∧ skyStr (specNums l) = l then some (specNums l) else none
theorem readSky_some {l : List UInt8} {x : List Int} : readSky l = some x ↔ skyV x = true ∧ l = skyB x 16 := by
  unfold readSky
  constructor
  · intro h
    split at h
    · rename_i hc
      injection h with h
      subst h
      have hv : skyV (specNums l) = true := by
        cases hv : skyV (specNums l)
        · rw [skyStr_no hv] at hc; exact absurd hc.2.symm hc.1
        · rfl
      exact ⟨hv, by rw [skyStr_yes hv] at hc; exact hc.2.symm⟩
    · cases h
  · rintro ⟨hv, rfl⟩
    rw [specNums_sky hv, if_pos ⟨skyB_ne x 16 (by decide), skyStr_yes hv⟩]
theorem readSky_none {l : List UInt8} (h : ∀ x, skyV x = true → l ≠ skyB x 16) : readSky l = none := by
  cases hr : readSky l with
  | none => rfl
  | some x => obtain ⟨h1, h2⟩ := readSky_some.1 hr; exact absurd h2 (h x h1)
theorem skyB_inj {x y : List Int} (hx : skyV x = true) (hy : skyV y = true) (h : skyB x 16 = skyB y 16) : x = y := by
  have := specNums_sky hx
  rw [h, specNums_sky hy] at this
  exact this.symm
theorem skyB_count (x : List Int) : (skyB x 16).count 10 = 4 ∧ (skyB x 16).count 32 = 12 := by
  have h0 : ∀ (c : UInt8) (n : Int), c.toNat < 45 → (Lib.itoa n).count c = 0 := fun c n hc => List.count_eq_zero.2 (itoa_no hc)
  rw [skyB_lines]
  unfold skyLine
  simp only [List.flatMap_cons, List.flatMap_nil, List.append_nil, List.count_append, List.count_cons, List.count_nil, h0 10 _ (by decide), h0 32 _ (by decide)]
  decide
end Go.Proofs.YtbadeopjfmafcaaDoor
