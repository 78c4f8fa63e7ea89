/- Plain texts: numerals are read back; texts are cut at a byte; fields of a text. No program. · Plain texts of skies: a sky's text; what is read from it. No program. · Redundant baselines: plain. · Plain texts of visibilities: the text; what is read from it. No program. · Visibilities in range: the program's VisValid and the reference's. · Delays, phases of baselines, point sources: both sides. -/
import Derived.Lib.ItoaNum
import Derived.Lib.ItoaLen
import Derived.Lib.AtoiAll
import Derived.Lib.AtoiTie
import Derived.Lib.FieldsP
import Derived.Lib.Split
import Derived.Lib.SplitLaws
import Derived.Lib.IndexBytes
import Derived.Lib.TrimUEq
import Derived.Test.YtipgpafgampfbaaGreatDoorA4
import Derived.Test.YtipgpafgampfbaaGreatDoorB2
import Derived.Test.YtipgpafgampfbaaGreatDoorA3
namespace Go.Proofs.YtipgpafgampfbaaGreatDoor
open Go

/-! ### numerals -/
theorem decFrom_snoc (b : UInt8) : ∀ (l : List UInt8) (acc : Nat), Lib.decFrom acc (l ++ [b]) = (Lib.decFrom acc l).bind fun n => (Lib.digitVal b).map fun d => n * 10 + d
  | [], acc => by
    simp only [List.nil_append, Lib.decFrom]
    cases Lib.digitVal b <;> rfl
  | a :: t, acc => by
    simp only [List.cons_append, Lib.decFrom]
    cases Lib.digitVal a with
    | none => rfl
    | some d => exact decFrom_snoc b t _

theorem digit_toNat {d : Nat} (h : d < 10) : (UInt8.ofNat (48 + d)).toNat = 48 + d := by
  rw [UInt8.toNat_ofNat']; omega
theorem digitVal_of {d : Nat} (h : d < 10) : Lib.digitVal (UInt8.ofNat (48 + d)) = some d := by
  unfold Lib.digitVal
  rw [digit_toNat h, if_pos (by omega)]
  congr 1; omega

theorem decFrom_decDigits (u : Nat) : Lib.decFrom 0 (Lib.decDigits u) = some u := by
  induction u using Nat.strongRecOn with
  | _ u ih =>
    rw [Lib.decDigits]
    by_cases h : u < 10
    · rw [dif_pos h]
      unfold Lib.decFrom
      rw [digitVal_of h]
      simp [Lib.decFrom]
    · rw [dif_neg h, decFrom_snoc, ih (u / 10) (by omega), digitVal_of (by omega)]
      simp only [Option.bind_some, Option.map_some, Option.some.injEq]
      omega

theorem decDigits_mem (u : Nat) : ∀ b ∈ Lib.decDigits u, 48 ≤ b.toNat ∧ b.toNat ≤ 57 := by
  induction u using Nat.strongRecOn with
  | _ u ih =>
    intro b hb
    rw [Lib.decDigits] at hb
    by_cases h : u < 10
    · rw [dif_pos h] at hb
      simp only [List.mem_singleton] at hb
      subst hb
      rw [digit_toNat h]; omega
    · rw [dif_neg h, List.mem_append] at hb
      rcases hb with hb | hb
      · exact ih (u / 10) (by omega) b hb
      · simp only [List.mem_singleton] at hb
        subst hb
        rw [digit_toNat (by omega)]; omega
theorem decDigits_ne (u : Nat) : Lib.decDigits u ≠ [] := by
  intro h
  have := Lib.decDigits_length u
  have := Lib.nDigits_pos u
  rw [h] at *
  simp at *; omega

theorem itoa_mem (n : Int) : ∀ b ∈ Lib.itoa n, b.toNat = 45 ∨ (48 ≤ b.toNat ∧ b.toNat ≤ 57) := by
  intro b hb
  unfold Lib.itoa at hb
  split at hb
  · rcases List.mem_cons.1 hb with rfl | hb
    · exact .inl rfl
    · exact .inr (decDigits_mem _ b hb)
  · exact .inr (decDigits_mem _ b hb)
/-- A number of one to seven digits, a hyphen ahead or not. -/
def numOf (l : List UInt8) : Option Int :=
  match l with
  | [] => none
  | b :: r =>
    if b = 45 then (if r.isEmpty || decide (7 < r.length) then none else (Lib.decFrom 0 r).map fun (m : Nat) => -(m : Int))
    else (if decide (7 < (b :: r).length) then none else (Lib.decFrom 0 (b :: r)).map fun (m : Nat) => (m : Int))
def num7 (l : List UInt8) : Int := (numOf l).getD 99999999

theorem nDigits_le {u k : Nat} (hk : 1 ≤ k) (h : u < 10 ^ k) : Lib.nDigits u ≤ k := by
  rcases Nat.lt_or_ge k (Lib.nDigits u) with hlt | hge
  · exfalso
    have h1 := Lib.nDigits_pos u
    have hu : u ≠ 0 := by
      rintro rfl
      rw [Lib.nDigits_small (by decide)] at hlt
      omega
    have : 10 ^ (Lib.nDigits u - 1) ≤ u := by
      clear h hlt hk k h1
      induction u using Nat.strongRecOn with
      | _ u ih =>
        by_cases h : u < 10
        · rw [Lib.nDigits_small h]
          rcases Nat.eq_zero_or_pos u with h0 | h0
          · exact absurd h0 hu
          · simp only [Nat.sub_self, Nat.pow_zero]; omega
        · have h2 := Lib.nDigits_pos (u / 10)
          have h3 := ih (u / 10) (by omega) (by omega)
          rw [Lib.nDigits_big h]
          have e : Lib.nDigits (u / 10) + 1 - 1 = (Lib.nDigits (u / 10) - 1) + 1 := by omega
          rw [e, Nat.pow_succ]
          omega
    have h4 : 10 ^ k ≤ 10 ^ (Lib.nDigits u - 1) := Nat.pow_le_pow_right (by decide) (by omega)
    omega
  · exact hge

theorem numOf_itoa {n : Int} (h0 : -9999999 ≤ n) (h1 : n ≤ 9999999) : numOf (Lib.itoa n) = some n := by
  unfold Lib.itoa
  by_cases hn : n < 0
  · rw [if_pos hn]
    have hl : (Lib.decDigits n.natAbs).length ≤ 7 := by
      rw [Lib.decDigits_length]; exact nDigits_le (by decide) (by omega)
    have hne := decDigits_ne n.natAbs
    unfold numOf
    simp only [if_true]
    rw [if_neg (by simp [hne]; omega), decFrom_decDigits]
    simp only [Option.map_some, Option.some.injEq]
    omega
  · rw [if_neg hn]
    have hl : (Lib.decDigits n.toNat).length ≤ 7 := by
      rw [Lib.decDigits_length]; exact nDigits_le (by decide) (by omega)
    have hd := decFrom_decDigits n.toNat
    have hm := decDigits_mem n.toNat
    have hne := decDigits_ne n.toNat
    cases hc : Lib.decDigits n.toNat with
    | nil => exact absurd hc hne
    | cons b r =>
      rw [hc] at hl hd hm
      unfold numOf
      have hb : ¬ b = 45 := by
        rintro rfl
        have := hm 45 (by simp)
        simp at this
      simp only [if_neg hb]
      rw [if_neg (by simpa using hl), hd]
      simp only [Option.map_some, Option.some.injEq]
      omega
theorem num7_itoa {n : Int} (h0 : -9999999 ≤ n) (h1 : n ≤ 9999999) : num7 (Lib.itoa n) = n := by
  unfold num7; rw [numOf_itoa h0 h1]; rfl

theorem atoi_of_num {l : List UInt8} {n : Int} (h : numOf l = some n) : Lib.atoi l = some n ∧ l.length ≤ 8 := by
  cases l with
  | nil => simp [numOf] at h
  | cons b r =>
    unfold numOf at h
    simp only at h
    by_cases hb : b = 45
    · subst hb
      simp only [if_true] at h
      split at h
      · cases h
      · rename_i hc
        simp only [Bool.or_eq_true, decide_eq_true_eq, not_or, Nat.not_lt] at hc
        have hr : r.isEmpty = false := by simpa using hc.1
        refine ⟨?_, by simp only [List.length_cons]; omega⟩
        unfold Lib.atoi Lib.decNat
        simp only [beq_self_eq_true, if_true, hr, Bool.false_eq_true, if_false]
        exact h
    · simp only [if_neg hb] at h
      split at h
      · cases h
      · rename_i hc
        simp only [decide_eq_true_eq, Nat.not_lt] at hc
        have h43 : b ≠ 43 := by
          rintro rfl
          simp [Lib.decFrom, Lib.digitVal] at h
        refine ⟨?_, by omega⟩
        unfold Lib.atoi Lib.decNat
        simp only [beq_iff_eq, hb, h43, if_false, List.isEmpty_cons, Bool.false_eq_true]
        exact h

/-! ### cutting at a byte -/
def cut (c : UInt8) : List UInt8 → List (List UInt8)
  | [] => [[]]
  | b :: l => if b = c then [] :: cut c l else match cut c l with
    | h :: t => (b :: h) :: t
    | [] => [[b]]
theorem cut_ne (c : UInt8) (l : List UInt8) : cut c l ≠ [] := by
  cases l with
  | nil => simp [cut]
  | cons b l =>
    unfold cut
    split
    · simp
    · split <;> simp
theorem cut_none {c : UInt8} : ∀ {l : List UInt8}, c ∉ l → cut c l = [l]
  | [], _ => rfl
  | b :: l, h => by
    have hb : ¬ b = c := fun e => h (by simp [e])
    have hl : c ∉ l := fun e => h (by simp [e])
    unfold cut
    rw [if_neg hb, cut_none hl]
theorem cut_hit {c : UInt8} : ∀ {a : List UInt8} (r : List UInt8), c ∉ a → cut c (a ++ c :: r) = a :: cut c r
  | [], r, _ => by
    rw [List.nil_append, cut, if_pos rfl]
  | b :: a, r, h => by
    have hb : ¬ b = c := fun e => h (by simp [e])
    have hl : c ∉ a := fun e => h (by simp [e])
    rw [List.cons_append, cut, if_neg hb, cut_hit r hl]
theorem cut_len (c : UInt8) : ∀ l : List UInt8, (cut c l).length = l.count c + 1
  | [] => rfl
  | b :: l => by
    have ih := cut_len c l
    unfold cut
    by_cases hb : b = c
    · subst hb
      rw [if_pos rfl, List.length_cons, ih, List.count_cons_self]
    · rw [if_neg hb, List.count_cons_of_ne (by simpa using hb)]
      cases hc : cut c l with
      | nil => exact absurd hc (cut_ne c l)
      | cons h t => rw [hc] at ih; simpa using ih
theorem cut_lines {c : UInt8} : ∀ (ls : List (List UInt8)), (∀ x ∈ ls, c ∉ x) → cut c (ls.flatMap (· ++ [c])) = ls ++ [[]]
  | [], _ => rfl
  | a :: t, h => by
    rw [List.flatMap_cons, List.append_assoc, List.singleton_append, cut_hit _ (h a (by simp)), cut_lines t fun x hx => h x (by simp [hx])]
    rfl
theorem cut_mem {c : UInt8} : ∀ {l : List UInt8} {x : List UInt8}, x ∈ cut c l → c ∉ x
  | [], x, h => by simp [cut] at h; subst h; simp
  | b :: l, x, h => by
    unfold cut at h
    split at h
    · rcases List.mem_cons.1 h with rfl | h
      · simp
      · exact cut_mem h
    · rename_i hb
      cases hc : cut c l with
      | nil => exact absurd hc (cut_ne c l)
      | cons y t =>
        rw [hc] at h
        rcases List.mem_cons.1 h with rfl | h
        · have := cut_mem (c := c) (l := l) (x := y) (by rw [hc]; simp)
          simp [this, Ne.symm hb]
        · exact cut_mem (c := c) (l := l) (by rw [hc]; simp [h])
theorem cut_size {c : UInt8} : ∀ {l : List UInt8} {x : List UInt8}, x ∈ cut c l → x.length ≤ l.length
  | [], x, h => by simp [cut] at h; subst h; simp
  | b :: l, x, h => by
    unfold cut at h
    split at h
    · rcases List.mem_cons.1 h with rfl | h
      · simp
      · have := cut_size h; simp; omega
    · cases hc : cut c l with
      | nil => exact absurd hc (cut_ne c l)
      | cons y t =>
        rw [hc] at h
        rcases List.mem_cons.1 h with rfl | h
        · have := cut_size (c := c) (l := l) (x := y) (by rw [hc]; simp)
          simp; omega
        · have := cut_size (c := c) (l := l) (x := x) (by rw [hc]; simp [h])
          simp; omega

theorem index_split {c : UInt8} {l : List UInt8} {o : Nat} (h : Lib.index l [c] = o) : ∃ a r, l = a ++ c :: r ∧ a.length = o ∧ c ∉ a := by
  rw [Lib.index_one] at h
  obtain ⟨h1, h2⟩ := Lib.indexByte_some h
  have hlt : o < l.length := (List.getElem?_eq_some_iff.1 h1).1
  refine ⟨l.take o, l.drop (o + 1), ?_, by simp; omega, ?_⟩
  · rw [List.getElem?_eq_getElem hlt] at h1
    injection h1 with h1
    conv => lhs; rw [← List.take_append_drop o l]
    rw [List.drop_eq_getElem_cons hlt, h1]
  · intro hm
    obtain ⟨k, hk, e⟩ := List.mem_iff_getElem.1 hm
    have hk' : k < o := by simp at hk; omega
    refine h2 k hk' ?_
    rw [List.getElem_take] at e
    rw [List.getElem?_eq_getElem (by omega), e]
theorem index_miss {c : UInt8} {l : List UInt8} (h : Lib.index l [c] = -1) : c ∉ l := by
  rw [Lib.index_one] at h
  intro hm
  obtain ⟨k, hk, e⟩ := List.mem_iff_getElem.1 hm
  exact Lib.indexByte_none h k (by rw [List.getElem?_eq_getElem hk, e])
/-- The library's Split at one byte is 'cut'. -/
theorem splitK_cut (c : UInt8) : ∀ (k : Nat) (l : List UInt8), l.count c = k → Lib.splitK [c] 0 k l = cut c l
  | 0, l, h => by
    have : c ∉ l := List.count_eq_zero.1 h
    rw [cut_none this]; rfl
  | k + 1, l, h => by
    unfold Lib.splitK
    by_cases hm : Lib.index l [c] = -1
    · exfalso
      have := index_miss hm
      rw [List.count_eq_zero_of_not_mem this] at h
      omega
    · have hge := Lib.index_ge l [c]
      obtain ⟨o, ho⟩ : ∃ o : Nat, Lib.index l [c] = o := ⟨(Lib.index l [c]).toNat, by omega⟩
      obtain ⟨a, r, rfl, hl, ha⟩ := index_split ho
      rw [if_neg (by simpa using hm), ho, cut_hit r ha]
      have e1 : ((o : Int).toNat + 0) = a.length := by omega
      have e2 : ((o : Int).toNat + [c].length) = a.length + 1 := by simp; omega
      rw [e1, e2, List.take_left' rfl]
      have e3 : (a ++ c :: r).drop (a.length + 1) = r := by
        rw [← List.drop_drop]; simp
      rw [e3, splitK_cut c k r (by
        rw [List.count_append, List.count_eq_zero_of_not_mem ha, List.count_cons_self] at h; omega)]
theorem split_cut (c : UInt8) (s : ByteArray) : (Lib.splitB ⟨#[c]⟩ 0 (Lib.countB s ⟨#[c]⟩) s).map (·.data.toList) = cut c s.data.toList := by
  rw [Lib.splitB_data]
  refine splitK_cut c _ _ ?_
  show _ = Lib.count s.data.toList [c]
  rw [Lib.count_one]

/-! ### fields -/
end Go.Proofs.YtipgpafgampfbaaGreatDoor

namespace Go.Proofs.YtipgpafgampfbaaGreatDoor
open Go

def sep4 (k : Nat) : UInt8 := if k % 4 = 3 then 10 else 32
def skyB (s : List Int) (n : Nat) : List UInt8 := (List.range n).flatMap fun k => Lib.itoa (s.getD k 0) ++ [sep4 k]
theorem skyB_succ (s : List Int) (k : Nat) : skyB s (k + 1) = skyB s k ++ (Lib.itoa (s.getD k 0) ++ [sep4 k]) := by
  unfold skyB; rw [List.range_succ, List.flatMap_append]; simp
def skyStr (s : List Int) : List UInt8 := if skyV s then skyB s 16 else []
theorem getD_le {s : List Int} {m : Int} (hm : 0 ≤ m) (h : ∀ x ∈ s, -m ≤ x ∧ x ≤ m) (k : Nat) : -m ≤ s.getD k 0 ∧ s.getD k 0 ≤ m := by
  by_cases hk : k < s.length
  · exact h _ (getD_mem hk)
  · rw [List.getD_eq_getElem?_getD, List.getElem?_eq_none (by omega)]; simp; omega
theorem skyV_get {s : List Int} (h : skyV s = true) (k : Nat) : -100000 ≤ s.getD k 0 ∧ s.getD k 0 ≤ 100000 := getD_le (by decide) (skyV_iff.1 h).2 k
theorem skyB_len {s : List Int} (h : ∀ x ∈ s, -9223372036854775808 ≤ x ∧ x ≤ 9223372036854775807) (n : Nat) : (skyB s n).length ≤ 22 * n := by
  induction n with
  | zero => exact Nat.le_refl _
  | succ k ih =>
    rw [skyB_succ, List.length_append, List.length_append]
    have hb : -9223372036854775808 ≤ s.getD k 0 ∧ s.getD k 0 ≤ 9223372036854775807 := by
      by_cases hk : k < s.length
      · exact h _ (getD_mem hk)
      · rw [List.getD_eq_getElem?_getD, List.getElem?_eq_none (by omega)]; simp
    have := Lib.itoa_length_le _ hb.1 hb.2
    simp only [List.length_cons, List.length_nil]; omega
theorem skyStr_yes {s : List Int} (h : skyV s = true) : skyStr s = skyB s 16 := by unfold skyStr; rw [if_pos h]
theorem skyStr_no {s : List Int} (h : skyV s = false) : skyStr s = [] := by unfold skyStr; rw [h]; rfl
theorem itoa_no {n : Int} {c : UInt8} (h : c.toNat < 45) : c ∉ Lib.itoa n := fun hm => by
  have := itoa_mem n c hm; omega
end Go.Proofs.YtipgpafgampfbaaGreatDoor

namespace Go.Proofs.YtipgpafgampfbaaGreatDoor
open Go.RowKit

/-- Two vectors are equal or opposite. -/
def like (u v : Int × Int) : Bool := decide (u = v) || decide (u.1 = -v.1 ∧ u.2 = -v.2)
theorem like_iff {u v : Int × Int} : like u v = true ↔ u = v ∨ (u.1 = -v.1 ∧ u.2 = -v.2) := by unfold like; simp
theorem like_refl (u : Int × Int) : like u u = true := like_iff.2 (.inl rfl)
theorem like_symm {u v : Int × Int} (h : like u v = true) : like v u = true := by
  rcases like_iff.1 h with rfl | h
  · exact like_refl _
  · exact like_iff.2 (.inr (by omega))
theorem like_trans {u v t : Int × Int} (h : like u v = true) (k : like v t = true) : like u t = true := by
  rcases like_iff.1 h with rfl | h
  · exact k
  · rcases like_iff.1 k with rfl | k
    · exact like_iff.2 (.inr h)
    · exact like_iff.2 (.inl (Prod.ext (by omega) (by omega)))
/-- The vectors of the baselines. -/
def vL (xs : List (Int × Int)) : List (Int × Int) := (pairsN xs.length).map fun p => (vecX xs p.1 p.2, vecY xs p.1 p.2)
theorem vL_get {xs : List (Int × Int)} {n k : Nat} (hn : xs.length = n) (hk : k < (pairsN n).length) : (vL xs).getD k (0, 0) = (vecX xs (pairAt n k).1 (pairAt n k).2, vecY xs (pairAt n k).1 (pairAt n k).2) := by
  subst hn
  unfold vL pairAt
  rw [List.getD_eq_getElem?_getD, List.getElem?_map, List.getElem?_eq_getElem hk, List.getD_eq_getElem?_getD, List.getElem?_eq_getElem hk]; rfl
/-- k is the first place of which the vector is like u. -/
def First (V : List (Int × Int)) (u : Int × Int) (k : Nat) : Prop := like (V.getD k (0, 0)) u = true ∧ ∀ j, j < k → like (V.getD j (0, 0)) u = false
theorem First.uniq {V : List (Int × Int)} {u : Int × Int} {j k : Nat} (h : First V u j) (h' : First V u k) : j = k := by
  rcases Nat.lt_trichotomy j k with e | e | e
  · have := h'.2 j e; rw [h.1] at this; cases this
  · exact e
  · have := h.2 k e; rw [h'.1] at this; cases this
/-- The group of a baseline. -/
def grp (V : List (Int × Int)) (i : Nat) : Nat := ((List.range i).find? fun k => like (V.getD k (0, 0)) (V.getD i (0, 0))).getD i
theorem grp_first (V : List (Int × Int)) (i : Nat) : First V (V.getD i (0, 0)) (grp V i) ∧ grp V i ≤ i := by
  unfold grp
  cases h : (List.range i).find? fun k => like (V.getD k (0, 0)) (V.getD i (0, 0)) with
  | none =>
    rw [List.find?_eq_none] at h
    refine ⟨⟨like_refl _, fun j hj => ?_⟩, Nat.le_refl _⟩
    have := h j (List.mem_range.2 hj)
    simpa using this
  | some k =>
    rw [List.find?_range_eq_some] at h
    obtain ⟨h1, h2, h3⟩ := h
    refine ⟨⟨h1, fun j hj => ?_⟩, Nat.le_of_lt (List.mem_range.1 h2)⟩
    have := h3 j hj
    simpa using this
theorem grp_of {V : List (Int × Int)} {i k : Nat} (h : First V (V.getD i (0, 0)) k) : grp V i = k := (grp_first V i).1.uniq h
def grpL (V : List (Int × Int)) (m : Nat) : List Int := (List.range m).map fun i => ((grp V i : Nat) : Int)
theorem grpL_succ (V : List (Int × Int)) (m : Nat) : grpL V (m + 1) = grpL V m ++ [((grp V m : Nat) : Int)] := by unfold grpL; rw [List.range_succ, List.map_append]; rfl
theorem grpL_get (V : List (Int × Int)) {m k : Nat} (h : k < m) : (grpL V m)[k]? = some ((grp V k : Nat) : Int) := by unfold grpL; rw [List.getElem?_map, List.getElem?_range h]; rfl
/-- How many of the first baselines are the first of their group. -/
def redN (V : List (Int × Int)) (m : Nat) : Nat := ((List.range m).filter fun i => grp V i == i).length
theorem redN_succ (V : List (Int × Int)) (m : Nat) : redN V (m + 1) = redN V m + if grp V m = m then 1 else 0 := by
  unfold redN
  rw [List.range_succ, List.filter_append, List.length_append]
  congr 1
  by_cases h : grp V m = m <;> simp [h]
theorem redN_le (V : List (Int × Int)) (m : Nat) : redN V m ≤ m := by
  unfold redN
  have := List.length_filter_le (fun i => grp V i == i) (List.range m)
  simpa using this
def redM (xs : List (Int × Int)) : Int := if arrV xs then ((redN (vL xs) (pairsN xs.length).length : Nat) : Int) else -1
theorem redM_yes {xs : List (Int × Int)} (h : arrV xs = true) : redM xs = ((redN (vL xs) (pairsN xs.length).length : Nat) : Int) := by unfold redM; rw [if_pos h]
theorem redM_no {xs : List (Int × Int)} (h : arrV xs = false) : redM xs = -1 := by unfold redM; rw [h]; rfl

/-! ### Vectors one by one -/
theorem getD_app {U : List (Int × Int)} {v : Int × Int} {j : Nat} (h : j < U.length) : (U ++ [v]).getD j (0, 0) = U.getD j (0, 0) := by
  rw [List.getD_eq_getElem?_getD, List.getD_eq_getElem?_getD, List.getElem?_append_left h]
theorem getD_last (U : List (Int × Int)) (v : Int × Int) : (U ++ [v]).getD U.length (0, 0) = v := by
  rw [List.getD_eq_getElem?_getD, List.getElem?_append_right (Nat.le_refl _)]; simp
theorem First.app {U : List (Int × Int)} {v u : Int × Int} {j : Nat} (h : j < U.length) : First (U ++ [v]) u j ↔ First U u j := by
  unfold First
  rw [getD_app h]
  constructor
  · rintro ⟨a, b⟩
    exact ⟨a, fun i hi => by rw [← getD_app (v := v) (by omega)]; exact b i hi⟩
  · rintro ⟨a, b⟩
    exact ⟨a, fun i hi => by rw [getD_app (by omega)]; exact b i hi⟩
theorem First.last {U : List (Int × Int)} {v u : Int × Int} (h : like v u = true) (hn : ∀ j, j < U.length → like (U.getD j (0, 0)) u = false) : First (U ++ [v]) u U.length :=
  ⟨by rw [getD_last]; exact h, fun j hj => by rw [getD_app hj]; exact hn j hj⟩
theorem grp_app {U : List (Int × Int)} {v : Int × Int} {i : Nat} (h : i < U.length) : grp (U ++ [v]) i = grp U i := by
  obtain ⟨h1, h2⟩ := grp_first U i
  refine grp_of ?_
  rw [getD_app h]
  exact (First.app (by omega)).2 h1
theorem grpL_app (U : List (Int × Int)) (v : Int × Int) {k : Nat} (h : First (U ++ [v]) v k) : grpL (U ++ [v]) (U.length + 1) = grpL U U.length ++ [((k : Nat) : Int)] := by
  rw [grpL_succ]
  congr 1
  · unfold grpL
    exact List.map_congr_left fun i hi => by rw [grp_app (List.mem_range.1 hi)]
  · rw [grp_of (k := k) (by rw [getD_last]; exact h)]
/-- The opposite of a place. -/
def oppV (u : Int × Int) : Int × Int := (-u.1, -u.2)
theorem like_cases {v u : Int × Int} (h : like v u = true) : u = v ∨ u = oppV v := by
  rcases like_iff.1 h with h | h
  · exact .inl h.symm
  · exact .inr (Prod.ext (by simp [oppV]; omega) (by simp [oppV]; omega))
theorem like_opp (v : Int × Int) : like v (oppV v) = true := like_iff.2 (.inr (by simp [oppV]))
end Go.Proofs.YtipgpafgampfbaaGreatDoor

namespace Go.Proofs.YtipgpafgampfbaaGreatDoor
open Go

/-- A visibility's amplitude and phase are in range. -/
def visOk (g : Int × Int) : Bool := inR g.1 1 1000000 && inR g.2 0 359
def visV (n : Int) (vs : List (Int × Int)) : Bool := inR n 2 7 && (decide ((vs.length : Int) = bm n) && vs.all visOk)
theorem visOk_iff {g : Int × Int} : visOk g = true ↔ (1 ≤ g.1 ∧ g.1 ≤ 1000000) ∧ 0 ≤ g.2 ∧ g.2 ≤ 359 := by
  unfold visOk; rw [Bool.and_eq_true, inR_iff, inR_iff]
theorem visV_iff {n : Int} {vs : List (Int × Int)} : visV n vs = true ↔ (2 ≤ n ∧ n ≤ 7) ∧ (vs.length : Int) = bm n ∧ ∀ g ∈ vs, visOk g = true := by
  unfold visV; rw [Bool.and_eq_true, Bool.and_eq_true, inR_iff, decide_eq_true_iff, List.all_eq_true]

def visLine (p : Nat × Nat) (g : Int × Int) : List UInt8 := Lib.itoa p.1 ++ 45 :: (Lib.itoa p.2 ++ 32 :: (Lib.itoa g.1 ++ 32 :: Lib.itoa g.2))
/-- The lines of the first k baselines. -/
def visB (n : Nat) (vs : List (Int × Int)) (k : Nat) : List UInt8 := (List.range k).flatMap fun t => visLine ((pairsN n).getD t (0, 0)) (vs.getD t (0, 0)) ++ [10]
theorem visB_succ (n : Nat) (vs : List (Int × Int)) (k : Nat) : visB n vs (k + 1) = visB n vs k ++ (visLine ((pairsN n).getD k (0, 0)) (vs.getD k (0, 0)) ++ [10]) := by
  unfold visB; rw [List.range_succ, List.flatMap_append]; simp
def visStr (n : Int) (vs : List (Int × Int)) : List UInt8 := if visV n vs then visB n.toNat vs vs.length else []
theorem visStr_yes {n : Int} {vs : List (Int × Int)} (h : visV n vs = true) : visStr n vs = visB n.toNat vs vs.length := by unfold visStr; rw [if_pos h]
theorem visStr_no {n : Int} {vs : List (Int × Int)} (h : visV n vs = false) : visStr n vs = [] := by unfold visStr; rw [h]; rfl
theorem visB_ne (n : Nat) (vs : List (Int × Int)) (k : Nat) (h : 1 ≤ k) : visB n vs k ≠ [] := by
  obtain ⟨j, rfl⟩ : ∃ j, k = j + 1 := ⟨k - 1, by omega⟩
  rw [visB_succ]; simp
theorem visV_len {n : Int} {vs : List (Int × Int)} (h : visV n vs = true) : 1 ≤ vs.length := by
  obtain ⟨h1, h2, _⟩ := visV_iff.1 h
  rcases bm_cases n with h | h | h | h | h | h | h <;> omega
theorem visLine_no (c : UInt8) (hc : c.toNat < 32) (p : Nat × Nat) (g : Int × Int) : c ∉ visLine p g := by
  have h : ∀ n, c ∉ Lib.itoa n := fun n => itoa_no (by omega)
  have h1 : c ≠ 45 := by rintro rfl; simp at hc
  have h2 : c ≠ 32 := by rintro rfl; simp at hc
  unfold visLine
  simp only [List.mem_append, List.mem_cons, not_or]
  exact ⟨h _, h1, h _, h2, h _, h2, h _⟩
def visLines (n : Nat) (vs : List (Int × Int)) (k : Nat) : List (List UInt8) := (List.range k).map fun t => visLine ((pairsN n).getD t (0, 0)) (vs.getD t (0, 0))
theorem visLines_text (n : Nat) (vs : List (Int × Int)) (k : Nat) : (visLines n vs k).flatMap (· ++ [10]) = visB n vs k := by
  unfold visLines visB; rw [List.flatMap_map]
theorem visB_cut (n : Nat) (vs : List (Int × Int)) (k : Nat) : cut 10 (visB n vs k) = visLines n vs k ++ [[]] := by
  rw [← visLines_text]
  refine cut_lines _ fun x hx => ?_
  obtain ⟨t, _, rfl⟩ := List.mem_map.1 hx
  exact visLine_no 10 (by decide) _ _
theorem visLine_cut (p : Nat × Nat) (g : Int × Int) : cut 32 (visLine p g) = [Lib.itoa p.1 ++ 45 :: Lib.itoa p.2, Lib.itoa g.1, Lib.itoa g.2] := by
  have hn : ∀ n, (32 : UInt8) ∉ Lib.itoa n := fun n => itoa_no (by decide)
  have e : visLine p g = (Lib.itoa p.1 ++ 45 :: Lib.itoa p.2) ++ 32 :: (Lib.itoa g.1 ++ 32 :: Lib.itoa g.2) := by simp [visLine]
  rw [e, cut_hit, cut_hit _ (hn _), cut_none (hn _)]
  simp only [List.mem_append, List.mem_cons, not_or]
  exact ⟨hn _, by decide, hn _⟩

/-- A line's visibility: the second and the third word. -/
def lineVis (l : List UInt8) : Option (Int × Int) := match cut 32 l with
  | [_, a, p] => some (num7 a, num7 p)
  | _ => none
theorem lineVis_line (p : Nat × Nat) {g : Int × Int} (h : visOk g = true) : lineVis (visLine p g) = some g := by
  obtain ⟨h1, h2⟩ := visOk_iff.1 h
  unfold lineVis
  rw [visLine_cut]
  simp only
  rw [num7_itoa (by omega) (by omega), num7_itoa (by omega) (by omega)]
/-- Visibilities of lines, if each has three words. -/
def linesVis : List (List UInt8) → Option (List (Int × Int))
  | [] => some []
  | l :: t => match lineVis l with
    | none => none
    | some g => (linesVis t).map (g :: ·)
theorem linesVis_snoc (l : List UInt8) : ∀ ls : List (List UInt8), linesVis (ls ++ [l]) = match linesVis ls with
    | none => none
    | some gs => (lineVis l).map fun g => gs ++ [g]
  | [] => by
    simp only [List.nil_append, linesVis]
    cases lineVis l <;> rfl
  | a :: t => by
    simp only [List.cons_append, linesVis]
    cases lineVis a with
    | none => rfl
    | some g =>
      simp only
      rw [linesVis_snoc l t]
      cases linesVis t with
      | none => rfl
      | some gs => cases lineVis l <;> rfl
theorem linesVis_map {vs : List (Int × Int)} (n : Nat) (h : ∀ g ∈ vs, visOk g = true) (k : Nat) (hk : k ≤ vs.length) : linesVis (visLines n vs k) = some (vs.take k) := by
  induction k with
  | zero => rfl
  | succ k ih =>
    have hlt : k < vs.length := by omega
    have e : visLines n vs (k + 1) = visLines n vs k ++ [visLine ((pairsN n).getD k (0, 0)) (vs.getD k (0, 0))] := by
      unfold visLines; rw [List.range_succ, List.map_append]; rfl
    rw [e, linesVis_snoc, ih (by omega)]
    simp only
    rw [lineVis_line _ (h _ (getD_mem hlt)), Option.map_some, take_succ_getD (d := (0, 0)) hlt]

/-- What is read of a text: the number of antennas and the visibilities whose text it is. -/
def VisIs (l : List UInt8) (n : Int) (vs : List (Int × Int)) : Prop := visV n vs = true ∧ l = visB n.toNat vs vs.length
theorem bm_inj {n m : Int} (hn : 2 ≤ n ∧ n ≤ 7) (hm : 2 ≤ m ∧ m ≤ 7) (h : bm n = bm m) : n = m := by
  have := hn; have := hm
  rcases bm_cases n with a | a | a | a | a | a | a <;> rcases bm_cases m with b | b | b | b | b | b | b <;> omega
theorem VisIs.lines {l : List UInt8} {n : Int} {vs : List (Int × Int)} (h : VisIs l n vs) : cut 10 l = visLines n.toNat vs vs.length ++ [[]] := by
  obtain ⟨h1, rfl⟩ := h
  exact visB_cut _ _ _
theorem VisIs.inj {l : List UInt8} {n m : Int} {vs us : List (Int × Int)} (h : VisIs l n vs) (h' : VisIs l m us) : n = m ∧ vs = us := by
  obtain ⟨a1, a2, a3⟩ := visV_iff.1 h.1
  obtain ⟨b1, b2, b3⟩ := visV_iff.1 h'.1
  have e1 := linesVis_map n.toNat a3 vs.length (Nat.le_refl _)
  have e2 := linesVis_map m.toNat b3 us.length (Nat.le_refl _)
  have e : visLines n.toNat vs vs.length = visLines m.toNat us us.length := by
    have := h.lines.symm.trans h'.lines
    exact List.append_cancel_right this
  rw [e, e2] at e1
  injection e1 with e1
  rw [List.take_length, List.take_length] at e1
  subst e1
  exact ⟨bm_inj a1 b1 (by omega), rfl⟩
theorem VisIs.ne {l : List UInt8} {n : Int} {vs : List (Int × Int)} (h : VisIs l n vs) : l ≠ [] := by
  rw [h.2]; exact visB_ne _ _ _ (visV_len h.1)
theorem VisIs.of {l : List UInt8} {n : Int} {vs : List (Int × Int)} (hl : l ≠ []) (h : visStr n vs = l) : VisIs l n vs := by
  cases hv : visV n vs
  · rw [visStr_no hv] at h; exact absurd h.symm hl
  · exact ⟨hv, by rw [visStr_yes hv] at h; exact h.symm⟩
end Go.Proofs.YtipgpafgampfbaaGreatDoor

namespace Go.Proofs.YtipgpafgampfbaaGreatDoor
open Go.RowKit

theorem isPhase_any (a : Int) (w : World) : Calls Tryz.prog 182 #[.int .i64 a] w fun e w' => e = .returned (.bool (inR a 0 359)) ∧ w = w' := by
  by_cases h1 : 0 ≤ a
  · by_cases h2 : a < 360
    · rw [inR_iff.2 ⟨h1, by omega⟩]
      go_enter Tryz.func182, Tryz.ntmps182
      go_wp2_with fail
      go_ret
      exact ⟨rfl, rfl⟩
    · rw [inR_no.2 (by omega)]
      go_enter Tryz.func182, Tryz.ntmps182
      go_wp2_with fail
      go_ret
      exact ⟨rfl, rfl⟩
  · rw [inR_no.2 (by omega)]
    go_enter Tryz.func182, Tryz.ntmps182
    go_wp2_with fail
    go_ret
    exact ⟨rfl, rfl⟩

theorem all_take_succ {α : Type} (p : α → Bool) (l : List α) (k : Nat) (x : α) (hx : l[k]? = some x) (h : (l.take k).all p = true) (hp : p x = true) : (l.take (k + 1)).all p = true := by
  rw [List.take_add_one, hx, List.all_append, h]
  simp [hp]
theorem all_no {α : Type} (p : α → Bool) (l : List α) (k : Nat) (x : α) (hx : l[k]? = some x) (hp : p x = false) : l.all p = false := by
  rw [List.all_eq_false]
  exact ⟨x, List.mem_of_getElem? hx, by rw [hp]; simp⟩

set_option maxRecDepth 100000 in
set_option maxHeartbeats 1000000 in
theorem visInRange_any (A : Option Addr) (n cap : Nat) (vs : List (Int × Int)) (w : World) (hn : vs.length = n) (hm : n ≤ 1000000000) (hr : Rd w w.heap.size A (vs.flatMap pairCells)) :
    Calls Tryz.prog 154 #[.slice A n cap, .int .i64 1000000] w fun e w' => e = .returned (.bool (vs.all visOk)) ∧ Below w.heap.size w w' := by
  have Hn := Lib.hid hn; clear hn
  go_enter Tryz.func154, Tryz.ntmps154
  go_wp2_with fail
  go_loopw [9] (fun i wr => ∃ k : Nat, k ≤ n ∧ i = .int .i64 k ∧ (vs.take k).all visOk = true ∧ Below w.heap.size w wr) (fun i _ => n - (intOf i).toNat)
  case atStart => exact ⟨0, by omega, rfl, rfl, Below.refl _ _⟩
  case round =>
    obtain ⟨k, hk, rfl, hall, hbel⟩ := hrel
    have hbs := hbel.size
    have hr' := hr.below hbel
    have Hbel := Lib.hid hbel; clear hbel
    have Hall := Lib.hid hall; clear hall
    by_cases hlt : k < n
    · obtain ⟨g, hg⟩ : ∃ g, vs[k]? = some g := ⟨_, List.getElem?_eq_getElem (by rw [Hn.out]; exact hlt)⟩
      obtain ⟨b, off, rfl, hb, hc1, hc2⟩ := rd_pair hr' hg
      have hlt2 : b < wr.heap.size := by omega
      obtain ⟨a, p⟩ := g
      dsimp only at hc1 hc2
      have Hg := Lib.hid hg; clear hg
      clear hr' hr
      have HB := Lib.hid (Hbel.out.alloc hbs (.cells #[.int .i64 a, .int .i64 p] 58))
      by_cases h1 : a < 1
      · have hno : visOk (a, p) = false := by unfold visOk; rw [inR_no.2 (by omega)]; rfl
        go_wp2_with fail
        go_ret
        exact ⟨ret_bool (all_no visOk vs k _ Hg.out hno).symm, HB.out⟩
      · by_cases h2 : 1000000 < a
        · have hno : visOk (a, p) = false := by unfold visOk; rw [inR_no.2 (by omega)]; rfl
          go_wp2_with fail
          go_ret
          exact ⟨ret_bool (all_no visOk vs k _ Hg.out hno).symm, HB.out⟩
        · go_wp2_with fail
          refine (isPhase_any p _).mono ?_
          rintro e w1 ⟨rfl, rfl⟩
          have hok : visOk (a, p) = inR p 0 359 := by unfold visOk; rw [inR_iff.2 ⟨by omega, by omega⟩]; rfl
          cases hv : inR p 0 359
          · rw [hv] at hok
            have Hv := Lib.hid hv; clear hv
            have Hok := Lib.hid hok; clear hok
            go_wp2_with fail
            go_ret
            exact ⟨ret_bool (all_no visOk vs k _ Hg.out Hok.out).symm, HB.out⟩
          · rw [hv] at hok
            have Hv := Lib.hid hv; clear hv
            have Hok := Lib.hid hok; clear hok
            go_wp2_with fail
            go_roundw
            case measure => simp [intOf]; omega
            case rel => exact ⟨k + 1, by omega, by go_num, all_take_succ visOk vs k _ Hg.out Hall.out Hok.out, HB.out⟩
    · obtain rfl : k = n := by omega
      go_wp2_with fail
      go_ret
      refine ⟨ret_bool ?_, Hbel.out⟩
      rw [← Hall.out, List.take_of_length_le (by rw [Hn.out]; exact Nat.le_refl _)]
theorem visValid_any (n : Int) (A : Option Addr) (m cap : Nat) (vs : List (Int × Int)) (w : World) (hn : vs.length = m) (hm : m ≤ 1000000000) (hr : Rd w w.heap.size A (vs.flatMap pairCells)) :
    Calls Tryz.prog 132 #[.int .i64 n, .slice A m cap] w fun e w' => e = .returned (.bool (visV n vs)) ∧ Below w.heap.size w w' := by
  have Hn := Lib.hid hn; clear hn
  cases h1 : inR n 2 7
  · have H1 := Lib.hid h1; clear h1
    go_enter Tryz.func132, Tryz.ntmps132
    go_wp2_with fail
    refine (isMany_any _ _).mono ?_
    rintro e w' ⟨rfl, rfl⟩
    rw [H1.out]
    go_wp2_with fail
    go_ret
    exact ⟨ret_bool (by unfold visV; rw [H1.out]; rfl), Below.refl _ _⟩
  · have H1 := Lib.hid h1; clear h1
    by_cases h2 : (m : Int) = bm n
    · have hb : ((m : Int) == bm n) = true := beq_iff_eq.2 h2
      have H2 := Lib.hid h2; clear h2
      go_enter Tryz.func132, Tryz.ntmps132
      go_wp2_with fail
      refine (isMany_any _ _).mono ?_
      rintro e w' ⟨rfl, rfl⟩
      rw [H1.out]
      go_wp2_with fail
      refine (baseMany_any _ _).mono ?_
      rintro e w' ⟨rfl, rfl⟩
      go_wp2_with fail
      refine (visInRange_any A m cap vs _ Hn.out hm hr).mono ?_
      rintro e w1 ⟨rfl, hb1⟩
      go_wp2_with fail
      go_ret
      exact ⟨ret_bool (by unfold visV; rw [H1.out, Hn.out, decide_eq_true H2.out]; rfl), hb1⟩
    · have hb : ((m : Int) == bm n) = false := beq_eq_false_iff_ne.2 h2
      have H2 := Lib.hid h2; clear h2
      go_enter Tryz.func132, Tryz.ntmps132
      go_wp2_with fail
      refine (isMany_any _ _).mono ?_
      rintro e w' ⟨rfl, rfl⟩
      rw [H1.out]
      go_wp2_with fail
      refine (baseMany_any _ _).mono ?_
      rintro e w' ⟨rfl, rfl⟩
      go_wp2_with fail
      go_ret
      exact ⟨ret_bool (by unfold visV; rw [H1.out, Hn.out, decide_eq_false H2.out]; rfl), Below.refl _ _⟩

theorem l2Phase_any (a : Int) (w : World) : Calls Tryz.prog 199 #[.int .i64 a] w fun e w' => e = .returned (.bool (inR a 0 359)) ∧ w = w' := by
  go_enter Tryz.func199, Tryz.ntmps199
  go_wp2_with fail
  refine (l6In_any _ _ _ _).mono ?_
  rintro e w' ⟨rfl, rfl⟩
  go_wp2_with fail
  go_ret
  exact ⟨rfl, rfl⟩
theorem visV_no {n : Int} {vs : List (Int × Int)} (h : bm n = 0 ∨ (vs.length : Int) ≠ bm n) : visV n vs = false := by
  cases hv : visV n vs
  · rfl
  · obtain ⟨h1, h2, _⟩ := visV_iff.1 hv
    rcases h with h | h
    · rcases bm_cases n with h | h | h | h | h | h | h <;> omega
    · exact absurd h2 h
theorem visV_in {n : Int} {vs : List (Int × Int)} (h1 : bm n ≠ 0) (h2 : (vs.length : Int) = bm n) : visV n vs = vs.all visOk := by
  have : inR n 2 7 = true := inR_iff.2 (by rcases bm_cases n with h | h | h | h | h | h | h <;> omega)
  unfold visV
  rw [this, decide_eq_true h2]; rfl

set_option maxRecDepth 100000 in
set_option maxHeartbeats 1000000 in
theorem sVisValid_any (n : Int) (A : Option Addr) (m cap : Nat) (vs : List (Int × Int)) (w : World) (hn : vs.length = m) (hm : m ≤ 1000000000) (hr : Rd w w.heap.size A (vs.flatMap pairCells)) :
    Calls Tryz.prog 189 #[.int .i64 n, .slice A m cap] w fun e w' => e = .returned (.bool (visV n vs)) ∧ w = w' := by
  have Hn := Lib.hid hn; clear hn
  by_cases h1 : bm n = 0
  · have hb : (bm n == 0) = true := beq_iff_eq.2 h1
    have H1 := Lib.hid h1; clear h1
    go_enter Tryz.func189, Tryz.ntmps189
    go_wp2_with fail
    refine (sBaseMany_any _ _).mono ?_
    rintro e w' ⟨rfl, rfl⟩
    go_wp2_with fail
    go_ret
    exact ⟨ret_bool (visV_no (.inl H1.out)).symm, rfl⟩
  · have hb : (bm n == 0) = false := beq_eq_false_iff_ne.2 h1
    have H1 := Lib.hid h1; clear h1
    by_cases h2 : (m : Int) = bm n
    · have hb2 : ((m : Int) != bm n) = false := by rw [bne_eq_false_iff_eq]; exact h2
      have Hvv := Lib.hid (visV_in H1.out (by rw [Hn.out]; exact h2))
      have H2 := Lib.hid h2; clear h2
      go_enter Tryz.func189, Tryz.ntmps189
      go_wp2_with fail
      refine (sBaseMany_any _ _).mono ?_
      rintro e w' ⟨rfl, rfl⟩
      go_wp2_with fail
      refine (sBaseMany_any _ _).mono ?_
      rintro e w' ⟨rfl, rfl⟩
      go_wp2_with fail
      go_loopw [5] (fun i wr => ∃ k : Nat, k ≤ m ∧ i = .int .i64 k ∧ (vs.take k).all visOk = true ∧ w = wr) (fun i _ => m - (intOf i).toNat)
      case atStart => exact ⟨0, by omega, rfl, rfl, rfl⟩
      case round =>
        obtain ⟨k, hk, rfl, hall, rfl⟩ := hrel
        have Hall := Lib.hid hall; clear hall
        by_cases hlt : k < m
        · obtain ⟨g, hg⟩ : ∃ g, vs[k]? = some g := ⟨_, List.getElem?_eq_getElem (by rw [Hn.out]; exact hlt)⟩
          obtain ⟨b, off, rfl, hbb, hc1, hc2⟩ := rd_pair hr hg
          obtain ⟨a, p⟩ := g
          dsimp only at hc1 hc2
          have Hg := Lib.hid hg; clear hg
          have hok : visOk (a, p) = (inR a 1 1000000 && inR p 0 359) := rfl
          have Hok := Lib.hid hok; clear hok
          go_wp2_with fail
          refine (l6In_any _ _ _ _).mono ?_
          rintro e w' ⟨rfl, rfl⟩
          cases h1 : inR a 1 1000000
          · have Hx := Lib.hid h1; clear h1
            go_wp2_with fail
            go_ret
            exact ⟨ret_bool (by rw [Hvv.out]; exact (all_no visOk vs k _ Hg.out (by rw [Hok.out, Hx.out]; rfl)).symm), rfl⟩
          · have Hx := Lib.hid h1; clear h1
            go_wp2_with fail
            refine (l2Phase_any _ _).mono ?_
            rintro e w' ⟨rfl, rfl⟩
            cases h2 : inR p 0 359
            · have Hy := Lib.hid h2; clear h2
              go_wp2_with fail
              go_ret
              exact ⟨ret_bool (by rw [Hvv.out]; exact (all_no visOk vs k _ Hg.out (by rw [Hok.out, Hx.out, Hy.out]; rfl)).symm), rfl⟩
            · have Hy := Lib.hid h2; clear h2
              go_wp2_with fail
              go_roundw
              case measure => simp [intOf]; omega
              case rel => exact ⟨k + 1, by omega, by go_num, all_take_succ visOk vs k _ Hg.out Hall.out (by rw [Hok.out, Hx.out, Hy.out]; rfl), by first | rfl | trivial⟩
        · obtain rfl : k = m := by omega
          go_wp2_with fail
          go_ret
          refine ⟨ret_bool ?_, rfl⟩
          rw [Hvv.out, ← Hall.out, List.take_of_length_le (by rw [Hn.out]; exact Nat.le_refl _)]
    · have hb2 : ((m : Int) != bm n) = true := by rw [bne_iff_ne]; exact h2
      have H2 := Lib.hid h2; clear h2
      go_enter Tryz.func189, Tryz.ntmps189
      go_wp2_with fail
      refine (sBaseMany_any _ _).mono ?_
      rintro e w' ⟨rfl, rfl⟩
      go_wp2_with fail
      refine (sBaseMany_any _ _).mono ?_
      rintro e w' ⟨rfl, rfl⟩
      go_wp2_with fail
      go_ret
      exact ⟨ret_bool (visV_no (.inr (by rw [Hn.out]; exact H2.out))).symm, rfl⟩
end Go.Proofs.YtipgpafgampfbaaGreatDoor

namespace Go.Proofs.YtipgpafgampfbaaGreatDoor
open Go.RowKit

/-- The delay of an antenna. -/
def dlyV (xs : List (Int × Int)) (i : Nat) (d : Int × Int) : Int := (xs.getD i (0, 0)).1 * d.1 + (xs.getD i (0, 0)).2 * d.2
theorem antOk_iff {a : Int × Int} : antOk a = true ↔ (-1000 ≤ a.1 ∧ a.1 ≤ 1000) ∧ -1000 ≤ a.2 ∧ a.2 ≤ 1000 := by
  unfold antOk; rw [Bool.and_eq_true, inR_iff, inR_iff]
theorem mul1000 {a b : Int} (ha : -1000 ≤ a ∧ a ≤ 1000) (hb : -1000 ≤ b ∧ b ≤ 1000) : -1000000 ≤ a * b ∧ a * b ≤ 1000000 := by
  have h1 : a.natAbs ≤ 1000 := by omega
  have h2 : b.natAbs ≤ 1000 := by omega
  have h3 : (a * b).natAbs ≤ 1000 * 1000 := by rw [Int.natAbs_mul]; exact Nat.mul_le_mul h1 h2
  omega
theorem dlyV_bd {xs : List (Int × Int)} (h : gLe 1000 xs) (i : Nat) {d : Int × Int} (hd : antOk d = true) : -2000000 ≤ dlyV xs i d ∧ dlyV xs i d ≤ 2000000 := by
  obtain ⟨h1, h2⟩ := gLe_get h (by decide) i
  obtain ⟨h3, h4⟩ := antOk_iff.1 hd
  have := mul1000 h1 h3
  have := mul1000 h2 h4
  unfold dlyV; omega
theorem isAnt_any (n i : Int) (w : World) : Calls Tryz.prog 169 #[.int .i64 n, .int .i64 i] w fun e w' => e = .returned (.bool (inR i 0 (n - 1))) ∧ w = w' := by
  by_cases h0 : 0 ≤ i
  · by_cases h1 : i < n
    · rw [inR_iff.2 (show 0 ≤ i ∧ i ≤ n - 1 by omega)]
      go_enter Tryz.func169, Tryz.ntmps169
      go_wp2_with fail
      go_ret
      exact ⟨rfl, rfl⟩
    · rw [inR_no.2 (show ¬ (0 ≤ i ∧ i ≤ n - 1) by omega)]
      go_enter Tryz.func169, Tryz.ntmps169
      go_wp2_with fail
      go_ret
      exact ⟨rfl, rfl⟩
  · rw [inR_no.2 (show ¬ (0 ≤ i ∧ i ≤ n - 1) by omega)]
    go_enter Tryz.func169, Tryz.ntmps169
    go_wp2_with fail
    go_ret
    exact ⟨rfl, rfl⟩
theorem phaseOf_any (n : Int) (w : World) : Calls Tryz.prog 119 #[.int .i64 n] w fun e w' => e = .returned (.int .i64 (n % 360)) ∧ w = w' := by
  have hc := tmod_cases n 360 (by decide)
  have hE := Int.emod_lt_of_pos n (show (0 : Int) < 360 by decide)
  have hE0 := Int.emod_nonneg n (b := 360) (by decide)
  obtain ⟨t, ht⟩ : ∃ t, n.tmod 360 = t := ⟨_, rfl⟩
  rw [ht] at hc
  by_cases h : t < 0
  · have hw : IntKind.i64.wrap (t + 360) = n % 360 := by rw [IntWalk.i64_in _ (by omega)]; omega
    have Hc := Lib.hid hc; clear hc
    go_enter Tryz.func119, Tryz.ntmps119
    go_wp2_with fail
    go_ret
    exact ⟨rfl, rfl⟩
  · have hw : t = n % 360 := by omega
    have Hw := Lib.hid hw; clear hw
    have Hc := Lib.hid hc; clear hc
    go_enter Tryz.func119, Tryz.ntmps119
    go_wp2_with fail
    go_ret
    exact ⟨by rw [← Hw.out]; rfl, rfl⟩
theorem sPhaseOf_any (n : Int) (w : World) : Calls Tryz.prog 121 #[.int .i64 n] w fun e w' => e = .returned (.int .i64 (n % 360)) ∧ w = w' := by
  go_enter Tryz.func121, Tryz.ntmps121
  go_wp2_with fail
  refine (l1Mod_any n 360 _ (by decide) (by decide)).mono ?_
  rintro e w' ⟨rfl, rfl⟩
  go_wp2_with fail
  go_ret
  exact ⟨rfl, rfl⟩

set_option maxRecDepth 100000 in
set_option maxHeartbeats 1000000 in
theorem delayOf_yes (A : Option Addr) (n cap : Nat) (xs : List (Int × Int)) (i : Nat) (d : Int × Int) (w : World) (hn : xs.length = n) (_hk : n ≤ cap) (hv : arrV xs = true) (hi : i < n) (hd : antOk d = true) (hr : Rd w w.heap.size A (xs.flatMap pairCells)) :
    Calls Tryz.prog 143 #[.slice A n cap, .int .i64 i, .agg #[.int .i64 d.1, .int .i64 d.2]] w fun e w' => e = .returned (.tuple #[.int .i64 (dlyV xs i d), .bool true]) ∧ Below w.heap.size w w' := by
  have hl := arrV_len hv
  have hgl := arrV_gLe hv
  obtain ⟨hb1, hb2⟩ := gLe_get hgl (by decide) i
  obtain ⟨hd1, hd2⟩ := antOk_iff.1 hd
  have hdl : dlyV xs i d = (xs.getD i (0, 0)).1 * d.1 + (xs.getD i (0, 0)).2 * d.2 := rfl
  have hg := getD_of (gs := xs) (k := i) (by rw [hn]; exact hi)
  rw [hdl]
  clear hdl
  generalize xs.getD i (0, 0) = x at *
  obtain ⟨x1, x2⟩ := x
  obtain ⟨d1, d2⟩ := d
  dsimp only at *
  have m1 := mul1000 hb1 hd1
  have m2 := mul1000 hb2 hd2
  have i1 : IntKind.i64.wrap (x1 * d1) = x1 * d1 := IntWalk.i64_in _ (by omega)
  have i2 : IntKind.i64.wrap (x2 * d2) = x2 * d2 := IntWalk.i64_in _ (by omega)
  have i3 : IntKind.i64.wrap (x1 * d1 + x2 * d2) = x1 * d1 + x2 * d2 := IntWalk.i64_in _ (by omega)
  have r0 := Row.new w 50 [.int .i64 d1, .int .i64 d2]
  have hr' := hr.ext (bA1 (o := .cells #[.int .i64 d1, .int .i64 d2] 50))
  have hi1 : inR (i : Int) 0 ((n : Int) - 1) = true := inR_iff.2 (by omega)
  have h7 : n ≤ 7 := by omega
  have Hn := Lib.hid hn; clear hn
  have Hv := Lib.hid hv; clear hv
  have Hg := Lib.hid hg; clear hg
  have Hd := Lib.hid hd; clear hd
  have Hi1 := Lib.hid hi1; clear hi1
  have I1 := Lib.hid i1; clear i1
  have I2 := Lib.hid i2; clear i2
  have I3 := Lib.hid i3; clear i3
  go_enter Tryz.func143, Tryz.ntmps143
  go_wp2_with fail
  refine (arrayValid_any A n cap xs _ Hn.out _hk (by omega) hr').mono ?_
  rintro e w1 ⟨rfl, b1⟩
  rw [Hv.out]
  go_wp2_with fail
  refine (isAnt_any n i _).mono ?_
  rintro e w2 ⟨rfl, rfl⟩
  rw [Hi1.out]
  have r1 := r0.kept b1
  have hr1 := hr'.ext b1
  have B1 := bA1.trans (b1.mono bA1.size)
  obtain ⟨c0, c1, _, _⟩ := r1.two
  go_wp2_with fail
  refine (isPlace_any (d1, d2) _).mono ?_
  rintro e w3 ⟨rfl, b3⟩
  rw [Hd.out]
  have r3 := r1.kept b3
  have hr3 := hr1.ext b3
  have B3 := B1.trans (b3.mono B1.size)
  obtain ⟨b, off, rfl, hb, hc1, hc2⟩ := rd_pair hr3 Hg.out
  clear b1 b3 r0 r1 hr' hr1 c0 c1
  go_wp2_with fail
  have f1 : ∀ w', Below w3.heap.size w3 w' → w'.cell? ⟨b, off + i * 2, none⟩ = some (.int .i64 x1) := fun w' h => (h.cell (p := ⟨b, off + i * 2, none⟩) hb).trans hc1
  have f2 : ∀ w', Below w3.heap.size w3 w' → w'.cell? ⟨b, off + i * 2 + 1, none⟩ = some (.int .i64 x2) := fun w' h => (h.cell (p := ⟨b, off + i * 2 + 1, none⟩) hb).trans hc2
  have f3 : ∀ w', Below w3.heap.size w3 w' → w'.cell? ⟨w.heap.size, 0, none⟩ = some (.int .i64 d1) := fun w' h => (r3.kept h).cell 0
  have f4 : ∀ w', Below w3.heap.size w3 w' → w'.cell? ⟨w.heap.size, 1, none⟩ = some (.int .i64 d2) := fun w' h => (r3.kept h).cell 1
  refine wp_region_N [] [] (by kernel_rfl) (by kernel_rfl) ?_
  refine wpStill_go (v := .slice (some ⟨b, off, none⟩) n cap) rfl rfl (stays_run fun w' h => ex_move rfl rfl) ?_
  simp only [Act.put, List.setIfInBounds_toArray, List.set_cons_succ, List.set_cons_zero]
  refine wpStill_go (v := .int .i64 i) rfl rfl (stays_run fun w' h => ex_move rfl rfl) ?_
  simp only [Act.put, List.setIfInBounds_toArray, List.set_cons_succ, List.set_cons_zero]
  refine wpStill_go (v := .pointer (some ⟨b, off + i * 2, none⟩)) rfl rfl (stays_run fun w' h => ex_index rfl (by kernel_rfl) (by kernel_rfl) rfl rfl (hi)) ?_
  simp only [Act.put, List.setIfInBounds_toArray, List.set_cons_succ, List.set_cons_zero]
  refine wpStill_go (v := .pointer (some ⟨b, off + i * 2, none⟩)) rfl rfl (stays_run fun w' h => by simp [go_sem]) ?_
  simp only [Act.put, List.setIfInBounds_toArray, List.set_cons_succ, List.set_cons_zero]
  refine wpStill_go (v := .int .i64 x1) rfl rfl (stays_run fun w' h => ex_load rfl rfl (ld_one (by kernel_rfl) (f1 w' h))) ?_
  simp only [Act.put, List.setIfInBounds_toArray, List.set_cons_succ, List.set_cons_zero]
  refine wpStill_go (v := .pointer (some ⟨w.heap.size, 0, none⟩)) rfl rfl (stays_run fun w' h => by simp [go_sem]) ?_
  simp only [Act.put, List.setIfInBounds_toArray, List.set_cons_succ, List.set_cons_zero]
  refine wpStill_go (v := .int .i64 d1) rfl rfl (stays_run fun w' h => ex_load rfl rfl (ld_one (by kernel_rfl) (f3 w' h))) ?_
  simp only [Act.put, List.setIfInBounds_toArray, List.set_cons_succ, List.set_cons_zero]
  refine wpStill_go (v := .int .i64 (x1 * d1)) rfl rfl (stays_run fun w' h => by simp [go_sem, I1.out]) ?_
  simp only [Act.put, List.setIfInBounds_toArray, List.set_cons_succ, List.set_cons_zero]
  refine wpStill_go (v := .slice (some ⟨b, off, none⟩) n cap) rfl rfl (stays_run fun w' h => ex_move rfl rfl) ?_
  simp only [Act.put, List.setIfInBounds_toArray, List.set_cons_succ, List.set_cons_zero]
  refine wpStill_go (v := .int .i64 i) rfl rfl (stays_run fun w' h => ex_move rfl rfl) ?_
  simp only [Act.put, List.setIfInBounds_toArray, List.set_cons_succ, List.set_cons_zero]
  refine wpStill_go (v := .pointer (some ⟨b, off + i * 2, none⟩)) rfl rfl (stays_run fun w' h => ex_index rfl (by kernel_rfl) (by kernel_rfl) rfl rfl (hi)) ?_
  simp only [Act.put, List.setIfInBounds_toArray, List.set_cons_succ, List.set_cons_zero]
  refine wpStill_go (v := .pointer (some ⟨b, off + i * 2 + 1, none⟩)) rfl rfl (stays_run fun w' h => by simp [go_sem]) ?_
  simp only [Act.put, List.setIfInBounds_toArray, List.set_cons_succ, List.set_cons_zero]
  refine wpStill_go (v := .int .i64 x2) rfl rfl (stays_run fun w' h => ex_load rfl rfl (ld_one (by kernel_rfl) (f2 w' h))) ?_
  simp only [Act.put, List.setIfInBounds_toArray, List.set_cons_succ, List.set_cons_zero]
  refine wpStill_go (v := .pointer (some ⟨w.heap.size, 1, none⟩)) rfl rfl (stays_run fun w' h => by simp [go_sem]) ?_
  simp only [Act.put, List.setIfInBounds_toArray, List.set_cons_succ, List.set_cons_zero]
  refine wpStill_go (v := .int .i64 d2) rfl rfl (stays_run fun w' h => ex_load rfl rfl (ld_one (by kernel_rfl) (f4 w' h))) ?_
  simp only [Act.put, List.setIfInBounds_toArray, List.set_cons_succ, List.set_cons_zero]
  refine wpStill_go (v := .int .i64 (x2 * d2)) rfl rfl (stays_run fun w' h => by simp [go_sem, I2.out]) ?_
  simp only [Act.put, List.setIfInBounds_toArray, List.set_cons_succ, List.set_cons_zero]
  refine wpStill_go (v := .int .i64 (x1 * d1 + x2 * d2)) rfl rfl (stays_run fun w' h => by simp [go_sem, I3.out]) ?_
  simp only [Act.put, List.setIfInBounds_toArray, List.set_cons_succ, List.set_cons_zero]
  refine wpStill_go (v := .int .i64 (x1 * d1 + x2 * d2)) rfl rfl (stays_run fun w' h => by simp [go_sem]) ?_
  simp only [Act.put, List.setIfInBounds_toArray, List.set_cons_succ, List.set_cons_zero]
  refine wpStill_go (v := .bool true) rfl rfl (stays_run fun w' h => by simp [go_sem]) ?_
  simp only [Act.put, List.setIfInBounds_toArray, List.set_cons_succ, List.set_cons_zero]
  refine wpStill_nil ?_
  repeat (refine wpMark_skip rfl ?_)
  refine wpMark_nil fun w5 h5 => ?_
  simp only [onlyN]
  have B5 := B3.trans (((Below.refl _ _).drew.trans h5).mono B3.size)
  go_wp2_with fail
  go_ret2
  exact ⟨rfl, B5⟩

set_option maxRecDepth 100000 in
set_option maxHeartbeats 1000000 in
theorem sdelayOf_yes (A : Option Addr) (n cap : Nat) (xs : List (Int × Int)) (i : Nat) (d : Int × Int) (w : World) (hn : xs.length = n) (_hk : n ≤ cap) (hv : arrV xs = true) (hi : i < n) (hd : antOk d = true) (hr : Rd w w.heap.size A (xs.flatMap pairCells)) :
    Calls Tryz.prog 144 #[.slice A n cap, .int .i64 i, .agg #[.int .i64 d.1, .int .i64 d.2]] w fun e w' => e = .returned (.tuple #[.int .i64 (dlyV xs i d), .bool true]) ∧ Below w.heap.size w w' := by
  have hl := arrV_len hv
  have hgl := arrV_gLe hv
  obtain ⟨hb1, hb2⟩ := gLe_get hgl (by decide) i
  obtain ⟨hd1, hd2⟩ := antOk_iff.1 hd
  have hdl : dlyV xs i d = (xs.getD i (0, 0)).1 * d.1 + (xs.getD i (0, 0)).2 * d.2 := rfl
  have hg := getD_of (gs := xs) (k := i) (by rw [hn]; exact hi)
  rw [hdl]
  clear hdl
  generalize xs.getD i (0, 0) = x at *
  obtain ⟨x1, x2⟩ := x
  obtain ⟨d1, d2⟩ := d
  dsimp only at *
  have m1 := mul1000 hb1 hd1
  have m2 := mul1000 hb2 hd2
  have i1 : IntKind.i64.wrap (x1 * d1) = x1 * d1 := IntWalk.i64_in _ (by omega)
  have i2 : IntKind.i64.wrap (x2 * d2) = x2 * d2 := IntWalk.i64_in _ (by omega)
  have i3 : IntKind.i64.wrap (x1 * d1 + x2 * d2) = x1 * d1 + x2 * d2 := IntWalk.i64_in _ (by omega)
  have r0 := Row.new w 50 [.int .i64 d1, .int .i64 d2]
  have hr' := hr.ext (bA1 (o := .cells #[.int .i64 d1, .int .i64 d2] 50))
  have hi1 : inR (i : Int) 0 ((n : Int) - 1) = true := inR_iff.2 (by omega)
  have h7 : n ≤ 7 := by omega
  have Hn := Lib.hid hn; clear hn
  have Hv := Lib.hid hv; clear hv
  have Hg := Lib.hid hg; clear hg
  have Hd := Lib.hid hd; clear hd
  have Hi1 := Lib.hid hi1; clear hi1
  have I1 := Lib.hid i1; clear i1
  have I2 := Lib.hid i2; clear i2
  have I3 := Lib.hid i3; clear i3
  go_enter Tryz.func144, Tryz.ntmps144
  go_wp2_with fail
  refine (sArrayValid_any A n cap xs _ Hn.out (by omega) hr').mono ?_
  rintro e w1 ⟨rfl, b1⟩
  rw [Hv.out]
  go_wp2_with fail
  refine (l6In_any i 0 _ _).mono ?_
  rintro e w2 ⟨rfl, rfl⟩
  rw [Hi1.out]
  have r1 := r0.kept b1
  have hr1 := hr'.ext b1
  have B1 := bA1.trans (b1.mono bA1.size)
  obtain ⟨c0, c1, _, _⟩ := r1.two
  go_wp2_with fail
  refine (l3Place_any (d1, d2) _).mono ?_
  rintro e w3 ⟨rfl, b3⟩
  rw [Hd.out]
  have r3 := r1.kept b3
  have hr3 := hr1.ext b3
  have B3 := B1.trans (b3.mono B1.size)
  obtain ⟨b, off, rfl, hb, hc1, hc2⟩ := rd_pair hr3 Hg.out
  clear b1 b3 r0 r1 hr' hr1 c0 c1
  go_wp2_with fail
  have f1 : ∀ w', Below w3.heap.size w3 w' → w'.cell? ⟨b, off + i * 2, none⟩ = some (.int .i64 x1) := fun w' h => (h.cell (p := ⟨b, off + i * 2, none⟩) hb).trans hc1
  have f2 : ∀ w', Below w3.heap.size w3 w' → w'.cell? ⟨b, off + i * 2 + 1, none⟩ = some (.int .i64 x2) := fun w' h => (h.cell (p := ⟨b, off + i * 2 + 1, none⟩) hb).trans hc2
  have f3 : ∀ w', Below w3.heap.size w3 w' → w'.cell? ⟨w.heap.size, 0, none⟩ = some (.int .i64 d1) := fun w' h => (r3.kept h).cell 0
  have f4 : ∀ w', Below w3.heap.size w3 w' → w'.cell? ⟨w.heap.size, 1, none⟩ = some (.int .i64 d2) := fun w' h => (r3.kept h).cell 1
  refine wp_region_N [] [] (by kernel_rfl) (by kernel_rfl) ?_
  refine wpStill_go (v := .slice (some ⟨b, off, none⟩) n cap) rfl rfl (stays_run fun w' h => ex_move rfl rfl) ?_
  simp only [Act.put, List.setIfInBounds_toArray, List.set_cons_succ, List.set_cons_zero]
  refine wpStill_go (v := .int .i64 i) rfl rfl (stays_run fun w' h => ex_move rfl rfl) ?_
  simp only [Act.put, List.setIfInBounds_toArray, List.set_cons_succ, List.set_cons_zero]
  refine wpStill_go (v := .pointer (some ⟨b, off + i * 2, none⟩)) rfl rfl (stays_run fun w' h => ex_index rfl (by kernel_rfl) (by kernel_rfl) rfl rfl (hi)) ?_
  simp only [Act.put, List.setIfInBounds_toArray, List.set_cons_succ, List.set_cons_zero]
  refine wpStill_go (v := .pointer (some ⟨b, off + i * 2, none⟩)) rfl rfl (stays_run fun w' h => by simp [go_sem]) ?_
  simp only [Act.put, List.setIfInBounds_toArray, List.set_cons_succ, List.set_cons_zero]
  refine wpStill_go (v := .int .i64 x1) rfl rfl (stays_run fun w' h => ex_load rfl rfl (ld_one (by kernel_rfl) (f1 w' h))) ?_
  simp only [Act.put, List.setIfInBounds_toArray, List.set_cons_succ, List.set_cons_zero]
  refine wpStill_go (v := .pointer (some ⟨w.heap.size, 0, none⟩)) rfl rfl (stays_run fun w' h => by simp [go_sem]) ?_
  simp only [Act.put, List.setIfInBounds_toArray, List.set_cons_succ, List.set_cons_zero]
  refine wpStill_go (v := .int .i64 d1) rfl rfl (stays_run fun w' h => ex_load rfl rfl (ld_one (by kernel_rfl) (f3 w' h))) ?_
  simp only [Act.put, List.setIfInBounds_toArray, List.set_cons_succ, List.set_cons_zero]
  refine wpStill_go (v := .int .i64 (x1 * d1)) rfl rfl (stays_run fun w' h => by simp [go_sem, I1.out]) ?_
  simp only [Act.put, List.setIfInBounds_toArray, List.set_cons_succ, List.set_cons_zero]
  refine wpStill_go (v := .slice (some ⟨b, off, none⟩) n cap) rfl rfl (stays_run fun w' h => ex_move rfl rfl) ?_
  simp only [Act.put, List.setIfInBounds_toArray, List.set_cons_succ, List.set_cons_zero]
  refine wpStill_go (v := .int .i64 i) rfl rfl (stays_run fun w' h => ex_move rfl rfl) ?_
  simp only [Act.put, List.setIfInBounds_toArray, List.set_cons_succ, List.set_cons_zero]
  refine wpStill_go (v := .pointer (some ⟨b, off + i * 2, none⟩)) rfl rfl (stays_run fun w' h => ex_index rfl (by kernel_rfl) (by kernel_rfl) rfl rfl (hi)) ?_
  simp only [Act.put, List.setIfInBounds_toArray, List.set_cons_succ, List.set_cons_zero]
  refine wpStill_go (v := .pointer (some ⟨b, off + i * 2 + 1, none⟩)) rfl rfl (stays_run fun w' h => by simp [go_sem]) ?_
  simp only [Act.put, List.setIfInBounds_toArray, List.set_cons_succ, List.set_cons_zero]
  refine wpStill_go (v := .int .i64 x2) rfl rfl (stays_run fun w' h => ex_load rfl rfl (ld_one (by kernel_rfl) (f2 w' h))) ?_
  simp only [Act.put, List.setIfInBounds_toArray, List.set_cons_succ, List.set_cons_zero]
  refine wpStill_go (v := .pointer (some ⟨w.heap.size, 1, none⟩)) rfl rfl (stays_run fun w' h => by simp [go_sem]) ?_
  simp only [Act.put, List.setIfInBounds_toArray, List.set_cons_succ, List.set_cons_zero]
  refine wpStill_go (v := .int .i64 d2) rfl rfl (stays_run fun w' h => ex_load rfl rfl (ld_one (by kernel_rfl) (f4 w' h))) ?_
  simp only [Act.put, List.setIfInBounds_toArray, List.set_cons_succ, List.set_cons_zero]
  refine wpStill_go (v := .int .i64 (x2 * d2)) rfl rfl (stays_run fun w' h => by simp [go_sem, I2.out]) ?_
  simp only [Act.put, List.setIfInBounds_toArray, List.set_cons_succ, List.set_cons_zero]
  refine wpStill_go (v := .int .i64 (x1 * d1 + x2 * d2)) rfl rfl (stays_run fun w' h => by simp [go_sem, I3.out]) ?_
  simp only [Act.put, List.setIfInBounds_toArray, List.set_cons_succ, List.set_cons_zero]
  refine wpStill_go (v := .int .i64 (x1 * d1 + x2 * d2)) rfl rfl (stays_run fun w' h => by simp [go_sem]) ?_
  simp only [Act.put, List.setIfInBounds_toArray, List.set_cons_succ, List.set_cons_zero]
  refine wpStill_go (v := .bool true) rfl rfl (stays_run fun w' h => by simp [go_sem]) ?_
  simp only [Act.put, List.setIfInBounds_toArray, List.set_cons_succ, List.set_cons_zero]
  refine wpStill_nil ?_
  repeat (refine wpMark_skip rfl ?_)
  refine wpMark_nil fun w5 h5 => ?_
  simp only [onlyN]
  have B5 := B3.trans (((Below.refl _ _).drew.trans h5).mono B3.size)
  go_wp2_with fail
  go_ret2
  exact ⟨rfl, B5⟩

set_option maxRecDepth 100000 in
set_option maxHeartbeats 1000000 in
theorem delayPhase_yes (A : Option Addr) (n cap : Nat) (xs : List (Int × Int)) (i j : Nat) (d : Int × Int) (w : World) (hn : xs.length = n) (hk : n ≤ cap) (hv : arrV xs = true) (hi : i < n) (hj : j < n) (hd : antOk d = true) (hr : Rd w w.heap.size A (xs.flatMap pairCells)) :
    Calls Tryz.prog 81 #[.slice A n cap, .int .i64 i, .int .i64 j, .agg #[.int .i64 d.1, .int .i64 d.2]] w fun e w' => e = .returned (.tuple #[.int .i64 ((dlyV xs j d - dlyV xs i d) % 360), .bool true]) ∧ Below w.heap.size w w' := by
  have hgl := arrV_gLe hv
  have e1 := dlyV_bd hgl i hd
  have e2 := dlyV_bd hgl j hd
  have hB : ∀ W, Below w.heap.size w W → Calls Tryz.prog 118 #[.slice A n cap, .int .i64 i, .int .i64 j, .agg #[.int .i64 d.1, .int .i64 d.2]] W fun e w' => e = .returned (.tuple #[.int .i64 (dlyV xs j d - dlyV xs i d), .bool true]) ∧ Below W.heap.size W w' := fun W hW => by
    have hrW := hr.ext hW
    obtain ⟨x, hx⟩ : ∃ x, dlyV xs i d = x := ⟨_, rfl⟩
    obtain ⟨y, hy⟩ : ∃ y, dlyV xs j d = y := ⟨_, rfl⟩
    rw [hx] at e1
    rw [hy] at e2
    rw [hx, hy]
    have h1 := fun W' (h : Below W.heap.size W W') => delayOf_yes A n cap xs i d W' hn hk hv hi hd (hrW.ext h)
    have h2 := fun W' (h : Below W.heap.size W W') => delayOf_yes A n cap xs j d W' hn hk hv hj hd (hrW.ext h)
    rw [hx] at h1
    rw [hy] at h2
    obtain ⟨d1, d2⟩ := d
    dsimp only at *
    have r0 := Row.new W 50 [.int .i64 d1, .int .i64 d2]
    obtain ⟨c0, c1, _, _⟩ := r0.two
    have i1 : IntKind.i64.wrap (y - x) = y - x := IntWalk.i64_in _ (by omega)
    have Hx := Lib.hid hx; clear hx
    have Hy := Lib.hid hy; clear hy
    have H1 := Lib.hid h1; clear h1
    have H2 := Lib.hid h2; clear h2
    have R0 := Lib.hid r0; clear r0
    clear hr hrW hgl hv hd hn hW
    go_enter Tryz.func118, Tryz.ntmps118
    go_wp2_with fail
    refine (H1.out _ bA1).mono ?_
    rintro e w1 ⟨rfl, b1⟩
    obtain ⟨c0, c1, _, _⟩ := (R0.out.kept b1).two
    have B1 := bA1.trans (b1.mono bA1.size)
    go_wp2_with fail
    refine (H2.out _ B1).mono ?_
    rintro e w2 ⟨rfl, b2⟩
    have B2 := B1.trans (b2.mono B1.size)
    clear b1 b2
    go_wp2_with fail
    go_ret2
    exact ⟨rfl, B2⟩
  obtain ⟨z, hz⟩ : ∃ z, dlyV xs j d - dlyV xs i d = z := ⟨_, rfl⟩
  rw [hz] at hB ⊢
  obtain ⟨d1, d2⟩ := d
  dsimp only at *
  have r0 := Row.new w 50 [.int .i64 d1, .int .i64 d2]
  obtain ⟨c0, c1, _, _⟩ := r0.two
  have Hz := Lib.hid hz; clear hz
  have HB := Lib.hid hB; clear hB
  clear hr hgl hv hd hn r0
  go_enter Tryz.func81, Tryz.ntmps81
  go_wp2_with fail
  refine (HB.out _ bA1).mono ?_
  rintro e w1 ⟨rfl, b1⟩
  go_wp2_with fail
  refine (phaseOf_any z _).mono ?_
  rintro e w2 ⟨rfl, rfl⟩
  have B1 := bA1.trans (b1.mono bA1.size)
  clear b1
  go_wp2_with fail
  go_ret2
  exact ⟨rfl, B1⟩

set_option maxRecDepth 100000 in
set_option maxHeartbeats 1000000 in
theorem sdelayPhase_yes (A : Option Addr) (n cap : Nat) (xs : List (Int × Int)) (i j : Nat) (d : Int × Int) (w : World) (hn : xs.length = n) (hk : n ≤ cap) (hv : arrV xs = true) (hi : i < n) (hj : j < n) (hd : antOk d = true) (hr : Rd w w.heap.size A (xs.flatMap pairCells)) :
    Calls Tryz.prog 82 #[.slice A n cap, .int .i64 i, .int .i64 j, .agg #[.int .i64 d.1, .int .i64 d.2]] w fun e w' => e = .returned (.tuple #[.int .i64 ((dlyV xs j d - dlyV xs i d) % 360), .bool true]) ∧ Below w.heap.size w w' := by
  have hgl := arrV_gLe hv
  have e1 := dlyV_bd hgl i hd
  have e2 := dlyV_bd hgl j hd
  have hB : ∀ W, Below w.heap.size w W → Calls Tryz.prog 120 #[.slice A n cap, .int .i64 i, .int .i64 j, .agg #[.int .i64 d.1, .int .i64 d.2]] W fun e w' => e = .returned (.tuple #[.int .i64 (dlyV xs j d - dlyV xs i d), .bool true]) ∧ Below W.heap.size W w' := fun W hW => by
    have hrW := hr.ext hW
    obtain ⟨x, hx⟩ : ∃ x, dlyV xs i d = x := ⟨_, rfl⟩
    obtain ⟨y, hy⟩ : ∃ y, dlyV xs j d = y := ⟨_, rfl⟩
    rw [hx] at e1
    rw [hy] at e2
    rw [hx, hy]
    have h1 := fun W' (h : Below W.heap.size W W') => sdelayOf_yes A n cap xs i d W' hn hk hv hi hd (hrW.ext h)
    have h2 := fun W' (h : Below W.heap.size W W') => sdelayOf_yes A n cap xs j d W' hn hk hv hj hd (hrW.ext h)
    rw [hx] at h1
    rw [hy] at h2
    obtain ⟨d1, d2⟩ := d
    dsimp only at *
    have r0 := Row.new W 50 [.int .i64 d1, .int .i64 d2]
    obtain ⟨c0, c1, _, _⟩ := r0.two
    have i1 : IntKind.i64.wrap (y - x) = y - x := IntWalk.i64_in _ (by omega)
    have Hx := Lib.hid hx; clear hx
    have Hy := Lib.hid hy; clear hy
    have H1 := Lib.hid h1; clear h1
    have H2 := Lib.hid h2; clear h2
    have R0 := Lib.hid r0; clear r0
    clear hr hrW hgl hv hd hn hW
    go_enter Tryz.func120, Tryz.ntmps120
    go_wp2_with fail
    refine (H1.out _ bA1).mono ?_
    rintro e w1 ⟨rfl, b1⟩
    obtain ⟨c0, c1, _, _⟩ := (R0.out.kept b1).two
    have B1 := bA1.trans (b1.mono bA1.size)
    go_wp2_with fail
    refine (H2.out _ B1).mono ?_
    rintro e w2 ⟨rfl, b2⟩
    have B2 := B1.trans (b2.mono B1.size)
    clear b1 b2
    go_wp2_with fail
    go_ret2
    exact ⟨rfl, B2⟩
  obtain ⟨z, hz⟩ : ∃ z, dlyV xs j d - dlyV xs i d = z := ⟨_, rfl⟩
  rw [hz] at hB ⊢
  obtain ⟨d1, d2⟩ := d
  dsimp only at *
  have r0 := Row.new w 50 [.int .i64 d1, .int .i64 d2]
  obtain ⟨c0, c1, _, _⟩ := r0.two
  have Hz := Lib.hid hz; clear hz
  have HB := Lib.hid hB; clear hB
  clear hr hgl hv hd hn r0
  go_enter Tryz.func82, Tryz.ntmps82
  go_wp2_with fail
  refine (HB.out _ bA1).mono ?_
  rintro e w1 ⟨rfl, b1⟩
  go_wp2_with fail
  refine (sPhaseOf_any z _).mono ?_
  rintro e w2 ⟨rfl, rfl⟩
  have B1 := bA1.trans (b1.mono bA1.size)
  clear b1
  go_wp2_with fail
  go_ret2
  exact ⟨rfl, B1⟩
end Go.Proofs.YtipgpafgampfbaaGreatDoor
