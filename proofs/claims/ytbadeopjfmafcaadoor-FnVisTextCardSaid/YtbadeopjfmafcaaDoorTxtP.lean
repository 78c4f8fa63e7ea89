/- Plain texts: numerals are read back; texts are cut at a byte; fields of a text. No program. -/
import Derived.Lib.ItoaNum
import Derived.Lib.ItoaLen
import Derived.Lib.AtoiAll
import Derived.Lib.AtoiTie
import Derived.Lib.FieldsP
import Derived.Lib.Split
import Derived.Lib.SplitLaws
import Derived.Lib.IndexBytes
import Derived.Lib.TrimUEq
namespace Go.Proofs.YtbadeopjfmafcaaDoor
open Go

/-! ### numerals -/
theorem decFrom_snoc (b : UInt8) : ∀ (l : List UInt8) (acc : Nat), Lib.decFrom acc (l ++ [b]) = (Lib.decFrom acc l).bind fun n => (Lib.digitVal b).map fun d => n * 10 + d
  | [], acc => by
    simp only [List.nil_append, Lib.decFrom]
    cases Lib.digitVal b <;> rfl
  | a :: t, acc => by
    simp only [List.cons_append, Lib.decFrom]
    cases Lib.digitVal a with
    | none => rfl
    | some d => exact decFrom_snoc b t _

theorem digit_toNat {d : Nat} (h : d < 10) : (UInt8.ofNat (48 + d)).toNat = 48 + d := by
  rw [UInt8.toNat_ofNat']; omega
theorem digitVal_of {d : Nat} (h : d < 10) : Lib.digitVal (UInt8.ofNat (48 + d)) = some d := by
  unfold Lib.digitVal
  rw [digit_toNat h, if_pos (by omega)]
  congr 1; omega

theorem decFrom_decDigits (u : Nat) : Lib.decFrom 0 (Lib.decDigits u) = some u := by
  induction u using Nat.strongRecOn with
  | _ u ih =>
    rw [Lib.decDigits]
    by_cases h : u < 10
    · rw [dif_pos h]
      unfold Lib.decFrom
      rw [digitVal_of h]
      simp [Lib.decFrom]
    · rw [dif_neg h, decFrom_snoc, ih (u / 10) (by omega), digitVal_of (by omega)]
      simp only [Option.bind_some, Option.map_some, Option.some.injEq]
      omega

theorem decDigits_mem (u : Nat) : ∀ b ∈ Lib.decDigits u, 48 ≤ b.toNat ∧ b.toNat ≤ 57 := by
  induction u using Nat.strongRecOn with
  | _ u ih =>
    intro b hb
    rw [Lib.decDigits] at hb
    by_cases h : u < 10
    · rw [dif_pos h] at hb
      simp only [List.mem_singleton] at hb
      subst hb
      rw [digit_toNat h]; omega
    · rw [dif_neg h, List.mem_append] at hb
      rcases hb with hb | hb
      · exact ih (u / 10) (by omega) b hb
      · simp only [List.mem_singleton] at hb
        subst hb
        rw [digit_toNat (by omega)]; omega
theorem decDigits_ne (u : Nat) : Lib.decDigits u ≠ [] := by
  intro h
  have := Lib.decDigits_length u
  have := Lib.nDigits_pos u
  rw [h] at *
  simp at *; omega

theorem itoa_mem (n : Int) : ∀ b ∈ Lib.itoa n, b.toNat = 45 ∨ (48 ≤ b.toNat ∧ b.toNat ≤ 57) := by
  intro b hb
  unfold Lib.itoa at hb
  split at hb
  · rcases List.mem_cons.1 hb with rfl | hb
    · exact .inl rfl
    · exact .inr (decDigits_mem _ b hb)
  · exact .inr (decDigits_mem _ b hb)
theorem itoa_ne (n : Int) : Lib.itoa n ≠ [] := by
  unfold Lib.itoa
  split
  · simp
  · exact decDigits_ne _

/-- A number of one to seven digits, a hyphen ahead or not. -/
def numOf (l : List UInt8) : Option Int :=
  match l with
  | [] => none
  | b :: r =>
    if b = 45 then (if r.isEmpty || decide (7 < r.length) then none else (Lib.decFrom 0 r).map fun (m : Nat) => -(m : Int))
    else (if decide (7 < (b :: r).length) then none else (Lib.decFrom 0 (b :: r)).map fun (m : Nat) => (m : Int))
def num7 (l : List UInt8) : Int := (numOf l).getD 99999999

theorem nDigits_le {u k : Nat} (hk : 1 ≤ k) (h : u < 10 ^ k) : Lib.nDigits u ≤ k := by
  rcases Nat.lt_or_ge k (Lib.nDigits u) with hlt | hge
  · exfalso
    have h1 := Lib.nDigits_pos u
    have hu : u ≠ 0 := by
      rintro rfl
      rw [Lib.nDigits_small (by decide)] at hlt
      omega
    have : 10 ^ (Lib.nDigits u - 1) ≤ u := by
      clear h hlt hk k h1
      induction u using Nat.strongRecOn with
      | _ u ih =>
        by_cases h : u < 10
        · rw [Lib.nDigits_small h]
          rcases Nat.eq_zero_or_pos u with h0 | h0
          · exact absurd h0 hu
          · simp only [Nat.sub_self, Nat.pow_zero]; omega
        · have h2 := Lib.nDigits_pos (u / 10)
          have h3 := ih (u / 10) (by omega) (by omega)
          rw [Lib.nDigits_big h]
          have e : Lib.nDigits (u / 10) + 1 - 1 = (Lib.nDigits (u / 10) - 1) + 1 := by omega
          rw [e, Nat.pow_succ]
          omega
    have h4 : 10 ^ k ≤ 10 ^ (Lib.nDigits u - 1) := Nat.pow_le_pow_right (by decide) (by omega)
    omega
  · exact hge

theorem numOf_itoa {n : Int} (h0 : -9999999 ≤ n) (h1 : n ≤ 9999999) : numOf (Lib.itoa n) = some n := by
  unfold Lib.itoa
  by_cases hn : n < 0
  · rw [if_pos hn]
    have hl : (Lib.decDigits n.natAbs).length ≤ 7 := by
      rw [Lib.decDigits_length]; exact nDigits_le (by decide) (by omega)
    have hne := decDigits_ne n.natAbs
    unfold numOf
    simp only [if_true]
    rw [if_neg (by simp [hne]; omega), decFrom_decDigits]
    simp only [Option.map_some, Option.some.injEq]
    omega
  · rw [if_neg hn]
    have hl : (Lib.decDigits n.toNat).length ≤ 7 := by
      rw [Lib.decDigits_length]; exact nDigits_le (by decide) (by omega)
    have hd := decFrom_decDigits n.toNat
    have hm := decDigits_mem n.toNat
    have hne := decDigits_ne n.toNat
    cases hc : Lib.decDigits n.toNat with
    | nil => exact absurd hc hne
    | cons b r =>
      rw [hc] at hl hd hm
      unfold numOf
      have hb : ¬ b = 45 := by
        rintro rfl
        have := hm 45 (by simp)
        simp at this
      simp only [if_neg hb]
      rw [if_neg (by simpa using hl), hd]
      simp only [Option.map_some, Option.some.injEq]
      omega
theorem num7_itoa {n : Int} (h0 : -9999999 ≤ n) (h1 : n ≤ 9999999) : num7 (Lib.itoa n) = n := by
  unfold num7; rw [numOf_itoa h0 h1]; rfl

theorem atoi_of_num {l : List UInt8} {n : Int} (h : numOf l = some n) : Lib.atoi l = some n ∧ l.length ≤ 8 := by
  cases l with
  | nil => simp [numOf] at h
  | cons b r =>
    unfold numOf at h
    simp only at h
    by_cases hb : b = 45
    · subst hb
      simp only [if_true] at h
      split at h
      · cases h
      · rename_i hc
        simp only [Bool.or_eq_true, decide_eq_true_eq, not_or, Nat.not_lt] at hc
        have hr : r.isEmpty = false := by simpa using hc.1
        refine ⟨?_, by simp only [List.length_cons]; omega⟩
        unfold Lib.atoi Lib.decNat
        simp only [beq_self_eq_true, if_true, hr, Bool.false_eq_true, if_false]
        exact h
    · simp only [if_neg hb] at h
      split at h
      · cases h
      · rename_i hc
        simp only [decide_eq_true_eq, Nat.not_lt] at hc
        have h43 : b ≠ 43 := by
          rintro rfl
          simp [Lib.decFrom, Lib.digitVal] at h
        refine ⟨?_, by omega⟩
        unfold Lib.atoi Lib.decNat
        simp only [beq_iff_eq, hb, h43, if_false, List.isEmpty_cons, Bool.false_eq_true]
        exact h

theorem numOf_bd {l : List UInt8} {n : Int} (h : numOf l = some n) : -9999999 ≤ n ∧ n ≤ 9999999 := by
  have key : ∀ (r : List UInt8) (m : Nat), r.length ≤ 7 → Lib.decFrom 0 r = some m → m ≤ 9999999 := fun r m hr hm => by
    have h1 := Lib.decFrom_lt r 0 m hm
    have h2 : 10 ^ r.length ≤ 10 ^ 7 := Nat.pow_le_pow_right (by decide) hr
    omega
  cases l with
  | nil => simp [numOf] at h
  | cons b r =>
    unfold numOf at h
    simp only at h
    split at h
    · split at h
      · cases h
      · rename_i hc
        simp only [Bool.or_eq_true, decide_eq_true_eq, not_or, Nat.not_lt] at hc
        cases hd : Lib.decFrom 0 r with
        | none => rw [hd] at h; cases h
        | some m =>
          rw [hd] at h
          have := key r m hc.2 hd
          simp only [Option.map_some, Option.some.injEq] at h
          omega
    · split at h
      · cases h
      · rename_i hc
        simp only [decide_eq_true_eq, Nat.not_lt] at hc
        cases hd : Lib.decFrom 0 (b :: r) with
        | none => rw [hd] at h; cases h
        | some m =>
          rw [hd] at h
          have := key (b :: r) m hc hd
          simp only [Option.map_some, Option.some.injEq] at h
          omega
theorem num7_bd (l : List UInt8) : -9999999 ≤ num7 l ∧ num7 l ≤ 99999999 := by
  unfold num7
  cases h : numOf l with
  | none => simp
  | some n => have := numOf_bd h; simp; omega

/-! ### cutting at a byte -/
def cut (c : UInt8) : List UInt8 → List (List UInt8)
  | [] => [[]]
  | b :: l => if b = c then [] :: cut c l else match cut c l with
    | h :: t => (b :: h) :: t
    | [] => [[b]]
theorem cut_ne (c : UInt8) (l : List UInt8) : cut c l ≠ [] := by
  cases l with
  | nil => simp [cut]
  | cons b l =>
    unfold cut
    split
    · simp
    · split <;> simp
theorem cut_none {c : UInt8} : ∀ {l : List UInt8}, c ∉ l → cut c l = [l]
  | [], _ => rfl
  | b :: l, h => by
    have hb : ¬ b = c := fun e => h (by simp [e])
    have hl : c ∉ l := fun e => h (by simp [e])
    unfold cut
    rw [if_neg hb, cut_none hl]
theorem cut_hit {c : UInt8} : ∀ {a : List UInt8} (r : List UInt8), c ∉ a → cut c (a ++ c :: r) = a :: cut c r
  | [], r, _ => by
    rw [List.nil_append, cut, if_pos rfl]
  | b :: a, r, h => by
    have hb : ¬ b = c := fun e => h (by simp [e])
    have hl : c ∉ a := fun e => h (by simp [e])
    rw [List.cons_append, cut, if_neg hb, cut_hit r hl]
theorem cut_len (c : UInt8) : ∀ l : List UInt8, (cut c l).length = l.count c + 1
  | [] => rfl
  | b :: l => by
    have ih := cut_len c l
    unfold cut
    by_cases hb : b = c
    · subst hb
      rw [if_pos rfl, List.length_cons, ih, List.count_cons_self]
    · rw [if_neg hb, List.count_cons_of_ne (by simpa using hb)]
      cases hc : cut c l with
      | nil => exact absurd hc (cut_ne c l)
      | cons h t => rw [hc] at ih; simpa using ih
theorem cut_lines {c : UInt8} : ∀ (ls : List (List UInt8)), (∀ x ∈ ls, c ∉ x) → cut c (ls.flatMap (· ++ [c])) = ls ++ [[]]
  | [], _ => rfl
  | a :: t, h => by
    rw [List.flatMap_cons, List.append_assoc, List.singleton_append, cut_hit _ (h a (by simp)), cut_lines t fun x hx => h x (by simp [hx])]
    rfl
theorem cut_mem {c : UInt8} : ∀ {l : List UInt8} {x : List UInt8}, x ∈ cut c l → c ∉ x
  | [], x, h => by simp [cut] at h; subst h; simp
  | b :: l, x, h => by
    unfold cut at h
    split at h
    · rcases List.mem_cons.1 h with rfl | h
      · simp
      · exact cut_mem h
    · rename_i hb
      cases hc : cut c l with
      | nil => exact absurd hc (cut_ne c l)
      | cons y t =>
        rw [hc] at h
        rcases List.mem_cons.1 h with rfl | h
        · have := cut_mem (c := c) (l := l) (x := y) (by rw [hc]; simp)
          simp [this, Ne.symm hb]
        · exact cut_mem (c := c) (l := l) (by rw [hc]; simp [h])
theorem cut_size {c : UInt8} : ∀ {l : List UInt8} {x : List UInt8}, x ∈ cut c l → x.length ≤ l.length
  | [], x, h => by simp [cut] at h; subst h; simp
  | b :: l, x, h => by
    unfold cut at h
    split at h
    · rcases List.mem_cons.1 h with rfl | h
      · simp
      · have := cut_size h; simp; omega
    · cases hc : cut c l with
      | nil => exact absurd hc (cut_ne c l)
      | cons y t =>
        rw [hc] at h
        rcases List.mem_cons.1 h with rfl | h
        · have := cut_size (c := c) (l := l) (x := y) (by rw [hc]; simp)
          simp; omega
        · have := cut_size (c := c) (l := l) (x := x) (by rw [hc]; simp [h])
          simp; omega

theorem index_split {c : UInt8} {l : List UInt8} {o : Nat} (h : Lib.index l [c] = o) : ∃ a r, l = a ++ c :: r ∧ a.length = o ∧ c ∉ a := by
  rw [Lib.index_one] at h
  obtain ⟨h1, h2⟩ := Lib.indexByte_some h
  have hlt : o < l.length := (List.getElem?_eq_some_iff.1 h1).1
  refine ⟨l.take o, l.drop (o + 1), ?_, by simp; omega, ?_⟩
  · rw [List.getElem?_eq_getElem hlt] at h1
    injection h1 with h1
    conv => lhs; rw [← List.take_append_drop o l]
    rw [List.drop_eq_getElem_cons hlt, h1]
  · intro hm
    obtain ⟨k, hk, e⟩ := List.mem_iff_getElem.1 hm
    have hk' : k < o := by simp at hk; omega
    refine h2 k hk' ?_
    rw [List.getElem_take] at e
    rw [List.getElem?_eq_getElem (by omega), e]
theorem index_miss {c : UInt8} {l : List UInt8} (h : Lib.index l [c] = -1) : c ∉ l := by
  rw [Lib.index_one] at h
  intro hm
  obtain ⟨k, hk, e⟩ := List.mem_iff_getElem.1 hm
  exact Lib.indexByte_none h k (by rw [List.getElem?_eq_getElem hk, e])
theorem index_hit {c : UInt8} {a : List UInt8} (r : List UInt8) (h : c ∉ a) : Lib.index (a ++ c :: r) [c] = a.length := by
  rw [Lib.index_one]
  induction a with
  | nil => simp [Lib.indexByte]
  | cons b a ih =>
    have hb : ¬ b = c := fun e => h (by simp [e])
    have ih := ih fun e => h (by simp [e])
    rw [List.cons_append, Lib.indexByte, if_neg (by simpa using hb), ih]
    rw [if_neg (by simp)]
    simp

/-- The library's Split at one byte is 'cut'. -/
theorem splitK_cut (c : UInt8) : ∀ (k : Nat) (l : List UInt8), l.count c = k → Lib.splitK [c] 0 k l = cut c l
  | 0, l, h => by
    have : c ∉ l := List.count_eq_zero.1 h
    rw [cut_none this]; rfl
  | k + 1, l, h => by
    unfold Lib.splitK
    by_cases hm : Lib.index l [c] = -1
    · exfalso
      have := index_miss hm
      rw [List.count_eq_zero_of_not_mem this] at h
      omega
    · have hge := Lib.index_ge l [c]
      obtain ⟨o, ho⟩ : ∃ o : Nat, Lib.index l [c] = o := ⟨(Lib.index l [c]).toNat, by omega⟩
      obtain ⟨a, r, rfl, hl, ha⟩ := index_split ho
      rw [if_neg (by simpa using hm), ho, cut_hit r ha]
      have e1 : ((o : Int).toNat + 0) = a.length := by omega
      have e2 : ((o : Int).toNat + [c].length) = a.length + 1 := by simp; omega
      rw [e1, e2, List.take_left' rfl]
      have e3 : (a ++ c :: r).drop (a.length + 1) = r := by
        rw [← List.drop_drop]; simp
      rw [e3, splitK_cut c k r (by
        rw [List.count_append, List.count_eq_zero_of_not_mem ha, List.count_cons_self] at h; omega)]
theorem split_cut (c : UInt8) (s : ByteArray) : (Lib.splitB ⟨#[c]⟩ 0 (Lib.countB s ⟨#[c]⟩) s).map (·.data.toList) = cut c s.data.toList := by
  rw [Lib.splitB_data]
  refine splitK_cut c _ _ ?_
  show _ = Lib.count s.data.toList [c]
  rw [Lib.count_one]

/-! ### fields -/
theorem decode_ascii {s : ByteArray} {pos : Nat} {b : UInt8} {r : List UInt8} (h : s.data.toList.drop pos = b :: r) (hb : b.toNat < 128) : Utf8.decode s pos = (b.toNat, 1) := by
  have e : s.data.toList.getD pos 0 = b := by
    have := congrArg (·[0]?) h
    simp only [List.getElem?_drop, Nat.add_zero, List.getElem?_cons_zero] at this
    rw [List.getD_eq_getElem?_getD, this]; rfl
  rw [Lib.decode_N, e]
  unfold Lib.decodeN
  rw [if_pos hb]

theorem drop_size {s : ByteArray} {pos : Nat} {b : UInt8} {r : List UInt8} (h : s.data.toList.drop pos = b :: r) : pos < s.size ∧ s.data.toList.drop (pos + 1) = r := by
  have h1 := congrArg List.length h
  simp only [List.length_drop, List.length_cons] at h1
  refine ⟨by rw [Lib.size_eq]; omega, ?_⟩
  rw [← List.drop_drop, h]; rfl

theorem spans_word (p : Nat → Bool) (s : ByteArray) (c : UInt8) (rest : List UInt8) (a : Nat) (acc : List (Nat × Nat)) (hc : c.toNat < 128) (hpc : p c.toNat = true) :
    ∀ (w : List UInt8) (f pos : Nat), (∀ b ∈ w, b.toNat < 128 ∧ p b.toNat = false) → s.data.toList.drop pos = w ++ c :: rest →
      Lib.spansFromP p s (w.length + 1 + f) pos (some a) acc = Lib.spansFromP p s f (pos + w.length + 1) none (acc ++ [(a, pos + w.length)])
  | [], f, pos, _, hd => by
    obtain ⟨h1, h2⟩ := drop_size hd
    rw [List.length_nil, Nat.zero_add, Nat.add_comm, Lib.spansFromP, if_pos h1, decode_ascii hd hc, if_pos hpc]
    rfl
  | b :: w, f, pos, hw, hd => by
    obtain ⟨h1, h2⟩ := drop_size hd
    have hb := hw b (by simp)
    rw [show (b :: w).length + 1 + f = (w.length + 1 + f) + 1 by simp; omega, Lib.spansFromP, if_pos h1, decode_ascii hd hb.1]
    simp only [hb.2, Bool.false_eq_true, if_false]
    rw [spans_word p s c rest a acc hc hpc w f (pos + 1) (fun x hx => hw x (by simp [hx])) h2]
    rw [show pos + 1 + w.length = pos + (b :: w).length by simp; omega]

/-- The spans of words, each with a separator behind it. -/
def spansAt : List (List UInt8 × UInt8) → Nat → List (Nat × Nat)
  | [], _ => []
  | x :: t, pos => (pos, pos + x.1.length) :: spansAt t (pos + x.1.length + 1)

theorem spans_words (p : Nat → Bool) (s : ByteArray) : ∀ (ws : List (List UInt8 × UInt8)) (f pos : Nat) (acc : List (Nat × Nat)),
    (∀ x ∈ ws, x.1 ≠ [] ∧ (∀ b ∈ x.1, b.toNat < 128 ∧ p b.toNat = false) ∧ x.2.toNat < 128 ∧ p x.2.toNat = true) → s.data.toList.drop pos = ws.flatMap (fun x => x.1 ++ [x.2]) → s.size ≤ pos + f →
      Lib.spansFromP p s f pos none acc = (acc ++ spansAt ws pos, none)
  | [], f, pos, acc, _, hd, hf => by
    have : ¬ pos < s.size := by
      intro hlt
      rw [Lib.size_eq] at hlt
      have h2 := congrArg List.length hd
      rw [List.length_drop, List.flatMap_nil, List.length_nil] at h2
      omega
    rw [Lib.spansFromP_end p s f pos none acc this]
    simp [spansAt]
  | (w, c) :: t, f, pos, acc, hw, hd, hf => by
    obtain ⟨hne, hb, hc, hpc⟩ := hw (w, c) (by simp)
    rw [List.flatMap_cons, List.append_assoc, List.singleton_append] at hd
    have hlen := congrArg List.length hd
    simp only [List.length_drop, List.length_append, List.length_cons] at hlen
    have hsz := Lib.size_eq s
    cases w with
    | nil => exact absurd rfl hne
    | cons b w =>
      obtain ⟨h1, h2⟩ := drop_size hd
      have hbb := hb b (by simp)
      obtain ⟨f', rfl⟩ : ∃ f', f = (w.length + 1 + f') + 1 := ⟨f - (w.length + 2), by simp at hlen; omega⟩
      rw [Lib.spansFromP, if_pos h1, decode_ascii hd hbb.1]
      simp only [hbb.2, Bool.false_eq_true, if_false]
      rw [spans_word p s c _ pos acc hc hpc w f' (pos + 1) (fun x hx => hb x (by simp [hx])) h2]
      have hd3 : s.data.toList.drop (pos + 1 + w.length + 1) = t.flatMap (fun x => x.1 ++ [x.2]) := by
        rw [← List.drop_drop, ← List.drop_drop, h2]
        simp
      rw [spans_words p s t f' (pos + 1 + w.length + 1) _ (fun x hx => hw x (by simp [hx])) hd3 (by omega)]
      simp only [spansAt, List.append_assoc, List.singleton_append, List.length_cons]
      rw [show pos + 1 + w.length = pos + (w.length + 1) by omega]

theorem spansAt_take (s : ByteArray) : ∀ (ws : List (List UInt8 × UInt8)) (pos : Nat), s.data.toList.drop pos = ws.flatMap (fun x => x.1 ++ [x.2]) → (spansAt ws pos).map (fun x => (s.extract x.1 x.2).data.toList) = ws.map (·.1)
  | [], _, _ => rfl
  | (w, c) :: t, pos, hd => by
    rw [List.flatMap_cons, List.append_assoc, List.singleton_append] at hd
    have hd2 : s.data.toList.drop (pos + w.length + 1) = t.flatMap (fun x => x.1 ++ [x.2]) := by
      rw [← List.drop_drop, ← List.drop_drop, hd]
      simp
    simp only [spansAt, List.map_cons]
    rw [spansAt_take s t _ hd2, Lib.extract_data]
    congr 1
    rw [show pos + w.length - pos = w.length by omega, hd]
    simp
/-- FieldsFunc at words of ASCII with a separator behind each. -/
theorem fields_words (p : Nat → Bool) (s : ByteArray) (ws : List (List UInt8 × UInt8)) (hw : ∀ x ∈ ws, x.1 ≠ [] ∧ (∀ b ∈ x.1, b.toNat < 128 ∧ p b.toNat = false) ∧ x.2.toNat < 128 ∧ p x.2.toNat = true)
    (hs : s.data.toList = ws.flatMap fun x => x.1 ++ [x.2]) : (Lib.goFieldsP p s).map (·.data.toList) = ws.map (·.1) := by
  unfold Lib.goFieldsP Lib.spansOfP
  rw [spans_words p s ws s.size 0 [] hw (by simpa using hs) (by omega)]
  simp only [List.nil_append, Lib.closeSpans, List.map_map]
  exact spansAt_take s ws 0 (by simpa using hs)
theorem fields_empty (p : Nat → Bool) (s : ByteArray) (hs : s.size = 0) : Lib.goFieldsP p s = [] := by
  unfold Lib.goFieldsP Lib.spansOfP
  rw [Lib.spansFromP_end p s _ 0 none [] (by omega)]
  rfl

/-- How many bytes c the first k bytes hold. -/
def cntB (c : UInt8) (l : List UInt8) (k : Nat) : Nat := (l.take k).count c
theorem cntB_succ (c : UInt8) (l : List UInt8) (k : Nat) (b : UInt8) (hb : l[k]? = some b) : cntB c l (k + 1) = cntB c l k + if b = c then 1 else 0 := by
  unfold cntB
  rw [List.take_add_one, hb, List.count_append]
  congr 1
  by_cases h : b = c
  · subst h; simp
  · rw [if_neg h]; simp [h]
theorem cntB_all (c : UInt8) (l : List UInt8) : cntB c l l.length = l.count c := by unfold cntB; rw [List.take_length]
end Go.Proofs.YtbadeopjfmafcaaDoor
