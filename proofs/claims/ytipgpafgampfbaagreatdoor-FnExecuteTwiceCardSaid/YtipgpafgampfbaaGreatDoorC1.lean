/- The laws' texts of antennas. · Scripts of antennas: plain. · What the scripts of the laws return: plain. · 'laws.complete', 'laws.lastLine'. · A script up to its last newline, and the last line of what it returns: plain. · What a complete script and some lines more return, for the laws: plain. · A string cut in a region. -/
import Derived.Test.YtipgpafgampfbaaGreatDoorRunU
import Derived.Test.YtipgpafgampfbaaGreatDoorRunO
import Derived.Test.YtipgpafgampfbaaGreatDoorRunE
import Derived.Test.YtipgpafgampfbaaGreatDoorB4
namespace Go.Proofs.YtipgpafgampfbaaGreatDoor
open Go.RowKit

end Go.Proofs.YtipgpafgampfbaaGreatDoor

namespace Go.Proofs.YtipgpafgampfbaaGreatDoor
open Go

theorem cut_more {c : UInt8} : ∀ (ls : List (List UInt8)) (r : List UInt8), (∀ x ∈ ls, c ∉ x) → cut c (ls.flatMap (· ++ [c]) ++ r) = ls ++ cut c r
  | [], _, _ => rfl
  | a :: t, r, h => by
    rw [List.flatMap_cons, List.append_assoc, List.append_assoc, List.singleton_append, cut_hit _ (h a (by simp)), cut_more t r fun x hx => h x (by simp [hx])]
    rfl
end Go.Proofs.YtipgpafgampfbaaGreatDoor

namespace Go.Proofs.YtipgpafgampfbaaGreatDoor
open Go

theorem endB_small (n : Nat) (h : n ≤ 1000) : (endB n).length ≤ 40 := by
  have := itoa_small (n := (n : Int)) (by omega)
  unfold endB
  simp [oAnts]
  omega
end Go.Proofs.YtipgpafgampfbaaGreatDoor

namespace Go.Proofs.YtipgpafgampfbaaGreatDoor
open Go.RowKit

/-- Where the last newline ahead of place i ends. -/
def compN (l : List UInt8) : Nat → Nat
  | 0 => 0
  | i + 1 => if l[i]? = some 10 then i + 1 else compN l i
def compB (l : List UInt8) : List UInt8 := l.take (compN l l.length)
/-- The last line of an output: what stands behind the last newline but its last byte. -/
def lastB (l : List UInt8) : List UInt8 := l.drop (compN l (l.length - 1))

set_option maxRecDepth 100000 in
set_option maxHeartbeats 1000000 in
theorem complete_any (l : List UInt8) (w : World) (hs : l.length ≤ 2000000) :
    Calls Tryz.prog 18 #[.string ⟨l.toArray⟩] w fun e w' => e = .returned (.string ⟨(compB l).toArray⟩) ∧ Below w.heap.size w w' := by
  have hsz : (ByteArray.mk l.toArray).size = l.length := rfl
  go_enter Tryz.func18, Tryz.ntmps18
  go_wp2_with fail
  go_loopw [3] (fun i wr => ∃ k : Nat, k ≤ l.length ∧ i = .int .i64 k ∧ compN l l.length = compN l k ∧ Below w.heap.size w wr) (fun i _ => (intOf i).toNat)
  case atStart => exact ⟨l.length, Nat.le_refl _, rfl, rfl, Below.refl _ _⟩
  case round =>
    obtain ⟨k, hk, rfl, hc, hbel⟩ := hrel
    cases k with
    | zero =>
      have e : compB l = [] := by unfold compB; rw [hc]; rfl
      have Hc := Lib.hid hc; clear hc
      have E := Lib.hid e; clear e
      go_wp2_with fail
      go_ret
      exact ⟨by rw [E.out]; rfl, hbel⟩
    | succ k =>
      have hb : l[k]? = some l[k] := List.getElem?_eq_getElem (by omega)
      generalize l[k] = b at hb
      have hg := str_get l k b hb
      have hx := extract_str l 0 (k + 1)
      have hw : IntKind.i64.wrap (((k + 1 : Nat) : Int) - 1) = k := by rw [IntWalk.i64_in _ (by omega)]; omega
      have hpos : (0 : Int) < ((k + 1 : Nat) : Int) := by omega
      have hcs : compN l (k + 1) = if l[k]? = some 10 then k + 1 else compN l k := rfl
      by_cases hbc : b = 10
      · subst hbc
        rw [if_pos hb] at hcs
        have e : compB l = piece l 0 (k + 1) := by unfold compB; rw [hc, hcs]; rfl
        have Hc := Lib.hid hc; clear hc
        have E := Lib.hid e; clear e
        have Hb := Lib.hid hb; clear hb
        have Hcs := Lib.hid hcs; clear hcs
        go_wp2_with fail
        go_ret
        exact ⟨by rw [E.out]; rfl, hbel⟩
      · have hbi : ((b.toNat : Int) == 10) = false := u8_int (c := 10) hbc
        rw [if_neg (by rw [hb]; intro e; injection e with e; exact hbc e)] at hcs
        have Hc := Lib.hid hc; clear hc
        have Hb := Lib.hid hb; clear hb
        have Hbc := Lib.hid hbc; clear hbc
        have Hcs := Lib.hid hcs; clear hcs
        go_wp2_with fail
        go_roundw
        case measure => simp [intOf]
        case rel => exact ⟨k, by omega, by first | rfl | go_num, Hc.out.trans Hcs.out, hbel⟩

set_option maxRecDepth 100000 in
set_option maxHeartbeats 1000000 in
theorem lastLine_any (l : List UInt8) (w : World) (hs : l.length ≤ 2000000) (hne : 1 ≤ l.length) :
    Calls Tryz.prog 19 #[.string ⟨l.toArray⟩] w fun e w' => e = .returned (.string ⟨(lastB l).toArray⟩) ∧ Below w.heap.size w w' := by
  have hsz : (ByteArray.mk l.toArray).size = l.length := rfl
  have hw0 : IntKind.i64.wrap ((l.length : Int) - 2) = (l.length : Int) - 2 := IntWalk.i64_in _ (by omega)
  go_enter Tryz.func19, Tryz.ntmps19
  go_wp2_with fail
  go_loopw [3] (fun i wr => ∃ k : Nat, k ≤ l.length - 1 ∧ i = .int .i64 ((k : Int) - 1) ∧ compN l (l.length - 1) = compN l k ∧ Below w.heap.size w wr) (fun i _ => (intOf i + 1).toNat)
  case atStart => exact ⟨l.length - 1, Nat.le_refl _, by congr 1; omega, rfl, Below.refl _ _⟩
  case round =>
    obtain ⟨k, hk, rfl, hc, hbel⟩ := hrel
    cases k with
    | zero =>
      have e : lastB l = l := by unfold lastB; rw [hc]; rfl
      have hng : ¬ (0 : Int) ≤ ((0 : Nat) : Int) - 1 := by omega
      have Hc := Lib.hid hc; clear hc
      have E := Lib.hid e; clear e
      go_wp2_with fail
      go_ret
      exact ⟨by rw [E.out]; rfl, hbel⟩
    | succ k =>
      rw [show ((k + 1 : Nat) : Int) - 1 = k by omega]
      have hb : l[k]? = some l[k] := List.getElem?_eq_getElem (by omega)
      generalize l[k] = b at hb
      have hg := str_get l k b hb
      have hx := extract_str l (k + 1) l.length
      have hw : IntKind.i64.wrap ((k : Int) - 1) = (k : Int) - 1 := IntWalk.i64_in _ (by omega)
      have hcs : compN l (k + 1) = if l[k]? = some 10 then k + 1 else compN l k := rfl
      by_cases hbc : b = 10
      · subst hbc
        rw [if_pos hb] at hcs
        have e : lastB l = piece l (k + 1) l.length := by unfold lastB; rw [hc, hcs, piece_all]
        have Hc := Lib.hid hc; clear hc
        have E := Lib.hid e; clear e
        have Hb := Lib.hid hb; clear hb
        have Hcs := Lib.hid hcs; clear hcs
        go_wp2_with fail
        go_ret
        exact ⟨by rw [E.out]; rfl, hbel⟩
      · have hbi : ((b.toNat : Int) == 10) = false := u8_int (c := 10) hbc
        rw [if_neg (by rw [hb]; intro e; injection e with e; exact hbc e)] at hcs
        have Hc := Lib.hid hc; clear hc
        have Hb := Lib.hid hb; clear hb
        have Hbc := Lib.hid hbc; clear hbc
        have Hcs := Lib.hid hcs; clear hcs
        go_wp2_with fail
        go_roundw
        case measure => simp [intOf]
        case rel => exact ⟨k, by omega, by first | rfl | go_num, Hc.out.trans Hcs.out, hbel⟩
end Go.Proofs.YtipgpafgampfbaaGreatDoor

namespace Go.Proofs.YtipgpafgampfbaaGreatDoor
open Go

theorem compN_pre (a r : List UInt8) : ∀ i, i ≤ a.length → compN (a ++ r) i = compN a i
  | 0, _ => rfl
  | i + 1, h => by
    have ih := compN_pre a r i (by omega)
    show (if (a ++ r)[i]? = some 10 then i + 1 else compN (a ++ r) i) = if a[i]? = some 10 then i + 1 else compN a i
    rw [List.getElem?_append_left (by omega), ih]
theorem compN_gap (a r : List UInt8) : ∀ j, j ≤ r.length → (10 : UInt8) ∉ r.take j → compN (a ++ r) (a.length + j) = compN a a.length
  | 0, _, _ => compN_pre a r _ (Nat.le_refl _)
  | j + 1, hj, h => by
    have hr : r[j]? = some r[j] := List.getElem?_eq_getElem (by omega)
    rw [List.take_add_one, hr, Option.toList_some, List.mem_append, not_or] at h
    have ih := compN_gap a r j (by omega) h.1
    show (if (a ++ r)[a.length + j]? = some 10 then a.length + j + 1 else compN (a ++ r) (a.length + j)) = _
    rw [List.getElem?_append_right (by omega), Nat.add_sub_cancel_left, hr, if_neg, ih]
    intro e
    injection e with e
    exact h.2 (by simp [e])
theorem compN_end {a : List UInt8} (h : a = [] ∨ a.getLast? = some 10) : compN a a.length = a.length := by
  rcases h with rfl | h
  · rfl
  · obtain ⟨b, rfl⟩ : ∃ b, a = b ++ [10] := by
      rcases List.eq_nil_or_concat a with rfl | ⟨b, c, rfl⟩
      · simp at h
      · simp at h; exact ⟨b, by simp [h]⟩
    rw [List.length_append]
    show (if (b ++ [10])[b.length]? = some 10 then b.length + 1 else _) = _
    rw [if_pos (by simp)]; rfl
/-- The lines of a text and what stands behind the last newline. -/
theorem cut_join (c : UInt8) : ∀ l : List UInt8, ∃ ls r, cut c l = ls ++ [r] ∧ l = ls.flatMap (· ++ [c]) ++ r ∧ (∀ x ∈ ls, c ∉ x) ∧ c ∉ r := fun l => by
  have hne := cut_ne c l
  obtain ⟨ls, r, h⟩ : ∃ ls r, cut c l = ls ++ [r] := by
    rcases List.eq_nil_or_concat (cut c l) with e | ⟨b, x, e⟩
    · exact absurd e hne
    · exact ⟨b, x, by simpa using e⟩
  have hm : ∀ x ∈ cut c l, c ∉ x := fun x hx => cut_mem hx
  rw [h] at hm
  refine ⟨ls, r, h, ?_, fun x hx => hm x (by simp [hx]), hm r (by simp)⟩
  clear hm hne
  induction l generalizing ls r with
  | nil =>
    rw [show cut c [] = [[]] from rfl] at h
    cases ls with
    | nil => simp at h; subst h; rfl
    | cons a t => simp at h
  | cons b l ih =>
    have hne := cut_ne c l
    unfold cut at h
    by_cases hb : b = c
    · rw [if_pos hb] at h
      cases ls with
      | nil =>
        simp at h
        exact absurd h.2 hne
      | cons a t =>
        rw [List.cons_append] at h
        injection h with h1 h2
        subst h1 hb
        rw [ih t r h2]
        simp
    · rw [if_neg hb] at h
      cases hc : cut c l with
      | nil => exact absurd hc hne
      | cons x t =>
        rw [hc] at h
        simp only at h
        cases ls with
        | nil =>
          simp at h
          have := ih [] x (by rw [hc, h.2]; rfl)
          rw [← h.1, this]; simp
        | cons a t' =>
          rw [List.cons_append] at h
          injection h with h1 h2
          have := ih (x :: t') r (by rw [hc, h2]; rfl)
          rw [← h1]
          conv => lhs; rw [this]
          simp
theorem flat_ends (ls : List Word) : ls.flatMap (· ++ [10]) = [] ∨ (ls.flatMap (· ++ [(10 : UInt8)])).getLast? = some 10 := by
  rcases List.eq_nil_or_concat ls with rfl | ⟨b, x, rfl⟩
  · exact .inl rfl
  · right
    rw [List.concat_eq_append, List.flatMap_append, List.flatMap_cons, List.flatMap_nil, List.append_nil, ← List.append_assoc]
    simp
theorem comp_eq (l : List UInt8) : ∃ ls r, cut 10 l = ls ++ [r] ∧ compB l = ls.flatMap (· ++ [10]) ∧ ∀ x ∈ ls, (10 : UInt8) ∉ x := by
  obtain ⟨ls, r, h1, h2, h3, h4⟩ := cut_join 10 l
  refine ⟨ls, r, h1, ?_, h3⟩
  obtain ⟨F, hF⟩ : ∃ F, ls.flatMap (· ++ [(10 : UInt8)]) = F := ⟨_, rfl⟩
  have he := flat_ends ls
  rw [hF] at h2 he ⊢
  unfold compB
  rw [h2, List.length_append, compN_gap F r r.length (Nat.le_refl _) (by rw [List.take_length]; exact h4), compN_end he, List.take_left]
theorem comp_le (l : List UInt8) : (compB l).length ≤ l.length := by unfold compB; rw [List.length_take]; omega
/-- What a complete script and some lines more return. -/
theorem exe_comp (l : List UInt8) : ∃ (s : St) (O : List UInt8), (O = [] ∨ O.getLast? = some 10) ∧ runB l = O ++ endB s.1.length ∧
    ∀ rs : List Word, (∀ x ∈ rs, (10 : UInt8) ∉ x) → (compB l ++ rs.flatMap (· ++ [10])).length ≤ 500 →
      exeB (compB l ++ rs.flatMap (· ++ [10])) = O ++ ((runL (s, []) rs).2 ++ endB (runL (s, []) rs).1.1.length) := by
  obtain ⟨ls, r, h1, h2, h3⟩ := comp_eq l
  refine ⟨(runL (st0, []) ls).1, (runL (st0, []) ls).2, runL_ends _ ls (.inl rfl), ?_, fun rs hr hl => ?_⟩
  · unfold runB
    rw [h1, List.dropLast_concat]
  · unfold exeB runB
    rw [if_neg (by omega), h2, cut_more _ _ h3, cut_lines _ hr, ← List.append_assoc, List.dropLast_concat, runL_app]
    rw [show runL (st0, []) ls = ((runL (st0, []) ls).1, (runL (st0, []) ls).2) from rfl, runL_out]
    simp
theorem exe_rest {l : List UInt8} (h : ¬ 500 < l.length) : exeB (compB l) = exeB l := by
  obtain ⟨s, O, _, h1, h2⟩ := exe_comp l
  have hc := comp_le l
  have h3 := h2 [] (by simp) (by simp; omega)
  rw [List.flatMap_nil, List.append_nil] at h3
  rw [h3, show exeB l = runB l by unfold exeB; rw [if_neg h], h1]
  rfl
theorem last_eq {O : List UInt8} (h : O = [] ∨ O.getLast? = some 10) (n : Nat) : lastB (O ++ endB n) = endB n := by
  have h10 : (10 : UInt8) ∉ oAnts ++ Lib.itoa (n : Int) := by
    rw [List.mem_append, not_or]
    exact ⟨by decide, itoa_no (by decide)⟩
  have e : endB n = (oAnts ++ Lib.itoa (n : Int)) ++ [10] := by unfold endB; simp
  rw [e]
  obtain ⟨y, hy⟩ : ∃ y, oAnts ++ Lib.itoa (n : Int) = y := ⟨_, rfl⟩
  rw [hy] at h10 ⊢
  unfold lastB
  have e1 : (O ++ (y ++ [(10 : UInt8)])).length - 1 = O.length + y.length := by rw [List.length_append, List.length_append, List.length_singleton]; omega
  rw [e1, compN_gap O (y ++ [10]) y.length (by simp) (by rw [List.take_left]; exact h10), compN_end h, List.drop_left]
def wZzz : Word := [122, 122, 122]
def wCell4 : Word := [99, 101, 108, 108, 32, 52, 32, 48, 32, 49]
theorem line_zzz (s : St) : lineW s (cut 32 wZzz) = (s, oWhat) := by
  rw [show cut 32 wZzz = [wZzz] by decide]
  show lineR s wZzz [] = _
  unfold lineR
  rw [if_neg (by decide)]
theorem line_cell4 (s : St) : lineW s (cut 32 wCell4) = (s, oNo) := by
  rw [show cut 32 wCell4 = [wCell, [52], [48], [49]] by decide]
  show lineR s wCell [[52], [48], [49]] = _
  unfold lineR
  rw [if_pos (by decide), if_neg (by decide), if_pos rfl]
  simp only [List.getD_cons_zero, List.getD_cons_succ]
  unfold cellR
  rw [if_neg (by decide)]
theorem line_dirty (s : St) : lineW s (cut 32 wDirty) = (s, if arrV s.1 then dirtyB s else oNo) := by
  rw [show cut 32 wDirty = [wDirty] by decide]
  show lineR s wDirty [] = _
  rw [lineR_ask (by decide) (by decide) (by decide)]
  have e : askB s wDirty [] = dirtyB s := by
    unfold askB
    rw [if_neg (by decide), if_neg (by decide), if_neg (by decide), if_pos rfl]
  rw [e]
end Go.Proofs.YtipgpafgampfbaaGreatDoor

namespace Go.Proofs.YtipgpafgampfbaaGreatDoor
open Go

theorem exe_more (l : List UInt8) : ∃ (s : St) (O : List UInt8), s.1.length ≤ 7 ∧ O.length ≤ 600 * l.length ∧ (O = [] ∨ O.getLast? = some 10) ∧
    ∀ rs : List Word, (∀ x ∈ rs, (10 : UInt8) ∉ x) → (compB l ++ rs.flatMap (· ++ [10])).length ≤ 500 →
      exeB (compB l ++ rs.flatMap (· ++ [10])) = O ++ ((runL (s, []) rs).2 ++ endB (runL (s, []) rs).1.1.length) := by
  obtain ⟨ls, r, h1, h2, h3⟩ := comp_eq l
  have hn : ls.length ≤ l.length := by
    have := cut_len 10 l
    rw [h1, List.length_append, List.length_singleton] at this
    have := List.count_le_length (a := (10 : UInt8)) (l := l)
    omega
  have hO := runL_small (st0, []) ls
  refine ⟨(runL (st0, []) ls).1, (runL (st0, []) ls).2, (runL_ok (r := (st0, [])) st0_ok ls).len, ?_, runL_ends _ ls (.inl rfl), fun rs hr hl => ?_⟩
  · simp only [List.length_nil, Nat.zero_add] at hO
    have := Nat.mul_le_mul_left 600 hn
    omega
  · unfold exeB runB
    rw [if_neg (by omega), h2, cut_more _ _ h3, cut_lines _ hr, ← List.append_assoc, List.dropLast_concat, runL_app]
    rw [show runL (st0, []) ls = ((runL (st0, []) ls).1, (runL (st0, []) ls).2) from rfl, runL_out]
    simp
/-- A line of words that keeps the state. -/
theorem law_keep (l : List UInt8) (hl : l.length ≤ 3000) (t : Word) (o : St → Word) (ht : (10 : UInt8) ∉ t) (hk : ∀ s, lineW s (cut 32 t) = (s, o s)) :
    ∃ (O D : List UInt8) (n : Nat), n ≤ 7 ∧ O.length ≤ 1800000 ∧ (∃ s, D = o s) ∧ ((compB l).length ≤ 500 → exeB (compB l) = O ++ endB n) ∧ lastB (O ++ endB n) = endB n ∧
      ((compB l ++ (t ++ [10])).length ≤ 500 → exeB (compB l ++ (t ++ [10])) = (O ++ D) ++ endB n) ∧
      ((compB l ++ ((t ++ [10]) ++ (t ++ [10]))).length ≤ 500 → exeB (compB l ++ ((t ++ [10]) ++ (t ++ [10]))) = ((O ++ D) ++ D) ++ endB n) := by
  obtain ⟨s, O, h1, h2, h3, h4⟩ := exe_more l
  have r1 : runL (s, []) [t] = (s, o s) := by
    show runL ((lineW s (cut 32 t)).1, [] ++ (lineW s (cut 32 t)).2) [] = _
    rw [hk]; rfl
  have r2 : runL (s, []) [t, t] = (s, o s ++ o s) := by
    rw [show [t, t] = [t] ++ [t] from rfl, runL_snoc, r1, hk]
  refine ⟨O, o s, s.1.length, h1, by omega, ⟨s, rfl⟩, fun h => ?_, last_eq h3 _, fun h => ?_, fun h => ?_⟩
  · have h5 := h4 [] (by simp) (by simpa using h)
    rw [List.flatMap_nil, List.append_nil] at h5
    exact h5
  · have h5 := h4 [t] (by simpa using ht) (by simpa using h)
    rw [r1, List.flatMap_cons, List.flatMap_nil, List.append_nil] at h5
    rw [h5, List.append_assoc]
  · have h5 := h4 [t, t] (by simpa using ht) (by simpa using h)
    rw [r2, List.flatMap_cons, List.flatMap_cons, List.flatMap_nil, List.append_nil] at h5
    rw [h5]
    simp
theorem exe_none : exeB [] = endB 0 := by decide +kernel
theorem exe_ne (l : List UInt8) : 1 ≤ (exeB l).length := by
  unfold exeB
  split
  · decide
  · unfold runB endB
    simp [oAnts]
    omega
theorem exe_big {l : List UInt8} (h : 500 < l.length) : exeB l = oLong := if_pos h
theorem exe_small (l : List UInt8) (hl : l.length ≤ 3000) : (exeB l).length ≤ 1810000 := by
  unfold exeB
  split
  · decide
  · unfold runB
    have h1 := runL_small (st0, []) (cut 10 l).dropLast
    have h2 := (runL_ok (r := (st0, [])) st0_ok (cut 10 l).dropLast).len
    have h3 := endB_small _ (show (runL (st0, []) (cut 10 l).dropLast).1.1.length ≤ 1000 by omega)
    have h4 : (cut 10 l).dropLast.length ≤ l.length := by
      rw [List.length_dropLast, cut_len]
      have := List.count_le_length (a := (10 : UInt8)) (l := l)
      omega
    have h5 := Nat.mul_le_mul_left 600 h4
    simp only [List.length_nil, Nat.zero_add] at h1
    rw [List.length_append]
    omega
end Go.Proofs.YtipgpafgampfbaaGreatDoor

namespace Go.Proofs.YtipgpafgampfbaaGreatDoor
open Go.RowKit
theorem run_headS (l : List UInt8) (k : Nat) (hk : k ≤ l.length) (w : World) :
    (Instr.sliceAt 9 (.string ⟨l.toArray⟩) none (some (.int .i64 k)) none).run Tryz.prog w = .ok (.string ⟨(l.take k).toArray⟩) w := by
  have hsz : (ByteArray.mk l.toArray).size = l.length := rfl
  have hx := extract_str l 0 k
  have hp : piece l 0 k = l.take k := by unfold piece; rw [List.drop_zero]; rfl
  rw [hp] at hx
  simp [go_sem, Tryz.underlying9, hsz, hx]
  intro h
  exact absurd h (by omega)
theorem ex_addS3 {P : Program} {ρ : Operand → Value} {o : Oper} {w : World} {T : TypeId} {x y : Operand} {a b : List UInt8} (ho : o.op = .binOp .add T x y T) (_hT : P.underlying T = some .string) (hx : ρ x = .string ⟨a.toArray⟩) (hy : ρ y = .string ⟨b.toArray⟩) (hl : a.length + b.length ≤ 1000000000) :
    (execOp ρ o).run P w = .ok (.value (.string ⟨(a ++ b).toArray⟩)) w := by
  have h1 : ¬ 9223372036854775807 < a.length + b.length := by omega
  simp [execOp, ho, hx, hy, go_sem, h1, str_app]
end Go.Proofs.YtipgpafgampfbaaGreatDoor
