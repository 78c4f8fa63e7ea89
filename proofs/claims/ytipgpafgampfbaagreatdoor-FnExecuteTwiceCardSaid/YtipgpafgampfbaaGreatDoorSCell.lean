/- 'spec.l51Cell', 'spec.l51Known'. -/
import Derived.Test.YtipgpafgampfbaaGreatDoorAskS
import Derived.Test.YtipgpafgampfbaaGreatDoorCleanN
namespace Go.Proofs.YtipgpafgampfbaaGreatDoor
open Go.RowKit

set_option maxRecDepth 100000 in
set_option maxHeartbeats 1000000 in
theorem l51Cell_no (A : Option Addr) (n cap : Nat) (x y v : Int) (w : World) (hno : cellOk x y v = false) :
    Calls Tryz.prog 102 #[.slice A n cap, .int .i64 x, .int .i64 y, .int .i64 v] w fun e w' => e = .returned (.tuple #[.slice A n cap, .bool false]) ∧ Below w.heap.size w w' := by
  unfold cellOk at hno
  obtain ⟨p, hp⟩ : ∃ p, inR x 0 3 = p := ⟨_, rfl⟩
  obtain ⟨q, hq⟩ : ∃ q, inR y 0 3 = q := ⟨_, rfl⟩
  obtain ⟨r, hr⟩ : ∃ r, inR v (-100000) 100000 = r := ⟨_, rfl⟩
  rw [hp, hq, hr] at hno
  have Hp := Lib.hid hp; clear hp
  have Hq := Lib.hid hq; clear hq
  have Hr := Lib.hid hr; clear hr
  cases p
  · go_enter Tryz.func102, Tryz.ntmps102
    go_wp2_with fail
    refine (l6In_any x 0 3 _).mono ?_
    rintro e w2 ⟨rfl, rfl⟩
    rw [Hp.out]
    go_wp2_with fail
    go_ret2
    exact ⟨rfl, Below.refl _ _⟩
  · cases q
    · go_enter Tryz.func102, Tryz.ntmps102
      go_wp2_with fail
      refine (l6In_any x 0 3 _).mono ?_
      rintro e w2 ⟨rfl, rfl⟩
      rw [Hp.out]
      go_wp2_with fail
      refine (l6In_any y 0 3 _).mono ?_
      rintro e w2 ⟨rfl, rfl⟩
      rw [Hq.out]
      go_wp2_with fail
      go_ret2
      exact ⟨rfl, Below.refl _ _⟩
    · cases r
      · go_enter Tryz.func102, Tryz.ntmps102
        go_wp2_with fail
        refine (l6In_any x 0 3 _).mono ?_
        rintro e w2 ⟨rfl, rfl⟩
        rw [Hp.out]
        go_wp2_with fail
        refine (l6In_any y 0 3 _).mono ?_
        rintro e w2 ⟨rfl, rfl⟩
        rw [Hq.out]
        go_wp2_with fail
        refine (l6In_any v (-100000) 100000 _).mono ?_
        rintro e w2 ⟨rfl, rfl⟩
        rw [Hr.out]
        go_wp2_with fail
        go_ret2
        exact ⟨rfl, Below.refl _ _⟩
      · cases hno

set_option maxRecDepth 100000 in
set_option maxHeartbeats 1000000 in
theorem l51Cell_yes (A : Option Addr) (cap : Nat) (s : List Int) (x y v : Int) (w : World) (hl : s.length = 16) (hyes : cellOk x y v = true) (hr : Rd w w.heap.size A (s.map (Value.int .i64))) :
    Calls Tryz.prog 102 #[.slice A 16 cap, .int .i64 x, .int .i64 y, .int .i64 v] w fun e w' => ∃ A' c', e = .returned (.tuple #[.slice A' 16 c', .bool true]) ∧ w'.ownsRow w.heap.size 3 1 (.slice A' 16 c') 16 ((s.set (4 * y + x).toNat v).map (Value.int .i64)) ∧ Below w.heap.size w w' := by
  obtain ⟨i0, hi, hz0, hz1, hz2⟩ := info_parts intInfo
  unfold cellOk at hyes
  rw [Bool.and_eq_true, Bool.and_eq_true] at hyes
  obtain ⟨hp, hq, hv⟩ := hyes
  have hx := inR_iff.1 hp
  have hy := inR_iff.1 hq
  have hcell : cellI x y = 4 * y + x := by unfold cellI; omega
  obtain ⟨k, hk⟩ : ∃ k : Nat, (4 * y + x).toNat = k := ⟨_, rfl⟩
  have hkI : 4 * y + x = k := by omega
  have hk16 : k < 16 := by omega
  rw [hk]
  obtain ⟨bM, oM, rfl, hbM⟩ := rd_some hr (by rw [List.length_map, hl]; omega)
  have rE := Row.new w 3 []
  have oE := rE.own (base := w.heap.size) (n := 0) (size := 1) (Nat.le_refl _) rfl (by decide)
  have hrE := hr.ext (bA1 (o := .cells #[] 3))
  have hcs : ∀ j u, (s.map (Value.int .i64))[j]? = some u → (w.alloc (.cells #[] 3)).cell? ((⟨bM, oM, none⟩ : Addr).add j) = some u := fun j u hu => rd_add hrE j u hu
  have hll : (s.map (Value.int .i64)).length = 16 * 1 := by rw [List.length_map, hl]
  have hone : ∀ u ∈ s.map (Value.int .i64), u.oneCell' = true := fun u hu => by
    obtain ⟨x, _, rfl⟩ := List.mem_map.1 hu
    rfl
  have Hp := Lib.hid hp; clear hp
  have Hq := Lib.hid hq; clear hq
  have Hv := Lib.hid hv; clear hv
  have Hl := Lib.hid hl; clear hl
  have Hk := Lib.hid hk; clear hk
  clear rE hrE hr
  go_enter Tryz.func102, Tryz.ntmps102
  go_wp2_with fail
  refine (l6In_any x 0 3 _).mono ?_
  rintro e w2 ⟨rfl, rfl⟩
  rw [Hp.out]
  go_wp2_with fail
  refine (l6In_any y 0 3 _).mono ?_
  rintro e w2 ⟨rfl, rfl⟩
  rw [Hq.out]
  go_wp2_with fail
  refine (l6In_any v (-100000) 100000 _).mono ?_
  rintro e w2 ⟨rfl, rfl⟩
  rw [Hv.out]
  go_wp2_with (at_builtin; refine wpList_append_own _ rfl _ _ 32 rfl w.heap.size 3 i0 (.int .i64 0) 1 8 (by kernel_rfl) hi hz0 hz1 hz2 rfl (by decide) _ 0 _ rfl oE ⟨bM, oM, none⟩ 16 cap _ rfl hll hcs hone (by unfold maxLen; omega) (by omega) (by simp) ?_; intro v' w7 hown' hgrow _)
  have B7 := ((Below.refl w.heap.size w).alloc (Nat.le_refl _) (.cells #[] 3)).grown hgrow (by simp) fun j hj => (own_lt oE hj).1
  rw [Nat.zero_add, List.nil_append] at hown'
  obtain ⟨z, hz⟩ : ∃ z, (s.map (Value.int .i64))[k]? = some z := ⟨_, List.getElem?_eq_getElem (by rw [List.length_map, Hl.out]; exact hk16)⟩
  obtain ⟨g, cap', rfl⟩ := ownsRow_succ hown'
  obtain ⟨_, e1, hBg, hob, hc0, hf0, hset⟩ := own_set hown' hz
  cases e1
  have oS := hset (.int .i64 v)
  rw [← List.map_set] at oS
  have bsx := B7.setCell (p := ⟨g, k, none⟩) hBg (.int .i64 v)
  have hat := l21At_any x y w7
  rw [hcell, hkI] at hat
  have OS := Lib.hid oS; clear oS
  have Bsx := Lib.hid bsx; clear bsx
  have Hz := Lib.hid hz; clear hz
  have Hat := Lib.hid hat; clear hat
  clear hset hown' hgrow oE hcs
  go_wp2_with fail
  refine Hat.out.mono ?_
  rintro e w8 ⟨rfl, rfl⟩
  clear Hat
  go_wp2_with fail
  go_ret2
  exact ⟨_, _, rfl, OS.out, Bsx.out⟩

/-- What l51Known answers of words. -/
def knownW (h : Word) (m : Nat) : Bool :=
  if h = wBases ∨ h = wCover ∨ h = wBeam ∨ h = wDirty then decide (m = 0) else if h = wPoint then decide (m = 2) else if h = wClean then decide (m = 1) else false
theorem known_ask {h : Word} {m : Nat} (hk : knownW h m = true) : wantL h = some m ∧ h ≠ wAnt ∧ h ≠ wCell ∧ (h = wBases ∨ h = wCover ∨ h = wBeam ∨ h = wDirty ∨ h = wPoint ∨ h = wClean) := by
  unfold knownW at hk
  split at hk
  · rename_i h1
    have hm : m = 0 := by simpa using hk
    subst hm
    rcases h1 with rfl | rfl | rfl | rfl <;> exact ⟨by decide, by decide, by decide, by simp⟩
  · split at hk
    · rename_i h1
      have hm : m = 2 := by simpa using hk
      subst hm h1
      exact ⟨by decide, by decide, by decide, by simp⟩
    · split at hk
      · rename_i h1
        have hm : m = 1 := by simpa using hk
        subst hm h1
        exact ⟨by decide, by decide, by decide, by simp⟩
      · cases hk
theorem known_no {h : Word} {m : Nat} (hk : knownW h m = false) (h1 : ¬ (h = wAnt ∧ m = 2)) (h2 : ¬ (h = wCell ∧ m = 3)) : wantL h ≠ some m := by
  intro hw
  unfold wantL at hw
  unfold knownW at hk
  repeat' split at hw
  all_goals first | (cases hw; done) | skip
  all_goals
    injection hw with hw
    subst hw
    simp_all
    try (revert hk; decide)
set_option maxRecDepth 100000 in
set_option maxHeartbeats 1000000 in
theorem l51Known_any (A : Option Addr) (n m cap : Nat) (h : Word) (t : List Word) (w : World) (hn : n = m + 1) (hm : t.length = m) (hb : m ≤ 1000000) (hr : Rd w w.heap.size A (strs (h :: t))) :
    Calls Tryz.prog 103 #[.slice A n cap] w fun e w' => e = .returned (.bool (knownW h m)) ∧ Below w.heap.size w w' := by
  obtain ⟨b, off, rfl, hb0, hc0⟩ := hr 0 _ (strs_get (ls := h :: t) (k := 0) (by simp))
  simp only [List.getD_cons_zero, Nat.add_zero] at hc0
  have hn1 : (0 : Int) < n := by omega
  have e1 : ((n : Int) == 1) = decide (m = 0) := by
    by_cases h0 : m = 0
    · rw [decide_eq_true h0, beq_iff_eq]; omega
    · rw [decide_eq_false h0, beq_eq_false_iff_ne]; omega
  have e2 : ((n : Int) == 2) = decide (m = 1) := by
    by_cases h0 : m = 1
    · rw [decide_eq_true h0, beq_iff_eq]; omega
    · rw [decide_eq_false h0, beq_eq_false_iff_ne]; omega
  have e3 : ((n : Int) == 3) = decide (m = 2) := by
    by_cases h0 : m = 2
    · rw [decide_eq_true h0, beq_iff_eq]; omega
    · rw [decide_eq_false h0, beq_eq_false_iff_ne]; omega
  have Hm := Lib.hid hm; clear hm
  have Hn := Lib.hid hn; clear hn
  have E1 := Lib.hid e1; clear e1
  have E2 := Lib.hid e2; clear e2
  have E3 := Lib.hid e3; clear e3
  clear hr
  by_cases p0 : h = wBases
  · have eK : knownW h m = decide (m = 0) := by unfold knownW; rw [if_pos (.inl p0)]
    have q0 : (h == [98, 97, 115, 101, 115]) = true := by rw [p0]; decide
    rw [eK, ← E1.out]
    clear p0 eK
    go_enter Tryz.func103, Tryz.ntmps103
    go_wp2_with fail
    go_ret
    exact ⟨rfl, Below.refl _ _⟩
  · have q0 : (h == [98, 97, 115, 101, 115]) = false := beq_eq_false_iff_ne.2 p0
    by_cases p1 : h = wCover
    · have eK : knownW h m = decide (m = 0) := by unfold knownW; rw [if_pos (.inr (.inl p1))]
      have q1 : (h == [99, 111, 118, 101, 114]) = true := by rw [p1]; decide
      rw [eK, ← E1.out]
      clear p0 p1 eK
      go_enter Tryz.func103, Tryz.ntmps103
      go_wp2_with fail
      go_ret
      exact ⟨rfl, Below.refl _ _⟩
    have q1 : (h == [99, 111, 118, 101, 114]) = false := beq_eq_false_iff_ne.2 p1
    by_cases p2 : h = wBeam
    · have eK : knownW h m = decide (m = 0) := by unfold knownW; rw [if_pos (.inr (.inr (.inl p2)))]
      have q2 : (h == [98, 101, 97, 109]) = true := by rw [p2]; decide
      rw [eK, ← E1.out]
      clear p0 p1 p2 eK
      go_enter Tryz.func103, Tryz.ntmps103
      go_wp2_with fail
      go_ret
      exact ⟨rfl, Below.refl _ _⟩
    have q2 : (h == [98, 101, 97, 109]) = false := beq_eq_false_iff_ne.2 p2
    by_cases p3 : h = wDirty
    · have eK : knownW h m = decide (m = 0) := by unfold knownW; rw [if_pos (.inr (.inr (.inr p3)))]
      have q3 : (h == [100, 105, 114, 116, 121]) = true := by rw [p3]; decide
      rw [eK, ← E1.out]
      clear p0 p1 p2 p3 eK
      go_enter Tryz.func103, Tryz.ntmps103
      go_wp2_with fail
      go_ret
      exact ⟨rfl, Below.refl _ _⟩
    have q3 : (h == [100, 105, 114, 116, 121]) = false := beq_eq_false_iff_ne.2 p3
    have hno : ¬ (h = wBases ∨ h = wCover ∨ h = wBeam ∨ h = wDirty) := fun hh => hh.elim p0 fun hh => hh.elim p1 fun hh => hh.elim p2 p3
    by_cases p4 : h = wPoint
    · have eK : knownW h m = decide (m = 2) := by unfold knownW; rw [if_neg hno, if_pos p4]
      have q4 : (h == [112, 111, 105, 110, 116]) = true := by rw [p4]; decide
      rw [eK, ← E3.out]
      clear hno p0 p1 p2 p3 p4 eK
      go_enter Tryz.func103, Tryz.ntmps103
      go_wp2_with fail
      go_ret
      exact ⟨rfl, Below.refl _ _⟩
    have q4 : (h == [112, 111, 105, 110, 116]) = false := beq_eq_false_iff_ne.2 p4
    by_cases p5 : h = wClean
    · have eK : knownW h m = decide (m = 1) := by unfold knownW; rw [if_neg hno, if_neg p4, if_pos p5]
      have q5 : (h == [99, 108, 101, 97, 110]) = true := by rw [p5]; decide
      rw [eK, ← E2.out]
      clear hno p0 p1 p2 p3 p4 p5 eK
      go_enter Tryz.func103, Tryz.ntmps103
      go_wp2_with fail
      go_ret
      exact ⟨rfl, Below.refl _ _⟩
    have q5 : (h == [99, 108, 101, 97, 110]) = false := beq_eq_false_iff_ne.2 p5
    have eK : knownW h m = false := by unfold knownW; rw [if_neg hno, if_neg p4, if_neg p5]
    rw [eK]
    clear hno p0 p1 p2 p3 p4 p5 eK
    go_enter Tryz.func103, Tryz.ntmps103
    go_wp2_with fail
    go_ret
    exact ⟨rfl, Below.refl _ _⟩
end Go.Proofs.YtipgpafgampfbaaGreatDoor
