/- Drawn observations of arrays. -/
import Derived.Test.YtfandpgjlahnpaaDrawA
import Derived.Test.YtfandpgjlahnpaaDrawS
import Derived.Test.YtfandpgjlahnpaaDrawV
import Derived.Test.YtfandpgjlahnpaaObsS
import Derived.Test.YtfandpgjlahnpaaLawObs
namespace Go.Proofs.Ytfandpgjlahnpaa
open Go.RowKit

set_option maxRecDepth 100000 in
set_option maxHeartbeats 1000000 in
theorem l93Seen_any (R : Nat) (p : Int) (w : World) (hp : 0 ≤ p ∧ p ≤ 100000) (h : IsRd w R p) :
    Calls Try.prog 110 #[.pointer (some ⟨R, 0, none⟩)] w fun e w' =>
      ∃ (A1 : Option Addr) (k1 c1 : Nat) (ants : List (Int × Int)) (A2 : Option Addr) (k2 c2 : Nat) (seen : List (Int × Int)), e = .returned (.tuple #[.slice A1 k1 c1, .slice A2 k2 c2]) ∧
        ants.length = k1 ∧ k1 ≤ 7 ∧ k1 ≤ c1 ∧ Rd w' w'.heap.size A1 (ants.flatMap pairCells) ∧ seen.length = k2 ∧ k2 ≤ 22 ∧ Rd w' w'.heap.size A2 (seen.flatMap pairCells) ∧ w.grownBy w' (some R) := by
  obtain ⟨i0, hi, hz0, hz1, hz2⟩ := info_parts gaussInfo
  go_enter Try.func110, Try.ntmps110
  go_wp2_with fail
  refine (l91Array_any R p _ (by omega) h).mono ?_
  rintro e w2 ⟨A1, k1, c1, ants, p', rfl, hs, hk1, hkc, hr1, hp1, hrd2, g2⟩
  have hap := hr1.apart hrd2 (pairs_int ants) (by rw [pairCells_len]; omega)
  clear h
  go_wp2_with fail
  refine (l92Sky_any R p' _ (by omega) hrd2).mono ?_
  rintro e w3 ⟨A2, k2, c2, s, p2, rfl, hc, hk2, hr2, hp2, hrd3, g3⟩
  have hr1 := hr1.over g3 hap
  have G3 := grown_trans g2 g3
  have hsw3 := G3.size
  have hR3 := hrd3.lt
  clear g2 g3 hrd2
  have Hs := Lib.hid hs; clear hs
  have Hc := Lib.hid hc; clear hc
  go_wp2_with fail
  refine (sObserveOf_any A1 A2 k1 k2 c1 c2 ants s _ Hs.out Hc.out (by omega) (by omega) hr1 hr2).mono ?_
  rintro e w4 ⟨v, rfl, o4, b4⟩
  obtain ⟨A4, c4, rfl⟩ := own_form o4
  have hr13 := hr1
  have extX := (hr1.below b4).more b4.size; clear hr1; have hr1 := extX; clear extX
  have hrd4 := hrd3.kept b4
  have G4 := grown_trans G3 (below_grown b4 R)
  have hRb : R < w3.heap.size := hR3
  have hs34 := b4.size
  have hr4g : ∀ {g : Nat}, w3.heap.size ≤ g → ∀ b off, A1 = some ⟨b, off, none⟩ → b ≠ g ∨ ants.flatMap pairCells = [] := fun {g} hg b off e => by
    cases hx : ants.flatMap pairCells with
    | nil => exact .inr rfl
    | cons u us =>
      left
      obtain ⟨b', off', e', hb', _⟩ := hr13 0 u (by rw [hx]; rfl)
      rw [e] at e'
      cases e'
      omega
  have Hr4g := Lib.hid (show ∀ (g : Nat), w3.heap.size ≤ g → ∀ b off, A1 = some ⟨b, off, none⟩ → b ≠ g ∨ ants.flatMap pairCells = [] from fun g hg => hr4g hg)
  clear hr4g
  clear hr2 b4 hrd3 G3 hr13
  cases hok : (arrV ants && skyV s)
  · have Hok := Lib.hid hok; clear hok
    have O4 := Lib.hid o4; clear o4
    go_wp2_with fail
    have rn := Row.new w4 31 [.int .i64 1, .int .i64 0]
    have hr5 := hr1.ext (bA1 (o := .cells #[.int .i64 1, .int .i64 0] 31))
    have G5 := grown_trans G4 (World.grownBy_alloc w4 (.cells #[.int .i64 1, .int .i64 0] 31) (some R))
    refine bodyPost_ret (v := .tuple #[.slice A1 k1 c1, .slice (some ⟨w4.heap.size, 0, none⟩) 1 1]) (by simp [results, Try.results110, go_sem]) rfl ⟨A1, k1, c1, ants, _, 1, 1, [(1, 0)], rfl, Hs.out, hk1, hkc, hr5, rfl, by omega, rn.rd, G5⟩
  · obtain ⟨hva, hvs⟩ := Bool.and_eq_true_iff.1 hok
    have han := arrV_len hva
    rw [Hs.out] at han
    have hLp : (obsR ants s).length = (pairsN k1).length := by rw [obsR_yes hva hvs, obsL_len, Hs.out]
    have hL1 : 1 ≤ (obsR ants s).length := by rw [hLp]; exact pairs_pos k1 han.1 han.2
    have hL21 : (obsR ants s).length ≤ 21 := by rw [hLp]; exact pairs21 k1 han.1 han.2
    obtain ⟨L, hL⟩ : ∃ L, (obsR ants s).length = L := ⟨_, rfl⟩
    obtain ⟨S, hS⟩ : ∃ S, obsR ants s = S := ⟨_, rfl⟩
    have hSL : S.length = L := by rw [← hS]; exact hL
    rw [hL, hS] at o4
    rw [hL] at hL1 hL21 ⊢
    clear hLp hL hS hva hvs
    have Hok := Lib.hid hok; clear hok
    have HSL := Lib.hid hSL; clear hSL
    have O4 := Lib.hid o4; clear o4
    go_wp2_with fail
    refine (pick2 R p2 10 _ (by omega) (by omega) hrd4).mono ?_
    rintro e w5 ⟨x, rfl, x0, x10, hrd5, g5⟩
    have o5 := own_over O4.out g5 (fun j hj e => by have := (own_lt O4.out hj).1; injection e with e; omega)
    have hr5 := hr1.over g5 hap
    have G5 := grown_trans G4 g5
    have hs35 := Nat.le_trans hs34 g5.size
    clear hr1 hrd4 g5 O4
    by_cases hx0 : x = 0
    · subst hx0
      have O5 := Lib.hid o5; clear o5
      go_wp2_with fail
      refine (pick2 R (p2 + 1) L _ (by omega) (by omega) hrd5).mono ?_
      rintro e w6 ⟨y, rfl, y0, yL, hrd6, g6⟩
      have o6 := own_over O5.out g6 (fun j hj e => by have := (own_lt O5.out hj).1; injection e with e; omega)
      have hr6 := hr5.over g6 hap
      have G6 := grown_trans G5 g6
      obtain ⟨Y, rfl⟩ : ∃ Y : Nat, y = Y := ⟨y.toNat, by omega⟩
      have hY : Y < L := by omega
      clear g6 hrd5 hr5 O5
      have O6 := Lib.hid o6; clear o6
      go_wp2_with fail
      refine (l91Gauss_any R (p2 + 1 + 1) _ (by omega) hrd6).mono ?_
      rintro e w7 ⟨u, v, rfl, hrd7, g7⟩
      have o7 := own_over O6.out g7 (fun j hj e => by have := (own_lt O6.out hj).1; injection e with e; omega)
      have hr7 := hr6.over g7 hap
      have G7 := grown_trans G6 g7
      clear g7 hrd6 hr6 O6
      obtain ⟨z, hz⟩ : ∃ z, S[Y]? = some z := ⟨_, List.getElem?_eq_getElem (by rw [HSL.out]; exact hY)⟩
      obtain ⟨p0, p1⟩ := pairCells_get S Y z hz
      have hps := pairs_set S Y (u, v) (by rw [HSL.out]; exact hY)
      obtain ⟨g, rfl, hBg, hob, hc0, hf0, hset⟩ := own_set o7 (i := Y * 2) p0
      obtain ⟨_, e, _, _, hc1, hf1, _⟩ := own_set o7 (i := Y * 2 + 1) p1
      cases e
      obtain ⟨_, e, _, _, _, _, hset2⟩ := own_set (hset (.int .i64 u)) (i := Y * 2 + 1) (u := .int .i64 z.2) (by rw [List.getElem?_set_ne (by omega)]; exact p1)
      cases e
      have o8 := hset2 (.int .i64 v)
      rw [show (Value.int .i64 u) = .int .i64 (u, v).1 from rfl, show (Value.int .i64 v) = .int .i64 (u, v).2 from rfl, hps] at o8
      have O8 := Lib.hid o8
      have G8 := grown_far (grown_far G7 (grown_set w7 g (Y * 2) (.int .i64 u)) (fun j e => by cases e; omega)) (grown_set _ g (Y * 2 + 1) (.int .i64 v)) (fun j e => by cases e; omega)
      have ha2 : ∀ b off, A1 = some ⟨b, off, none⟩ → b ≠ g ∨ ants.flatMap pairCells = [] := Hr4g.out g hBg
      have hr8 := (hr7.over (grown_set w7 g (Y * 2) (.int .i64 u)) ha2).over (grown_set _ g (Y * 2 + 1) (.int .i64 v)) ha2
      have hYI : (Y : Int) < L := by omega
      clear hset hset2 o8 o7 hps p0 p1 hz G7 hr7
      go_wp2_with fail
      go_ret2
      exact ⟨A1, k1, c1, ants, _, _, _, S.set Y (u, v), rfl, Hs.out, hk1, hkc, hr8, by rw [List.length_set, HSL.out], by omega, Rd.of_own O8.out, G8⟩
    · have b0 : (x == 0) = false := beq_eq_false_iff_ne.2 hx0
      by_cases hx1 : x = 1
      · subst hx1
        have rn := Row.new w5 31 [.int .i64 0, .int .i64 0]
        have O5 := Lib.hid o5; clear o5
        go_wp2_with (at_builtin; refine wpList_append_own _ rfl _ _ 55 rfl w3.heap.size 31 i0 (.agg #[.int .i64 0, .int .i64 0]) 2 16 (by kernel_rfl) hi hz0 hz1 hz2 rfl (by decide) _ L _ rfl (O5.out.alloc _) ⟨w5.heap.size, 0, none⟩ 1 1 [.int .i64 0, .int .i64 0] rfl rfl (fun j u hj => by rw [← hj, ← rn.cell j]; exact congrArg _ (addr_add _ _)) (by simp [Value.oneCell']) (by unfold maxLen; omega) (by omega) (by simp; omega) ?_; intro v' w7 hown' hgrow _; obtain ⟨g', cap', rfl⟩ := ownsRow_succ hown')
        have hr6 := hr5.ext (bA1 (o := .cells #[.int .i64 0, .int .i64 0] 31))
        have G6 := grown_trans G5 (World.grownBy_alloc w5 (.cells #[.int .i64 0, .int .i64 0] 31) (some R))
        have hr7 : Rd w7 w7.heap.size A1 (ants.flatMap pairCells) := fun i u hu => by
          obtain ⟨b, off, e, hb, hc⟩ := hr6 i u hu
          refine ⟨b, off, e, Nat.lt_of_lt_of_le hb hgrow.size, (World.cell?_of_block (a := ⟨b, off + i, none⟩) (hgrow.block b hb fun he => ?_)).trans hc⟩
          have := (own_lt O5.out he.symm).1
          rcases Hr4g.out b this b off e with h | h
          · exact h rfl
          · rw [h] at hu; simp at hu
        have G7 : w.grownBy w7 (some R) := grown_far G6 hgrow (fun j hj => by have := (own_lt O5.out hj).1; omega)
        have Hown' := Lib.hid hown'; clear hown'
        clear hgrow hr6 G6 rn
        go_wp2_with fail
        go_ret2
        refine ⟨A1, k1, c1, ants, _, _, _, S ++ [(0, 0)], rfl, Hs.out, hk1, hkc, hr7, by simp [HSL.out], by omega, ?_, G7⟩
        rw [List.flatMap_append]
        exact Rd.of_own Hown'.out
      · have b1 : (x == 1) = false := beq_eq_false_iff_ne.2 hx1
        have O5 := Lib.hid o5; clear o5
        go_wp2_with fail
        go_ret2
        exact ⟨A1, k1, c1, ants, _, _, _, S, rfl, Hs.out, hk1, hkc, hr5, HSL.out, by omega, Rd.of_own O5.out, G5⟩

theorem drawObserveGrid_any (A : Option Addr) (n cap : Nat) (bs : List Int) (w : World) (hn : bs.length = n) (hm : n ≤ 9223372036854775807) (hc : n ≤ cap) (hb : BytesOk bs) (hr : Rd w w.heap.size A (bs.map (Value.int .u8))) :
    Calls Try.prog 48 #[.slice A n cap] w fun e w' =>
      ∃ (A1 : Option Addr) (k1 c1 : Nat) (ants : List (Int × Int)) (A2 : Option Addr) (k2 c2 : Nat) (seen : List (Int × Int)), e = .returned (.tuple #[.slice A1 k1 c1, .slice A2 k2 c2]) ∧
        ants.length = k1 ∧ k1 ≤ 7 ∧ k1 ≤ c1 ∧ Rd w' w'.heap.size A1 (ants.flatMap pairCells) ∧ seen.length = k2 ∧ k2 ≤ 22 ∧ Rd w' w'.heap.size A2 (seen.flatMap pairCells) ∧ Below w.heap.size w w' := by
  go_enter Try.func48, Try.ntmps48
  go_wp2_with fail
  refine (l6Open_any A n cap bs w hn hm hc hr).mono ?_
  rintro e w1 ⟨rfl, hR, hb1⟩
  have hrd := isRd_open hn hb hr hR hb1
  clear hR
  go_wp2_with fail
  refine (l93Seen_any _ 0 _ (by omega) hrd).mono ?_
  rintro e w2 ⟨A1, k1, c1, ants, A2, k2, c2, seen, rfl, hs, hk1, hkc, hr1, hq, hk2, hr2, g2⟩
  have B2 : Below w.heap.size w w2 := hb1.grown g2 hb1.size fun j e => by cases e; exact Nat.le_refl _
  go_wp2_with fail
  refine bodyPost_ret (v := .tuple #[.slice A1 k1 c1, .slice A2 k2 c2]) (by simp [results, Try.results48, go_sem]) rfl ⟨A1, k1, c1, ants, A2, k2, c2, seen, rfl, hs, hk1, hkc, hr1, hq, hk2, hr2, B2⟩

theorem drawObserveImage_any (A : Option Addr) (n cap : Nat) (bs : List Int) (w : World) (hn : bs.length = n) (hm : n ≤ 9223372036854775807) (hc : n ≤ cap) (hb : BytesOk bs) (hr : Rd w w.heap.size A (bs.map (Value.int .u8))) :
    Calls Try.prog 64 #[.slice A n cap] w fun e w' =>
      ∃ (A1 : Option Addr) (k1 c1 : Nat) (ants : List (Int × Int)) (A2 : Option Addr) (k2 c2 : Nat) (seen : List (Int × Int)), e = .returned (.tuple #[.slice A1 k1 c1, .slice A2 k2 c2]) ∧
        ants.length = k1 ∧ k1 ≤ 7 ∧ k1 ≤ c1 ∧ Rd w' w'.heap.size A1 (ants.flatMap pairCells) ∧ seen.length = k2 ∧ k2 ≤ 22 ∧ Rd w' w'.heap.size A2 (seen.flatMap pairCells) ∧ Below w.heap.size w w' := by
  go_enter Try.func64, Try.ntmps64
  go_wp2_with fail
  refine (l6Open_any A n cap bs w hn hm hc hr).mono ?_
  rintro e w1 ⟨rfl, hR, hb1⟩
  have hrd := isRd_open hn hb hr hR hb1
  clear hR
  go_wp2_with fail
  refine (l93Seen_any _ 0 _ (by omega) hrd).mono ?_
  rintro e w2 ⟨A1, k1, c1, ants, A2, k2, c2, seen, rfl, hs, hk1, hkc, hr1, hq, hk2, hr2, g2⟩
  have B2 : Below w.heap.size w w2 := hb1.grown g2 hb1.size fun j e => by cases e; exact Nat.le_refl _
  go_wp2_with fail
  refine bodyPost_ret (v := .tuple #[.slice A1 k1 c1, .slice A2 k2 c2]) (by simp [results, Try.results64, go_sem]) rfl ⟨A1, k1, c1, ants, A2, k2, c2, seen, rfl, hs, hk1, hkc, hr1, hq, hk2, hr2, B2⟩
end Go.Proofs.Ytfandpgjlahnpaa
