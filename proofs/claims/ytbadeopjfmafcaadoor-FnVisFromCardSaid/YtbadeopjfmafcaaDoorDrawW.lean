/- The draws of visibilities. -/
import Derived.Test.YtbadeopjfmafcaaDoorDrawF
import Derived.Test.YtbadeopjfmafcaaDoorDrawN
import Derived.Test.YtbadeopjfmafcaaDoorVisTs
import Derived.Test.YtbadeopjfmafcaaDoorVisL
namespace Go.Proofs.YtbadeopjfmafcaaDoor
open Go.RowKit

theorem l91Phase_any (R : Nat) (p : Int) (w : World) (hp : 0 ≤ p ∧ p ≤ 900000) (h : IsRd w R p) :
    Calls Tryd.prog 85 #[.pointer (some ⟨R, 0, none⟩)] w fun e w' => ∃ x p' : Int, e = .returned (.int .i64 x) ∧ (0 ≤ x ∧ x ≤ 359) ∧ (p ≤ p' ∧ p' ≤ p + 3) ∧ IsRd w' R p' ∧ w.grownBy w' (some R) := by
  go_enter Tryd.func85, Tryd.ntmps85
  go_wp2_with fail
  refine (pick2 R p 3 _ (by omega) (by omega) h).mono ?_
  rintro e w1 ⟨x, rfl, x0, x12, hrd1, g1⟩
  by_cases hx0 : x = 0
  · subst hx0
    go_wp2_with fail
    refine (pick2 R (p + 1) 4 _ (by omega) (by omega) hrd1).mono ?_
    rintro e w2 ⟨y, rfl, y0, y4, hrd2, g2⟩
    have G := grown_trans g1 g2
    have hwr : IntKind.i64.wrap (90 * y) = 90 * y := IntWalk.i64_in _ (by omega)
    have Hrd2 := Lib.hid hrd2; clear hrd2
    have hidX := Lib.hid G; clear G; have G := hidX; clear hidX
    clear g1 g2
    go_wp2_with fail
    go_ret
    exact ⟨90 * y, p + 1 + 1, rfl, by omega, by omega, Hrd2.out, G.out⟩
  · have hx0i : (x == 0) = false := beq_eq_false_iff_ne.2 hx0
    go_wp2_with fail
    refine (pick2 R (p + 1) 200 _ (by omega) (by omega) hrd1).mono ?_
    rintro e w2 ⟨y, rfl, y0, y4, hrd2, g2⟩
    go_wp2_with fail
    refine (pick2 R (p + 1 + 1) 2 _ (by omega) (by omega) hrd2).mono ?_
    rintro e w3 ⟨z, rfl, z0, z4, hrd3, g3⟩
    have G := grown_trans (grown_trans g1 g2) g3
    have hw1 : IntKind.i64.wrap (y * 2) = y * 2 := IntWalk.i64_in _ (by omega)
    have hw2 : IntKind.i64.wrap (y * 2 + z) = y * 2 + z := IntWalk.i64_in _ (by omega)
    obtain ⟨k, hk⟩ : ∃ k : Nat, y * 2 + z = k := ⟨(y * 2 + z).toNat, by omega⟩
    have hw3 : ((k : Int)).tmod 360 = ((k % 360 : Nat) : Int) := by rw [Int.tmod_eq_emod_of_nonneg (by omega)]; omega
    have hk2 : k % 360 < 360 := Nat.mod_lt _ (by omega)
    have Hrd3 := Lib.hid hrd3; clear hrd3
    have hidX := Lib.hid G; clear G; have G := hidX; clear hidX
    clear g1 g2 g3 hx0
    go_wp2_with fail
    go_ret
    exact ⟨((k % 360 : Nat) : Int), p + 1 + 1 + 1, rfl, by omega, by omega, Hrd3.out, G.out⟩
set_option maxRecDepth 100000 in
set_option maxHeartbeats 1000000 in
theorem l91Vis_any (R n : Nat) (p : Int) (w : World) (h2 : 2 ≤ n) (h6 : n ≤ 6) (hp : 0 ≤ p ∧ p ≤ 700000) (h : IsRd w R p) :
    Calls Tryd.prog 71 #[.pointer (some ⟨R, 0, none⟩), .int .i64 n] w fun e w' =>
      ∃ (A : Option Addr) (k cap : Nat) (gs : List (Int × Int)) (p' : Int), e = .returned (.slice A k cap) ∧ gs.length = k ∧ k ≤ 22 ∧ Rd w' w'.heap.size A (gs.flatMap pairCells) ∧ 0 ≤ p' ∧ p' ≤ p + 200 ∧ IsRd w' R p' ∧ w.grownBy w' (some R) := by
  obtain ⟨i0, hi, hz0, hz1, hz2⟩ := info_parts visInfo2
  have hlt := h.lt
  obtain ⟨M, hM⟩ : ∃ M : Nat, bm n = M := ⟨(bm n).toNat, by have := bm_le n; omega⟩
  have hM1 : 1 ≤ M ∧ M ≤ 21 := by
    have := bm_le n
    rcases bm_cases n with h | h | h | h | h | h | h <;> omega
  go_enter Tryd.func71, Tryd.ntmps71
  go_wp2_with fail
  go_loopw [5, 6] (fun v i wr => ∃ (k : Nat) (q : List (Int × Int)) (p' : Int), k ≤ M ∧ i = .int .i64 k ∧ q.length = k ∧ (p ≤ p' ∧ p' ≤ p + 4 * k) ∧ wr.ownsRow w.heap.size 70 2 v k (q.flatMap pairCells) ∧ IsRd wr R p' ∧ w.grownBy wr (some R)) (fun _ i _ => M - (intOf i).toNat)
  case atStart =>
    refine ⟨0, [], p, by omega, rfl, rfl, by omega, ?_, h.kept ((Below.refl _ _).alloc (Nat.le_refl _) _), World.grownBy_alloc w _ _⟩
    exact (Row.new w 70 []).own (Nat.le_refl _) rfl (by decide)
  case round =>
    obtain ⟨k, q, p', hk, rfl, hq, hp', hrow, hrd, hgr⟩ := hrel
    have Hq := Lib.hid hq; clear hq
    have HM := Lib.hid hM; clear hM
    by_cases hkn : k < M
    · have Hrow := Lib.hid hrow; clear hrow
      have Hgr := Lib.hid hgr; clear hgr
      go_wp2_with fail
      refine (sBaseMany_any _ _).mono ?_
      rintro e w' ⟨rfl, rfl⟩
      rw [HM.out]
      go_wp2_with fail
      refine (pick2 R p' 12 _ (by omega) (by omega) hrd).mono ?_
      rintro e w0 ⟨y, rfl, y0, y13, hrd0, g0⟩
      have hr0 := own_over Hrow.out g0 fun j hj e => by have := (own_lt Hrow.out hj).1; cases e; omega
      have Hgr0 := Lib.hid (grown_trans Hgr.out g0)
      have Hr0 := Lib.hid hr0; clear hr0 g0
      go_wp2_with fail
      refine (l91Phase_any R (p' + 1) _ (by omega) hrd0).mono ?_
      rintro e w1 ⟨x, p2, rfl, hx, hp2, hrd1, g1⟩
      have hr1 := own_over Hr0.out g1 fun j hj e => by have := (own_lt Hr0.out hj).1; cases e; omega
      have Hgr1 := Lib.hid (grown_trans Hgr0.out g1)
      have hs1 : w.heap.size ≤ w1.heap.size := Hgr1.out.size
      have Hr1 := Lib.hid hr1; clear hr1 g1
      have hwy : IntKind.i64.wrap (1 + y) = 1 + y := IntWalk.i64_in _ (by omega)
      have hn := Row.new w1 70 [.int .i64 (1 + y), .int .i64 x]
      go_wp2_with (at_builtin; refine wpList_append_own _ rfl _ _ 36 rfl w.heap.size 70 i0 (.agg #[.int .i64 0, .int .i64 0]) 2 16 (by kernel_rfl) hi hz0 hz1 hz2 rfl (by decide) _ k _ rfl (Hr1.out.alloc _) ⟨w1.heap.size, 0, none⟩ 1 1 [.int .i64 (1 + y), .int .i64 x] rfl rfl (fun j u hj => by rw [← hj, ← hn.cell j]; exact congrArg _ (addr_add _ _)) (by simp [Value.oneCell']) (by unfold maxLen; omega) (by omega) (by simp; omega) ?_; intro v' w7 hown' hgrow _; obtain ⟨g', cap', rfl⟩ := ownsRow_succ hown')
      have hrd7 : IsRd w7 R p2 := (hrd1.kept ((Below.refl _ _).alloc (Nat.le_refl _) _)).over hgrow fun j hj => by have := (own_lt Hr1.out hj).1; omega
      have Hgr7 := Lib.hid (grown_far (grown_far Hgr1.out (World.grownBy_alloc w1 _ none) (fun j e => by cases e)) hgrow fun j hj => (own_lt Hr1.out hj).1)
      have Hown := Lib.hid hown'
      clear hown' hgrow hn
      go_wp2_with fail
      go_roundw
      case measure => simp [intOf]; omega
      case rel => exact ⟨k + 1, q ++ [(1 + y, x)], p2, by omega, by go_num, by simp [Hq.out], by omega, by rw [List.flatMap_append]; exact Hown.out, hrd7, Hgr7.out⟩
    · obtain rfl : k = M := by omega
      have Hrow := Lib.hid hrow; clear hrow
      have Hgr := Lib.hid hgr; clear hgr
      go_wp2_with fail
      refine (sBaseMany_any _ _).mono ?_
      rintro e w' ⟨rfl, rfl⟩
      rw [HM.out]
      have hk0 : ((k : Int) == 0) = false := by rw [beq_eq_false_iff_ne]; omega
      obtain ⟨A0, c0', rfl⟩ := own_form Hrow.out
      go_wp2_with fail
      refine (pick2 R p' 50 _ (by omega) (by omega) hrd).mono ?_
      rintro e w1 ⟨x, rfl, x0, x4, hrd1, g1⟩
      have hr1 := own_over Hrow.out g1 fun j hj e => by have := (own_lt Hrow.out hj).1; cases e; omega
      have Hgr1 := Lib.hid (grown_trans Hgr.out g1)
      have hs1 : w.heap.size ≤ w1.heap.size := Hgr1.out.size
      clear g1
      obtain ⟨y, hy⟩ : ∃ y, q[0]? = some y := ⟨_, List.getElem?_eq_getElem (by rw [Hq.out]; omega)⟩
      obtain ⟨y1, y2⟩ := y
      have hset0 : ∀ v : Int, (q.set 0 (v, y2)).flatMap pairCells = (q.flatMap pairCells).set 0 (.int .i64 v) := fun v => by
        cases q with
        | nil => simp at hy
        | cons z r => simp at hy; subst hy; simp [pairCells]
      have hset1 : ∀ v : Int, (q.set 0 (y1, v)).flatMap pairCells = (q.flatMap pairCells).set 1 (.int .i64 v) := fun v => by
        cases q with
        | nil => simp at hy
        | cons z r => simp at hy; subst hy; simp [pairCells]
      have Hr1 := Lib.hid hr1; clear hr1
      by_cases hx0 : x = 0
      · subst hx0
        go_wp2_with fail
        have rb := Row.new w1 3 [.int .i64 0, .int .i64 1000001]
        have g2 := World.grownBy_alloc w1 (.cells #[.int .i64 0, .int .i64 1000001] 3) (some R)
        refine (pick2 R (p' + 1) 2 _ (by omega) (by omega) (hrd1.kept bA1)).mono ?_
        rintro e w2 ⟨z, rfl, z0, z4, hrd2, g3⟩
        have hRw1 := hrd1.lt
        have rb := rb.grown g3 (by simp; omega)
        have G := Lib.hid (grown_trans (grown_trans Hgr1.out g2) g3)
        have hr2 := own_over (Hr1.out.alloc (.cells #[.int .i64 0, .int .i64 1000001] 3)) g3 fun j hj e => by have := (own_lt Hr1.out hj).1; cases e; omega
        obtain ⟨v, hv⟩ : ∃ v : Int, w2.cell? ⟨w1.heap.size, z.toNat, none⟩ = some (.int .i64 v) := by
          rw [rb.cell]
          have : z = 0 ∨ z = 1 := by omega
          rcases this with rfl | rfl <;> exact ⟨_, rfl⟩
        obtain ⟨a, rfl⟩ : ∃ a : Nat, z = a := ⟨z.toNat, by omega⟩
        rw [Int.toNat_natCast] at hv
        obtain ⟨g, eg, hBg, hob, hc, hf, hset⟩ := own_set hr2 (i := 0) (u := .int .i64 y1) (pairCells_get q 0 _ hy).1
        cases eg
        have Hset := Lib.hid (hset (.int .i64 v)); clear hset
        clear rb g2 g3
        have Hr2 := Lib.hid hr2; clear hr2
        go_wp2_with fail
        go_ret
        refine ⟨_, _, _, q.set 0 (v, y2), _, rfl, by rw [List.length_set, Hq.out], by omega, ?_, by omega, by omega, hrd2.over (grown_set _ _ _ _) (fun j e => by cases e; omega), grown_far G.out (grown_set _ _ _ _) fun j e => by cases e; exact hBg⟩
        rw [hset0]
        exact Rd.of_own Hset.out
      · have b0 : (x == 0) = false := beq_eq_false_iff_ne.2 hx0
        by_cases hx1 : x = 1
        · subst hx1
          obtain ⟨g, eg, hBg, hob, hc, hf, hset⟩ := own_set Hr1.out (i := 1) (u := .int .i64 y2) (pairCells_get q 0 _ hy).2
          cases eg
          have Hset := Lib.hid (hset (.int .i64 360)); clear hset
          go_wp2_with fail
          go_ret
          refine ⟨_, _, _, q.set 0 (y1, 360), _, rfl, by rw [List.length_set, Hq.out], by omega, ?_, by omega, by omega, hrd1.over (grown_set _ _ _ _) (fun j e => by cases e; omega), grown_far Hgr1.out (grown_set _ _ _ _) fun j e => by cases e; exact hBg⟩
          rw [hset1]
          exact Rd.of_own Hset.out
        · have b1 : (x == 1) = false := beq_eq_false_iff_ne.2 hx1
          by_cases hx2 : x = 2
          · subst hx2
            obtain ⟨bq, off, e1, hb2, hc1, hc2⟩ := rd_pair (Rd.of_own Hr1.out) hy
            subst e1
            rw [Nat.zero_mul, Nat.add_zero] at hc1 hc2
            have hn := Row.new w1 70 [.int .i64 y1, .int .i64 y2]
            go_wp2_with (at_builtin; refine wpList_append_own _ rfl _ _ 36 rfl w.heap.size 70 i0 (.agg #[.int .i64 0, .int .i64 0]) 2 16 (by kernel_rfl) hi hz0 hz1 hz2 rfl (by decide) _ k _ rfl (Hr1.out.alloc _) ⟨w1.heap.size, 0, none⟩ 1 1 [.int .i64 y1, .int .i64 y2] rfl rfl (fun j u hj => by rw [← hj, ← hn.cell j]; exact congrArg _ (addr_add _ _)) (by simp [Value.oneCell']) (by unfold maxLen; omega) (by omega) (by simp; omega) ?_; intro v' w7 hown' hgrow _; obtain ⟨g', cap', rfl⟩ := ownsRow_succ hown')
            have hrd7 : IsRd w7 R (p' + 1) := (hrd1.kept ((Below.refl _ _).alloc (Nat.le_refl _) _)).over hgrow fun j hj => by have := (own_lt Hr1.out hj).1; omega
            have Hgr7 := Lib.hid (grown_far (grown_far Hgr1.out (World.grownBy_alloc w1 _ none) (fun j e => by cases e)) hgrow fun j hj => (own_lt Hr1.out hj).1)
            have Hown := Lib.hid hown'
            clear hown' hgrow hn
            go_wp2_with fail
            go_ret
            refine ⟨_, _, _, q ++ [(y1, y2)], _, rfl, by simp [Hq.out], by omega, ?_, by omega, by omega, hrd7, Hgr7.out⟩
            rw [List.flatMap_append]
            exact Rd.of_own Hown.out
          · have b2 : (x == 2) = false := beq_eq_false_iff_ne.2 hx2
            go_wp2_with fail
            go_ret
            exact ⟨_, _, _, q, _, rfl, Hq.out, by omega, Rd.of_own Hr1.out, by omega, by omega, hrd1, Hgr1.out⟩

set_option maxRecDepth 100000 in
theorem drawVisValid_any (A : Option Addr) (n cap : Nat) (bs : List Int) (w : World) (hn : bs.length = n) (hm : n ≤ 9223372036854775807) (hc : n ≤ cap) (hb : BytesOk bs) (hr : Rd w w.heap.size A (bs.map (Value.int .u8))) :
    Calls Tryd.prog 64 #[.slice A n cap] w fun e w' =>
      ∃ (m : Nat) (B : Option Addr) (k c : Nat) (vs : List (Int × Int)), e = .returned (.tuple #[.int .i64 m, .slice B k c]) ∧ (2 ≤ m ∧ m ≤ 6) ∧ vs.length = k ∧ k ≤ 22 ∧ Rd w' w'.heap.size B (vs.flatMap pairCells) ∧ Below w.heap.size w w' := by
  go_enter Tryd.func64, Tryd.ntmps64
  go_wp2_with fail
  refine (l6Open_any A n cap bs w hn hm hc hr).mono ?_
  rintro e w1 ⟨rfl, hR, hb1⟩
  have hrd := isRd_open hn hb hr hR hb1
  clear hR
  obtain ⟨R, hRR⟩ : ∃ R, w.heap.size = R := ⟨_, rfl⟩
  rw [hRR] at hrd hb1 ⊢
  have HR := Lib.hid hRR; clear hRR
  have hlt := hrd.lt
  go_wp2_with fail
  refine (l91Ants_any R 0 _ (by omega) hrd).mono ?_
  rintro e w2 ⟨m, rfl, m2, m6, hrd2, g2⟩
  have B2 : Below R w w2 := hb1.grown g2 (by omega) fun j e => by cases e; exact Nat.le_refl _
  have hlt2 := hrd2.lt
  clear g2 hrd hb1
  go_wp2_with fail
  refine (l91Vis_any R m _ w2 m2 m6 (by omega) hrd2).mono ?_
  rintro e w3 ⟨B, k, c, vs, p', rfl, hk, hk2, hr3, hp0, hp1, hrd3, g3⟩
  have B3 : Below R w w3 := B2.grown g3 (by omega) fun j e => by cases e; exact Nat.le_refl _
  clear g3
  have Hr3 := Lib.hid hr3; clear hr3
  have Hk := Lib.hid hk; clear hk
  go_wp2_with fail
  go_ret2
  exact ⟨m, B, k, c, vs, rfl, ⟨m2, m6⟩, Hk.out, hk2, Hr3.out, by rw [HR.out]; exact B3⟩
theorem drawVisText_any (A : Option Addr) (n cap : Nat) (bs : List Int) (w : World) (hn : bs.length = n) (hm : n ≤ 9223372036854775807) (hc : n ≤ cap) (hb : BytesOk bs) (hr : Rd w w.heap.size A (bs.map (Value.int .u8))) :
    Calls Tryd.prog 31 #[.slice A n cap] w fun e w' =>
      ∃ (m : Nat) (B : Option Addr) (k c : Nat) (vs : List (Int × Int)), e = .returned (.tuple #[.int .i64 m, .slice B k c]) ∧ (2 ≤ m ∧ m ≤ 6) ∧ vs.length = k ∧ k ≤ 22 ∧ Rd w' w'.heap.size B (vs.flatMap pairCells) ∧ Below w.heap.size w w' := by
  go_enter Tryd.func31, Tryd.ntmps31
  go_wp2_with fail
  refine (drawVisValid_any A n cap bs w hn hm hc hb hr).mono ?_
  rintro e w1 ⟨m, B, k, c, vs, rfl, hm26, hk, hk2, hr3, B3⟩
  have Hr3 := Lib.hid hr3; clear hr3
  have Hk := Lib.hid hk; clear hk
  go_wp2_with fail
  go_ret2
  exact ⟨m, B, k, c, vs, rfl, hm26, Hk.out, hk2, Hr3.out, B3⟩

theorem visStr_len (n : Nat) (hn : n ≤ 7) (vs : List (Int × Int)) : (visStr n vs).length ≤ 2100 := by
  cases h : visV n vs
  · rw [visStr_no h]; simp
  · rw [visStr_yes h, Int.toNat_natCast]
    obtain ⟨h1, h2, h3⟩ := visV_iff.1 h
    have hp := bm_pairs n (by omega) (by omega)
    have := visB_len h3 n vs.length hn (Nat.le_refl _) (by omega)
    rcases bm_cases (n : Int) with a | a | a | a | a | a | a <;> omega

set_option maxRecDepth 100000 in
set_option maxHeartbeats 1000000 in
theorem drawVisFrom_any (A : Option Addr) (n cap : Nat) (bs : List Int) (w : World) (hn : bs.length = n) (hm : n ≤ 9223372036854775807) (hc : n ≤ cap) (hb : BytesOk bs) (hr : Rd w w.heap.size A (bs.map (Value.int .u8))) :
    Calls Tryd.prog 38 #[.slice A n cap] w fun e w' =>
      ∃ l : List UInt8, e = .returned (.string ⟨l.toArray⟩) ∧ l.length ≤ 3000 ∧ Below w.heap.size w w' := by
  go_enter Tryd.func38, Tryd.ntmps38
  go_wp2_with fail
  refine (l6Open_any A n cap bs w hn hm hc hr).mono ?_
  rintro e w1 ⟨rfl, hR, hb1⟩
  have hrd := isRd_open hn hb hr hR hb1
  clear hR
  obtain ⟨R, hRR⟩ : ∃ R, w.heap.size = R := ⟨_, rfl⟩
  rw [hRR] at hrd hb1 ⊢
  have HR := Lib.hid hRR; clear hRR
  have hlt := hrd.lt
  go_wp2_with fail
  refine (l91Ants_any R 0 _ (by omega) hrd).mono ?_
  rintro e wa ⟨m, rfl, m2, m6, hrda, ga⟩
  have Ba : Below R w wa := hb1.grown ga (by omega) fun j e => by cases e; exact Nat.le_refl _
  have hlta := hrda.lt
  clear ga hrd hb1
  go_wp2_with fail
  refine (l91Vis_any R m _ wa m2 m6 (by omega) hrda).mono ?_
  rintro e w2 ⟨A2, k, c, s, p', rfl, hs, hk, hr2, hp0, hp, hrd2, g2⟩
  have B2 : Below R w w2 := Ba.grown g2 (by omega) fun j e => by cases e; exact Nat.le_refl _
  have hsz2 : R < w2.heap.size := hrd2.lt
  have Hs := Lib.hid hs; clear hs
  clear g2 hrda Ba
  go_wp2_with fail
  refine (sVisText_any m A2 k c s _ Hs.out (by omega) hr2).mono ?_
  rintro e w3 ⟨rfl, b3⟩
  have hrd3 := hrd2.kept b3
  have B3 : Below R w w3 := B2.trans (b3.mono (Nat.le_of_lt hsz2))
  have hl := visStr_len m (by omega) s
  generalize visStr m s = l at *
  clear b3 hr2 hrd2
  have hsz3 : R < w3.heap.size := hrd3.lt
  go_wp2_with fail
  refine (pick2 R p' 8 _ (by omega) (by omega) hrd3).mono ?_
  rintro e w4 ⟨x, rfl, x0, x8, hrd4, g4⟩
  have B4 : Below R w w4 := B3.grown g4 (Nat.le_of_lt hsz3) fun j e => by cases e; exact Nat.le_refl _
  have hsz4 : R < w4.heap.size := hrd4.lt
  clear g4 hrd3
  have hidX := Lib.hid B2; clear B2; have B2 := hidX; clear hidX
  have hidX := Lib.hid B3; clear B3; have B3 := hidX; clear hidX
  by_cases h0 : x = 0
  · subst h0
    go_wp2_with fail
    refine (of_any R (p' + 1) w4.heap.size 7 7 [[], [48, 45, 49, 32, 49, 32, 48], [48, 45, 49, 32, 49, 32, 51, 54, 48, 10], [48, 45, 49, 32, 48, 32, 48, 10], [49, 45, 48, 32, 49, 32, 48, 10], [48, 45, 49, 32, 48, 49, 32, 48, 10], [48, 45, 49, 32, 49, 32, 48, 10, 48, 45, 50, 32, 49, 32, 48, 10]] _ (by omega) rfl (by omega) (by decide) (hrd4.kept bA1) (Row.new w4 _ _) (by omega)).mono ?_
    rintro e w5 ⟨x, rfl, hx, hrd5, g5⟩
    have B5 : Below R w w5 := (B4.alloc (Nat.le_of_lt hsz4) _).grown g5 (by simp; omega) fun j e => by cases e; exact Nat.le_refl _
    have hidX := Lib.hid B4; clear B4; have B4 := hidX; clear hidX
    clear g5
    go_wp2_with fail
    go_ret
    exact ⟨x, rfl, by omega, by rw [HR.out]; exact B5⟩
  · have h0i : (x == 0) = false := by rw [beq_eq_false_iff_ne]; exact h0
    by_cases h1 : x = 1
    · subst h1
      go_wp2_with fail
      refine (of_any R (p' + 1) w4.heap.size 3 3 [[120], [10], [48, 45, 55, 32, 49, 32, 49, 10]] _ (by omega) rfl (by omega) (by decide) (hrd4.kept bA1) (Row.new w4 _ _) (by omega)).mono ?_
      rintro e w5 ⟨x, rfl, hx, hrd5, g5⟩
      have B5 : Below R w w5 := (B4.alloc (Nat.le_of_lt hsz4) _).grown g5 (by simp; omega) fun j e => by cases e; exact Nat.le_refl _
      have hlim : ¬ 9223372036854775807 < l.length + x.length := by omega
      have hidX := Lib.hid B4; clear B4; have B4 := hidX; clear hidX
      clear g5
      go_wp2_with fail
      go_ret
      exact ⟨l ++ x, by rw [← str_app]; rfl, by rw [List.length_append]; omega, by rw [HR.out]; exact B5⟩
    · have h1i : (x == 1) = false := by rw [beq_eq_false_iff_ne]; exact h1
      clear h0 h1
      go_wp2_with fail
      go_ret
      exact ⟨l, rfl, by omega, by rw [HR.out]; exact B4⟩
end Go.Proofs.YtbadeopjfmafcaaDoor
