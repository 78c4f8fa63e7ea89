/- 'spec.l24Valid' and 'spec.CleanStep'. -/
import Derived.Test.YtipgpafgampfbaaGreatDoorSAdd
import Derived.Test.YtipgpafgampfbaaGreatDoorCleanN
namespace Go.Proofs.YtipgpafgampfbaaGreatDoor
open Go.RowKit

theorem own_ne {w : World} {B s n R : Nat} {e T : TypeId} {v : Value} {xs ys : List Value} (h : w.ownsRow B e s v n xs) (hr : Row w R T ys) (hT : T ≠ e) : ∀ j, v.ownBlock = some j → j ≠ R := fun j hj he => by
  obtain ⟨_, _, cs, fr, hc⟩ := own_lt h hj
  rw [he, show _ = _ from hr] at hc
  injection hc with hc
  injection hc with _ h2
  exact hT h2

theorem some_ne {a b : Nat} (h : a ≠ b) : some a ≠ some b := fun e => h (Option.some.inj e)
/-- Two rows over a struct of two cells that is stored to. -/
theorem set_two {m w : World} {B B' s s' n n' H N : Nat} {e e' : TypeId} {v v' : Value} {xs xs' : List Value} (T : TypeId) (hT : T ≠ e) (hT' : T ≠ e') (h : m.ownsRow B e s v n xs) (h' : m.ownsRow B' e' s' v' n' xs')
    {y0 y1 : Value} (hr : Row m H T [y0, y1]) (F : Below N w m) (l : N ≤ H) :
    ((m.setCell ⟨H, 0, none⟩ v).setCell ⟨H, 1, none⟩ v').ownsRow B e s v n xs ∧ ((m.setCell ⟨H, 0, none⟩ v).setCell ⟨H, 1, none⟩ v').ownsRow B' e' s' v' n' xs' ∧
      Row ((m.setCell ⟨H, 0, none⟩ v).setCell ⟨H, 1, none⟩ v') H T [v, v'] ∧ Below N w ((m.setCell ⟨H, 0, none⟩ v).setCell ⟨H, 1, none⟩ v') := by
  have a := own_ne h hr hT
  have b := own_ne h' hr hT'
  have r := (hr.set_ 0 v).set_ 1 v'
  simp only [List.set_cons_zero, List.set_cons_succ] at r
  exact ⟨own_over (own_over h (grown_set m H 0 v) (fun j hj e => by injection e with e; exact a j hj e.symm)) (grown_set _ H 1 v') (fun j hj e => by injection e with e; exact a j hj e.symm),
    own_over (own_over h' (grown_set m H 0 v) (fun j hj e => by injection e with e; exact b j hj e.symm)) (grown_set _ H 1 v') (fun j hj e => by injection e with e; exact b j hj e.symm), r,
    (F.setCell (p := ⟨H, 0, none⟩) l v).setCell (p := ⟨H, 1, none⟩) l v'⟩
/-- Sixteen numbers appended to an empty slice. -/
theorem wp_app0 {ops : Array Oper} {rest : List Oper} {o : Oper} {a : Act} {m : World} {Q : Exit → Act → World → Prop} (base : Nat) (hgd : o.guard = none) (s x : Operand)
    (ho : o.op = .call { callee := .builtin .append, args := #[s, x], argTypes := #[32, 32] }) (E : Nat) (hs : a.eval s = .slice (some ⟨E, 0, none⟩) 0 0) (hown : m.ownsRow base 3 1 (.slice (some ⟨E, 0, none⟩) 0 0) 0 [])
    (b oo c : Nat) (M : List Int) (hx : a.eval x = .slice (some ⟨b, oo, none⟩) 16 c) (hM : M.length = 16) {N : Nat} (hr : Rd m N (some ⟨b, oo, none⟩) (M.map (Value.int .i64))) (hb : base ≤ m.heap.size)
    (h : ∀ A c' w', w'.ownsRow base 3 1 (.slice A 16 c') 16 (M.map (Value.int .i64)) → m.grownBy w' (Value.slice (some ⟨E, 0, none⟩) 0 0).ownBlock → (∀ j, (Value.slice A 16 c').ownBlock = some j → j = E ∨ j = m.heap.size) → wpList Tryz.prog ops Q rest (a.put o.dst (.slice A 16 c')) w') :
    wpList Tryz.prog ops Q (o :: rest) a m := by
  obtain ⟨i0, hi, hz0, hz1, hz2⟩ := info_parts intInfo
  have hll : (M.map (Value.int .i64)).length = 16 * 1 := by rw [List.length_map, hM]
  have hone : ∀ u ∈ M.map (Value.int .i64), u.oneCell' = true := fun u hu => by
    obtain ⟨x, _, rfl⟩ := List.mem_map.1 hu
    rfl
  refine wpList_append_own_at m hgd s x 32 ho base 3 i0 (.int .i64 0) 1 8 (by kernel_rfl) hi hz0 hz1 hz2 rfl (by decide) (.slice (some ⟨E, 0, none⟩) 0 0) 0 _ hs hown ⟨b, oo, none⟩ 16 c _ hx hll (fun j u hu => rd_add hr j u hu) hone (by unfold maxLen; omega) (by omega) hb ?_
  intro v' w' hown' hgrow _ hat
  rw [Nat.zero_add, List.nil_append] at hown'
  obtain ⟨A, c', rfl⟩ := own_form hown'
  refine h A c' w' hown' hgrow fun j hj => ?_
  rcases hat with h1 | h1
  · exact .inl (Option.some.inj (hj.symm.trans h1))
  · exact .inr (Option.some.inj (hj.symm.trans h1))

set_option maxHeartbeats 1000000 in
theorem l24Valid_any (A B : Option Addr) (ca cb : Nat) (M L : List Int) (w : World) (hM : M.length = 16) (hL : L.length = 16) (hr : Rd w w.heap.size A (M.map (Value.int .i64))) (hr2 : Rd w w.heap.size B (L.map (Value.int .i64))) :
    Calls Tryz.prog 190 #[.agg #[.slice A 16 ca, .slice B 16 cb]] w fun e w' => e = .returned (.bool (skyV M && skyV L)) ∧ Below w.heap.size w w' := by
  have rB := Row.new w 43 [.slice A 16 ca, .slice B 16 cb]
  have hr1 := hr.ext (bA1 (o := .cells #[.slice A 16 ca, .slice B 16 cb] 43))
  have hr3 := hr2.ext (bA1 (o := .cells #[.slice A 16 ca, .slice B 16 cb] 43))
  obtain ⟨c0, c1, _, _⟩ := rB.two
  cases h1 : skyV M
  · have HM := Lib.hid hM; clear hM
    have HL := Lib.hid hL; clear hL
    have H1 := Lib.hid h1; clear h1
    go_enter Tryz.func190, Tryz.ntmps190
    go_wp2_with fail
    refine (sSkyValid_any A 16 ca M _ HM.out (by omega) hr1).mono ?_
    rintro e w1 ⟨rfl, rfl⟩
    rw [H1.out]
    go_wp2_with fail
    go_ret
    exact ⟨rfl, bA1⟩
  · cases h2 : skyV L
    all_goals
      have HM := Lib.hid hM; clear hM
      have HL := Lib.hid hL; clear hL
      have H1 := Lib.hid h1; clear h1
      have H2 := Lib.hid h2; clear h2
      go_enter Tryz.func190, Tryz.ntmps190
      go_wp2_with fail
      refine (sSkyValid_any A 16 ca M _ HM.out (by omega) hr1).mono ?_
      rintro e w1 ⟨rfl, rfl⟩
      rw [H1.out]
      go_wp2_with fail
      refine (sSkyValid_any B 16 cb L _ HL.out (by omega) hr3).mono ?_
      rintro e w1 ⟨rfl, rfl⟩
      rw [H2.out]
      go_wp2_with fail
      go_ret
      exact ⟨rfl, bA1⟩

set_option maxRecDepth 100000 in
set_option maxHeartbeats 2000000 in
theorem sCleanStep_any (A B D : Option Addr) (ca cb cd : Nat) (M L b : List Int) (w : World) (hM : skyV M = true) (hL : skyV L = true) (hb : skyV b = true) (hr : Rd w w.heap.size A (M.map (Value.int .i64))) (hr2 : Rd w w.heap.size B (L.map (Value.int .i64))) (hr3 : Rd w w.heap.size D (b.map (Value.int .i64))) :
    Calls Tryz.prog 191 #[.agg #[.slice A 16 ca, .slice B 16 cb], .slice D 16 cd] w fun e w' => Below w.heap.size w w' ∧
      ((∃ st, cleanStep b (M, L) = some st ∧ ∃ u v, e = .returned (.tuple #[.agg #[u, v], .bool true]) ∧ w'.ownsRow w.heap.size 3 1 u 16 (st.1.map (Value.int .i64)) ∧ w'.ownsRow w.heap.size 3 1 v 16 (st.2.map (Value.int .i64))) ∨
       (cleanStep b (M, L) = none ∧ e = .returned (.tuple #[.agg #[.slice none 0 0, .slice none 0 0], .bool false]))) := by
  obtain ⟨i0, hi, hz0, hz1, hz2⟩ := info_parts intInfo
  have lM := skyV_len hM
  have lL := skyV_len hL
  have lb := skyV_len hb
  obtain ⟨bM, oM, rfl, hbM0⟩ := rd_some hr (by rw [List.length_map]; omega)
  obtain ⟨bL, oL, rfl, hbL0⟩ := rd_some hr2 (by rw [List.length_map]; omega)
  obtain ⟨bD, oD, rfl, hbD0⟩ := rd_some hr3 (by rw [List.length_map]; omega)
  have rB := (Row.new w 43 [.slice (some ⟨bM, oM, none⟩) 16 ca, .slice (some ⟨bL, oL, none⟩) 16 cb]).alloc (.cells #[.slice none 0 0, .slice none 0 0] 43)
  have rR := Row.new (w.alloc (.cells #[.slice (some ⟨bM, oM, none⟩) 16 ca, .slice (some ⟨bL, oL, none⟩) 16 cb] 43)) 43 [.slice none 0 0, .slice none 0 0]
  rw [World.size_alloc] at rR
  have b0 := bA2 (w := w) (o := .cells #[.slice (some ⟨bM, oM, none⟩) 16 ca, .slice (some ⟨bL, oL, none⟩) 16 cb] 43) (o' := .cells #[.slice none 0 0, .slice none 0 0] 43)
  have hr := hr.ext b0
  have hr2 := hr2.ext b0
  have hr3 := hr3.ext b0
  have hbD := Nat.lt_of_lt_of_le hbD0 b0.size
  obtain ⟨y, hy⟩ : ∃ y, b.getD 0 0 = y := ⟨_, rfl⟩
  have cD := rd_cells hr3 0 _ (ints_at' (by omega))
  rw [Nat.add_zero, hy] at cD
  have hyb := (skyV_iff.1 hb).2 y (by rw [← hy]; exact getD_mem (by omega))
  obtain ⟨c0, c1, _, _⟩ := rB.two
  have HM := Lib.hid hM; clear hM
  have HL := Lib.hid hL; clear hL
  have Hb := Lib.hid hb; clear hb
  have LM := Lib.hid lM; clear lM
  have LL := Lib.hid lL; clear lL
  have Lb := Lib.hid lb; clear lb
  have Hy := Lib.hid hy; clear hy
  go_enter Tryz.func191, Tryz.ntmps191
  go_wp2_with fail
  refine (l24Valid_any (some ⟨bM, oM, none⟩) (some ⟨bL, oL, none⟩) ca cb M L _ LM.out LL.out hr hr2).mono ?_
  rintro e w1 ⟨rfl, b1⟩
  rw [HM.out, HL.out]
  have B1 := b0.trans (b1.mono b0.size)
  have extX := (hr.below b1).more b1.size; clear hr; have hr := extX; clear extX
  have extX := (hr2.below b1).more b1.size; clear hr2; have hr2 := extX; clear extX
  have extX := (hr3.below b1).more b1.size; clear hr3; have hr3 := extX; clear extX
  have rB := rB.kept b1
  have rR := rR.kept b1
  have cDx := (bcl b1 hbD _).trans cD
  clear cD
  have cD := cDx
  clear cDx
  have hbD1 := Nat.lt_of_lt_of_le hbD b1.size
  clear b1 c0 c1
  go_wp2_with fail
  refine (sSkyValid_any _ 16 cd b _ Lb.out (by omega) hr3).mono ?_
  rintro e w2 ⟨rfl, rfl⟩
  rw [Hb.out]
  by_cases hy1 : y < 1
  · have HNO := Lib.hid (show cleanStep b (M, L) = none by
      unfold cleanStep
      rw [if_neg]
      rintro ⟨_, _, h⟩
      rw [Hy.out] at h
      omega)
    obtain ⟨q0, q1, q2, q3⟩ := rR.two
    clear hr hr2 hr3 rR rB hbD hbD1
    go_wp2_with fail
    exact bodyPost_ret (v := .tuple #[.agg #[.slice none 0 0, .slice none 0 0], .bool false]) (by simp [results, Tryz.results191, go_sem, q0, q1]) rfl ⟨(B1.setCell (p := ⟨w.heap.size + 1, 0, none⟩) (by show w.heap.size ≤ w.heap.size + 1; omega) _).setCell (p := ⟨w.heap.size + 1, 1, none⟩) (by show w.heap.size ≤ w.heap.size + 1; omega) _, .inr ⟨HNO.out, rfl⟩⟩
  · obtain ⟨c0, c1, _, _⟩ := rB.two
    have hne0 : y ≠ 0 := by omega
    go_wp2_with fail
    refine (l24Peak_any (some ⟨bL, oL, none⟩) 16 cb L _ LL.out (by omega) (by omega) hr2).mono ?_
    rintro e w2 ⟨rfl, b2⟩
    have B2 := B1.trans (b2.mono B1.size)
    have cDx := (bcl b2 hbD1 _).trans cD
    clear cD
    have cD := cDx
    clear cDx
    have hbD2 := Nat.lt_of_lt_of_le hbD1 b2.size
    have extX := (hr.below b2).more b2.size; clear hr; have hr := extX; clear extX
    have extX := (hr2.below b2).more b2.size; clear hr2; have hr2 := extX; clear extX
    have extX := (hr3.below b2).more b2.size; clear hr3; have hr3 := extX; clear extX
    have rB := rB.kept b2
    have rR := rR.kept b2
    have hpk := peakI_lt (l := L) (by rw [LL.out]; omega)
    have hpg := peakI_get (l := L) (by rw [LL.out]; omega)
    have hmx := (skyV_iff.1 HL.out).2 _ (maxL_mem (l := L) (by rw [LL.out]; omega))
    rw [LL.out] at hpk
    obtain ⟨k, hk⟩ : ∃ k, peakI L = k := ⟨_, rfl⟩
    obtain ⟨m, hm⟩ : ∃ m, maxL L = m := ⟨_, rfl⟩
    rw [hk, hm] at hpg
    rw [hk] at hpk
    rw [hm] at hmx
    rw [hk]
    have hbL := Nat.lt_of_lt_of_le hbL0 B2.size
    have cL := rd_cells hr2 k _ (ints_at' (by rw [LL.out]; omega))
    rw [hpg] at cL
    have f0 : ∀ w', Below w2.heap.size w2 w' → w'.cell? ⟨w.heap.size, 1, none⟩ = some (.slice (some ⟨bL, oL, none⟩) 16 cb) := fun w' h => (rB.kept h).cell 1
    have f1 : ∀ w', Below w2.heap.size w2 w' → w'.cell? ⟨bL, oL + k * 1, none⟩ = some (.int .i64 m) := fun w' h => by rw [Nat.mul_one]; exact (h.cell (p := ⟨bL, oL + k, none⟩) hbL).trans cL
    have f2 : ∀ w', Below w2.heap.size w2 w' → w'.cell? ⟨bD, oD + 0 * 1, none⟩ = some (.int .i64 y) := fun w' h => by rw [Nat.zero_mul, Nat.add_zero]; exact (h.cell (p := ⟨bD, oD, none⟩) hbD2).trans cD
    have Hk := Lib.hid hk; clear hk
    have Hm := Lib.hid hm; clear hm
    have Hpg := Lib.hid hpg; clear hpg
    clear b2 c0 c1
    obtain ⟨n, hn⟩ : ∃ n, m.tdiv y = n := ⟨_, rfl⟩
    have hnb : -100000 ≤ n ∧ n ≤ 100000 := by
      rw [← hn]
      by_cases h0 : 0 ≤ m
      · rw [Int.tdiv_eq_ediv_of_nonneg h0]
        have h1 := Int.ediv_nonneg h0 (show 0 ≤ y by omega)
        have h2 := Int.ediv_le_self y h0
        omega
      · have e : m.tdiv y = -((-m).tdiv y) := by rw [Int.neg_tdiv]; omega
        rw [e, Int.tdiv_eq_ediv_of_nonneg (by omega)]
        have h1 := Int.ediv_nonneg (show 0 ≤ -m by omega) (show 0 ≤ y by omega)
        have h2 := Int.ediv_le_self y (show 0 ≤ -m by omega)
        omega
    have j1 : IntKind.i64.wrap (m.tdiv y) = n := by rw [hn]; exact IntWalk.i64_in _ (by omega)
    have J1 := Lib.hid j1
    clear j1
    have hkI : (k : Int) < 16 := by omega
    go_wp2_with fail
    refine wp_region_N [] [] (by kernel_rfl) (by kernel_rfl) ?_
    refine wpStill_go (v := .pointer (some ⟨w.heap.size, 1, none⟩)) rfl rfl (stays_run fun w' h => by simp [go_sem]) ?_
    simp only [Act.put, List.setIfInBounds_toArray, List.set_cons_succ, List.set_cons_zero]
    refine wpStill_go (v := .slice (some ⟨bL, oL, none⟩) 16 cb) rfl rfl (stays_run fun w' h => ex_load rfl rfl (ld_one (by kernel_rfl) (f0 w' h))) ?_
    simp only [Act.put, List.setIfInBounds_toArray, List.set_cons_succ, List.set_cons_zero]
    refine wpStill_go (v := .int .i64 k) rfl rfl (stays_run fun w' h => ex_move rfl rfl) ?_
    simp only [Act.put, List.setIfInBounds_toArray, List.set_cons_succ, List.set_cons_zero]
    refine wpStill_go (v := .pointer (some ⟨bL, oL + k * 1, none⟩)) rfl rfl (stays_run fun w' h => ex_index rfl (by kernel_rfl) (by kernel_rfl) rfl rfl (hpk)) ?_
    simp only [Act.put, List.setIfInBounds_toArray, List.set_cons_succ, List.set_cons_zero]
    refine wpStill_go (v := .int .i64 m) rfl rfl (stays_run fun w' h => ex_load rfl rfl (ld_one (by kernel_rfl) (f1 w' h))) ?_
    simp only [Act.put, List.setIfInBounds_toArray, List.set_cons_succ, List.set_cons_zero]
    refine wpStill_go (v := .slice (some ⟨bD, oD, none⟩) 16 cd) rfl rfl (stays_run fun w' h => ex_move rfl rfl) ?_
    simp only [Act.put, List.setIfInBounds_toArray, List.set_cons_succ, List.set_cons_zero]
    refine wpStill_go (v := .pointer (some ⟨bD, oD + 0 * 1, none⟩)) rfl rfl (stays_run fun w' h => ex_index rfl (by kernel_rfl) (by kernel_rfl) rfl rfl ((by decide : 0 < 16))) ?_
    simp only [Act.put, List.setIfInBounds_toArray, List.set_cons_succ, List.set_cons_zero]
    refine wpStill_go (v := .int .i64 y) rfl rfl (stays_run fun w' h => ex_load rfl rfl (ld_one (by kernel_rfl) (f2 w' h))) ?_
    simp only [Act.put, List.setIfInBounds_toArray, List.set_cons_succ, List.set_cons_zero]
    refine wpStill_go (v := .int .i64 n) rfl rfl (stays_run fun w' h => by simp [go_sem, hne0, J1.out]) ?_
    simp only [Act.put, List.setIfInBounds_toArray, List.set_cons_succ, List.set_cons_zero]
    refine wpStill_go (v := .int .i64 n) rfl rfl (stays_run fun w' h => by simp [go_sem]) ?_
    simp only [Act.put, List.setIfInBounds_toArray, List.set_cons_succ, List.set_cons_zero]
    refine wpStill_nil ?_
    repeat (refine wpMark_skip rfl ?_)
    refine wpMark_nil fun w3 h3 => ?_
    simp only [onlyN, Exit.then]
    have b3 : Below w2.heap.size w2 w3 := (Below.refl _ w2).drew.trans h3
    have B3 := B2.trans (b3.mono B2.size)
    have extX := (hr.below b3).more b3.size; clear hr; have hr := extX; clear extX
    have extX := (hr2.below b3).more b3.size; clear hr2; have hr2 := extX; clear extX
    have extX := (hr3.below b3).more b3.size; clear hr3; have hr3 := extX; clear extX
    have rB := rB.kept b3
    have rR := rR.kept b3
    clear f0 f1 f2 h3 b3 cD cL
    by_cases hn1 : n < 1
    · have HNO := Lib.hid (show cleanStep b (M, L) = none by
        unfold cleanStep
        rw [Hm.out, Hy.out]
        split
        · rw [if_neg]
          rintro ⟨a1, a2⟩
          rw [← Int.tdiv_eq_ediv_of_nonneg a1, hn] at a2
          omega
        · rfl)
      have Hn := Lib.hid hn
      clear hn
      obtain ⟨q0, q1, q2, q3⟩ := rR.two
      clear hr hr2 hr3 rR rB hbD hbD1 hbD2
      go_wp2_with fail
      exact bodyPost_ret (v := .tuple #[.agg #[.slice none 0 0, .slice none 0 0], .bool false]) (by simp [results, Tryz.results191, go_sem, q0, q1]) rfl ⟨(B3.setCell (p := ⟨w.heap.size + 1, 0, none⟩) (by show w.heap.size ≤ w.heap.size + 1; omega) _).setCell (p := ⟨w.heap.size + 1, 1, none⟩) (by show w.heap.size ≤ w.heap.size + 1; omega) _, .inr ⟨HNO.out, rfl⟩⟩
    · have hm0 : 0 ≤ m := by
        by_cases h0 : 0 ≤ m
        · exact h0
        · exfalso
          have e : m.tdiv y = -((-m).tdiv y) := by rw [Int.neg_tdiv]; omega
          rw [e, Int.tdiv_eq_ediv_of_nonneg (by omega)] at hn
          have h1 := Int.ediv_nonneg (show 0 ≤ -m by omega) (show 0 ≤ y by omega)
          omega
      have hne : m / y = n := by rw [← Int.tdiv_eq_ediv_of_nonneg hm0]; exact hn
      have Hn := Lib.hid hne
      clear hn hne
      obtain ⟨c0, c1, _, _⟩ := rB.two
      have j3 : (k : Int).tmod 4 = (k : Int) % 4 := Int.tmod_eq_emod_of_nonneg (by omega)
      have j4 : IntKind.i64.wrap ((k : Int) / 4) = (k : Int) / 4 := IntWalk.i64_in _ (by omega)
      have j5 : IntKind.i64.wrap (-n) = -n := IntWalk.i64_in _ (by omega)
      have hsh := sSkyShift_yes (some ⟨bD, oD, none⟩) cd b k w3 Hb.out hpk hr3
      have Hsh := Lib.hid hsh
      clear hsh
      go_wp2_with fail
      refine Hsh.out.mono ?_
      rintro e w4 ⟨gS, rfl, hgS, rS, b4⟩
      have B4 := B3.trans (b4.mono B3.size)
      have extX := (hr.below b4).more b4.size; clear hr; have hr := extX; clear extX
      have extX := (hr2.below b4).more b4.size; clear hr2; have hr2 := extX; clear extX
      have extX := (hr3.below b4).more b4.size; clear hr3; have hr3 := extX; clear extX
      have rB := rB.kept b4
      have rR := rR.kept b4
      obtain ⟨c0, c1, _, _⟩ := rB.two
      clear b4 Hsh
      go_wp2_with fail
      refine (sSkyAdd_yes (some ⟨bL, oL, none⟩) (some ⟨gS, 0, none⟩) cb 16 L (shL b k) (-n) w4 HL.out (skyV_sh Hb.out k) (by omega) hr2 rS.rd).mono ?_
      rintro e w5 ⟨v, nL, rfl, hnL, oX, b5⟩
      have B5 := B4.trans (b5.mono B4.size)
      have extX := (hr.below b5).more b5.size; clear hr; have hr := extX; clear extX
      have extX := (hr3.below b5).more b5.size; clear hr3; have hr3 := extX; clear extX
      have rB := rB.kept b5
      have rR := rR.kept b5
      obtain ⟨c0, c1, _, _⟩ := rB.two
      obtain ⟨ok, hok⟩ : ∃ ok, skyV (addS L (shL b k) (-n)) = ok := ⟨_, rfl⟩
      obtain ⟨L2, hL2⟩ : ∃ L2, addS L (shL b k) (-n) = L2 := ⟨_, rfl⟩
      have lL2 : L2.length = 16 := by rw [← hL2]; exact addS_len _ _ _
      rw [hok] at hnL ⊢
      rw [hL2] at hok oX
      have oX := oX.mono B4.size
      obtain ⟨AX, cX, rfl⟩ := own_form oX
      clear b5 rS
      have HL2 := Lib.hid hL2; clear hL2
      have LL2 := Lib.hid lL2; clear lL2
      have OX := Lib.hid oX; clear oX
      have rE := Row.new w5 3 []
      have oE := rE.own (base := w.heap.size) (n := 0) (size := 1) B5.size rfl (by decide)
      have hrE := hr.ext (bA1 (o := .cells #[] 3))
      have hcs : ∀ j u, (M.map (Value.int .i64))[j]? = some u → (w5.alloc (.cells #[] 3)).cell? ((⟨bM, oM, none⟩ : Addr).add j) = some u := fun j u hu => rd_add hrE j u hu
      have hll : (M.map (Value.int .i64)).length = 16 * 1 := by rw [List.length_map, LM.out]
      have hone : ∀ u ∈ M.map (Value.int .i64), u.oneCell' = true := fun u hu => by
        obtain ⟨x, _, rfl⟩ := List.mem_map.1 hu
        rfl
      have hB5s := B5.size
      have LX := Lib.hid (fun j (h : (Value.slice AX nL cX).ownBlock = some j) => (own_lt OX.out h).2.1)
      clear rE hrE
      have Hnb := Lib.hid hnb
      clear hnb
      have rBE := rB.alloc (.cells #[] 3)
      obtain ⟨d0, d1, _, _⟩ := rBE.two
      clear c0 c1
      have hx := (skyV_iff.1 HM.out).2 (M.getD k 0) (getD_mem (d := 0) (by rw [LM.out]; exact hpk))
      have px := ints_at' (l := M) (c := k) (by rw [LM.out]; exact hpk)
      obtain ⟨x, hxe⟩ : ∃ x, M.getD k 0 = x := ⟨_, rfl⟩
      rw [hxe] at hx px
      have hnb := Hnb.out
      have j6 : IntKind.i64.wrap (x + n) = x + n := IntWalk.i64_in _ (by omega)
      have Px := Lib.hid px
      have Hxe := Lib.hid hxe
      clear px hxe
      obtain ⟨M2, hM2⟩ : ∃ M2, M.set k (x + n) = M2 := ⟨_, rfl⟩
      have lM2 : M2.length = 16 := by rw [← hM2, List.length_set]; exact LM.out
      have hstep : cleanStep b (M, L) = if (skyV M2 && skyV L2) = true then some (M2, L2) else none := by
        unfold cleanStep
        dsimp only
        rw [Hm.out, Hy.out, Hn.out, Hk.out, Hxe.out, hM2, HL2.out, HM.out, HL.out, Hb.out, if_pos ⟨rfl, rfl, by omega⟩, if_pos ⟨hm0, by omega⟩]
      have HM2 := Lib.hid hM2
      have HlM2 := Lib.hid lM2
      have Hstep := Lib.hid hstep
      have Hok := Lib.hid hok
      clear hM2 lM2 hstep hok
      cases ok
      · have HNO := Lib.hid (show cleanStep b (M, L) = none by rw [Hstep.out, Hok.out, Bool.and_false]; rfl)
        go_wp2_with (
          at_builtin
          refine wpList_append_own_at _ rfl _ _ 32 rfl w.heap.size 3 i0 (.int .i64 0) 1 8 (by kernel_rfl) hi hz0 hz1 hz2 rfl (by decide) _ 0 _ rfl oE ⟨bM, oM, none⟩ 16 ca _ rfl hll hcs hone (by unfold maxLen; omega) (by omega) (by simp; omega) ?_
          intro v' w7 hown' hgrow _ hat
          rw [Nat.zero_add, List.nil_append] at hown'
          obtain ⟨g, cap', rfl⟩ := ownsRow_succ hown'
          obtain ⟨_, e1, hBg, hob, hc0, hf0, hset⟩ := own_set hown' Px.out
          cases e1
          have hgE : w5.heap.size ≤ g := by
            rcases hat with h | h
            · have h2 : some g = some w5.heap.size := h
              injection h2 with h2; omega
            · have h2 : some g = some (w5.alloc (.cells #[] 3)).heap.size := h
              injection h2 with h2
              rw [World.size_alloc] at h2; omega
          have B7 := (B5.alloc hB5s (.cells #[] 3)).grown hgrow (by simp; omega) fun j hj => (own_lt oE hj).1
          have oX7 := own_over (own_ext OX.out (bA1 (o := .cells #[] 3))) hgrow (fun j hj e => by have := LX.out j hj; have e2 : some w5.heap.size = some j := e; injection e2 with e2; omega)
          have rR7 := (rR.alloc (.cells #[] 3)).grown hgrow (fun e => by have e2 : some (w.heap.size + 1) = some w5.heap.size := e; injection e2 with e2; have := rR.lt; omega)
          have hgR : w.heap.size + 1 ≠ g := by have := rR.lt; omega
          have hgX : ∀ j, (Value.slice AX nL cX).ownBlock = some j → j ≠ g := fun j hj => by have := LX.out j hj; omega
          have oS := hset (.int .i64 (x + n))
          rw [← List.map_set] at oS
          have rRS := rR7.far (p := ⟨g, k, none⟩) hgR (.int .i64 (x + n))
          have oXS := own_over oX7 (grown_set w7 g k (.int .i64 (x + n))) (fun j hj e => by cases e; exact hgX g hj rfl)
          have BS := B7.setCell (p := ⟨g, k, none⟩) hBg (.int .i64 (x + n))
          obtain ⟨q0, q1, q2, q3⟩ := rRS.two
          have HS := Lib.hid (And.intro oS oXS)
          have HBS := Lib.hid BS
          clear oS oXS BS oX7 B7 hset hgX hat hob hown' hgrow)
        exact bodyPost_ret (v := .tuple #[.agg #[.slice none 0 0, .slice none 0 0], .bool false]) (by simp [results, Tryz.results191, go_sem, q0, q1]) rfl ⟨(HBS.out.setCell (p := ⟨w.heap.size + 1, 0, none⟩) (by show w.heap.size ≤ w.heap.size + 1; omega) _).setCell (p := ⟨w.heap.size + 1, 1, none⟩) (by show w.heap.size ≤ w.heap.size + 1; omega) _, .inr ⟨HNO.out, rfl⟩⟩
      · obtain rfl : nL = 16 := hnL rfl
        go_wp2_with (
          at_builtin
          refine wpList_append_own_at _ rfl _ _ 32 rfl w.heap.size 3 i0 (.int .i64 0) 1 8 (by kernel_rfl) hi hz0 hz1 hz2 rfl (by decide) _ 0 _ rfl oE ⟨bM, oM, none⟩ 16 ca _ rfl hll hcs hone (by unfold maxLen; omega) (by omega) (by simp; omega) ?_
          intro v' w7 hown' hgrow _ hat
          rw [Nat.zero_add, List.nil_append] at hown'
          obtain ⟨g, cap', rfl⟩ := ownsRow_succ hown'
          obtain ⟨_, e1, hBg, hob, hc0, hf0, hset⟩ := own_set hown' Px.out
          cases e1
          have hgE : w5.heap.size ≤ g := by
            rcases hat with h | h
            · have h2 : some g = some w5.heap.size := h
              injection h2 with h2; omega
            · have h2 : some g = some (w5.alloc (.cells #[] 3)).heap.size := h
              injection h2 with h2
              rw [World.size_alloc] at h2; omega
          have B7 := (B5.alloc hB5s (.cells #[] 3)).grown hgrow (by simp; omega) fun j hj => (own_lt oE hj).1
          have oX7 := own_over (own_ext OX.out (bA1 (o := .cells #[] 3))) hgrow (fun j hj e => by have := LX.out j hj; have e2 : some w5.heap.size = some j := e; injection e2 with e2; omega)
          have rR7 := (rR.alloc (.cells #[] 3)).grown hgrow (fun e => by have e2 : some (w.heap.size + 1) = some w5.heap.size := e; injection e2 with e2; have := rR.lt; omega)
          have hgR : w.heap.size + 1 ≠ g := by have := rR.lt; omega
          have hgX : ∀ j, (Value.slice AX 16 cX).ownBlock = some j → j ≠ g := fun j hj => by have := LX.out j hj; omega
          have oS := hset (.int .i64 (x + n))
          rw [← List.map_set] at oS
          have rRS := rR7.far (p := ⟨g, k, none⟩) hgR (.int .i64 (x + n))
          have oXS := own_over oX7 (grown_set w7 g k (.int .i64 (x + n))) (fun j hj e => by cases e; exact hgX g hj rfl)
          have BS := B7.setCell (p := ⟨g, k, none⟩) hBg (.int .i64 (x + n))
          obtain ⟨q0, q1, q2, q3⟩ := rRS.two
          have HS := Lib.hid (And.intro oS oXS)
          have HBS := Lib.hid BS
          clear oS oXS BS oX7 B7 hset hgX hat hob hown' hgrow)
        obtain ⟨W8, hW8⟩ : ∃ W8, w7.setCell ⟨g, k, none⟩ (.int .i64 (x + n)) = W8 := ⟨_, rfl⟩
        have hS := HS.out
        have hBS := HBS.out
        rw [HM2.out, hW8] at hS
        rw [hW8] at hBS rRS q0 q1 q2 q3 ⊢
        obtain ⟨oM8, oX8⟩ := hS
        have hnM := own_ne oM8 rRS (by decide)
        have hnX := own_ne oX8 rRS (by decide)
        clear hW8 HS HBS hc0 hf0
        have OM8 := Lib.hid oM8; clear oM8
        have OX8 := Lib.hid oX8; clear oX8
        have HnM := Lib.hid hnM; clear hnM
        have HnX := Lib.hid hnX; clear hnX
        refine (sSkyValid_any _ 16 cap' M2 _ HlM2.out (by omega) (Rd.of_own OM8.out)).mono ?_
        rintro e w9 ⟨rfl, rfl⟩
        cases hv : skyV M2
        · have HNO := Lib.hid (show cleanStep b (M, L) = none by rw [Hstep.out, hv]; rfl)
          have Hv := Lib.hid hv; clear hv
          go_wp2_with fail
          exact bodyPost_ret (v := .tuple #[.agg #[.slice none 0 0, .slice none 0 0], .bool false]) (by simp [results, Tryz.results191, go_sem, q0, q1]) rfl ⟨(hBS.setCell (p := ⟨w.heap.size + 1, 0, none⟩) (by show w.heap.size ≤ w.heap.size + 1; omega) _).setCell (p := ⟨w.heap.size + 1, 1, none⟩) (by show w.heap.size ≤ w.heap.size + 1; omega) _, .inr ⟨HNO.out, rfl⟩⟩
        · have HYES := Lib.hid (show cleanStep b (M, L) = some (M2, L2) by rw [Hstep.out, hv, Hok.out]; rfl)
          have Hv := Lib.hid hv; clear hv
          have oMF := own_over (own_over OM8.out (grown_set W8 (w.heap.size + 1) 0 (.slice (some ⟨g, 0, none⟩) 16 cap')) (fun j hj e => by injection e with e; exact HnM.out j hj e.symm)) (grown_set _ (w.heap.size + 1) 1 (.slice AX 16 cX)) (fun j hj e => by injection e with e; exact HnM.out j hj e.symm)
          have oXF := own_over (own_over OX8.out (grown_set W8 (w.heap.size + 1) 0 (.slice (some ⟨g, 0, none⟩) 16 cap')) (fun j hj e => by injection e with e; exact HnX.out j hj e.symm)) (grown_set _ (w.heap.size + 1) 1 (.slice AX 16 cX)) (fun j hj e => by injection e with e; exact HnX.out j hj e.symm)
          rw [List.take_of_length_le (by rw [LL2.out]; exact Nat.le_refl _)] at oXF
          have OMF := Lib.hid oMF
          have OXF := Lib.hid oXF
          clear oMF oXF
          go_wp2_with fail
          exact bodyPost_ret (v := .tuple #[.agg #[.slice (some ⟨g, 0, none⟩) 16 cap', .slice AX 16 cX], .bool true]) (by simp [results, Tryz.results191, go_sem, q0, q1]) rfl ⟨(hBS.setCell (p := ⟨w.heap.size + 1, 0, none⟩) (by show w.heap.size ≤ w.heap.size + 1; omega) _).setCell (p := ⟨w.heap.size + 1, 1, none⟩) (by show w.heap.size ≤ w.heap.size + 1; omega) _, .inl ⟨(M2, L2), HYES.out, _, _, rfl, OMF.out, OXF.out⟩⟩
end Go.Proofs.YtipgpafgampfbaaGreatDoor
