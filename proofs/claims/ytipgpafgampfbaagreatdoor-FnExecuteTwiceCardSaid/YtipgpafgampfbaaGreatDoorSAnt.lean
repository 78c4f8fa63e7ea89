/- 'spec.l51Ant', 'spec.l51Cell', 'spec.l51Known'. -/
import Derived.Test.YtipgpafgampfbaaGreatDoorAskS
import Derived.Test.YtipgpafgampfbaaGreatDoorCleanN
namespace Go.Proofs.YtipgpafgampfbaaGreatDoor
open Go.RowKit

set_option maxRecDepth 100000 in
set_option maxHeartbeats 1000000 in
theorem l51Ant_no (A : Option Addr) (n cap : Nat) (xs : List (Int × Int)) (a : Int × Int) (w : World) (hn : xs.length = n) (hb : n ≤ 1048576) (hno : addOk xs a = false) (hr : Rd w w.heap.size A (xs.flatMap pairCells)) :
    Calls Tryz.prog 99 #[.slice A n cap, .int .i64 a.1, .int .i64 a.2] w fun e w' => e = .returned (.tuple #[.slice A n cap, .bool false]) ∧ Below w.heap.size w w' := by
  have r0 := Row.new w 50 [.int .i64 a.1, .int .i64 a.2]
  have b0 := bA1 (w := w) (o := .cells #[.int .i64 a.1, .int .i64 a.2] 50)
  obtain ⟨c0, c1, _, _⟩ := r0.two
  have hcs : antOk a = false ∨ (antOk a = true ∧ (n = 7 ∨ (¬ n = 7 ∧ a ∈ xs))) := by
    unfold addOk at hno
    cases h1 : antOk a
    · exact .inl rfl
    · rw [h1] at hno
      refine .inr ⟨rfl, ?_⟩
      by_cases h2 : n = 7
      · exact .inl h2
      · refine .inr ⟨h2, ?_⟩
        have h3 : ¬ xs.length = 7 := by omega
        simpa [h3] using hno
  have Hn := Lib.hid hn; clear hn
  have Hcs := Lib.hid hcs; clear hcs
  go_enter Tryz.func99, Tryz.ntmps99
  go_wp2_with fail
  refine (l3Place_any a _).mono ?_
  rintro e w1 ⟨rfl, b1⟩
  have B1 := b0.trans (b1.mono b0.size)
  have r1 := r0.kept b1
  clear c0 c1 b1 r0 b0
  rcases Hcs.out with h1 | ⟨h1, h2 | ⟨h2, h3⟩⟩
  · rw [h1]
    have H1 := Lib.hid h1; clear h1
    go_wp2_with fail
    go_ret2
    exact ⟨rfl, B1⟩
  · rw [h1]
    have h7 : ((n : Int) == 7) = true := by rw [beq_iff_eq]; omega
    have H1 := Lib.hid h1; clear h1
    have H2 := Lib.hid h2; clear h2
    go_wp2_with fail
    go_ret2
    exact ⟨rfl, B1⟩
  · rw [h1]
    have h7 : ((n : Int) == 7) = false := by rw [beq_eq_false_iff_ne]; omega
    have H1 := Lib.hid h1; clear h1
    have H2 := Lib.hid h2; clear h2
    have H3 := Lib.hid h3; clear h3
    go_wp2_with fail
    go_loopw [9] (fun i wr => ∃ k : Nat, k ≤ n ∧ i = .int .i64 k ∧ a ∉ xs.take k ∧ Row wr w.heap.size 50 [.int .i64 a.1, .int .i64 a.2] ∧ Below w.heap.size w wr) (fun i _ => n - (intOf i).toNat)
    case atStart => exact ⟨0, by omega, rfl, by simp, r1, B1⟩
    case round =>
      clear r1 B1
      obtain ⟨k, hk, rfl, hni, r0, hbel⟩ := hrel
      obtain ⟨c0, c1, _, _⟩ := r0.two
      have hr' := hr.below hbel
      by_cases hlt : k < n
      · have hts := take_succ_getD (l := xs) (d := (0, 0)) (k := k) (by rw [Hn.out]; exact hlt)
        obtain ⟨b, off, rfl, hb2, hc1, hc1'⟩ := rd_pair hr' (getD_of (gs := xs) (k := k) (by rw [Hn.out]; exact hlt))
        obtain ⟨x, hx⟩ : ∃ x, xs.getD k (0, 0) = x := ⟨_, rfl⟩
        rw [hx] at hts hc1 hc1'
        clear hx
        have Hbel := Lib.hid hbel; clear hbel
        have R0 := Lib.hid r0; clear r0
        have Hts := Lib.hid hts; clear hts
        have Hni := Lib.hid hni; clear hni
        by_cases hxa : x = a
        · subst hxa
          go_wp2_with fail
          go_quiet (fail)
          go_wp2_with fail
          go_ret2
          exact ⟨rfl, below_drewN Hbel.out _⟩
        · have Hxa := Lib.hid hxa
          rcases pair_bne hxa with h1 | ⟨h1, h2⟩
          all_goals
            clear hxa
            go_wp2_with fail
            go_quiet (fail)
            go_wp2_with fail
            go_roundw
            case measure => simp [intOf]; omega
            case rel =>
              refine ⟨k + 1, by omega, by go_num, ?_, R0.out.drewN _, below_drewN Hbel.out _⟩
              rw [Hts.out]
              simp only [List.mem_append, List.mem_singleton, not_or]
              exact ⟨Hni.out, fun e => Hxa.out e.symm⟩
      · obtain rfl : k = n := by omega
        rw [List.take_of_length_le (by rw [Hn.out]; exact Nat.le_refl _)] at hni
        exact absurd H3.out hni

set_option maxRecDepth 100000 in
set_option maxHeartbeats 1000000 in
theorem l51Ant_yes (g n cap : Nat) (xs : List (Int × Int)) (a : Int × Int) (w : World) (hn : xs.length = n) (hb : n ≤ 7) (hyes : addOk xs a = true) (hr : Rd w w.heap.size (some ⟨g, 0, none⟩) (xs.flatMap pairCells)) :
    Calls Tryz.prog 99 #[.slice (some ⟨g, 0, none⟩) n cap, .int .i64 a.1, .int .i64 a.2] w fun e w' => ∃ g' c', e = .returned (.tuple #[.slice (some ⟨g', 0, none⟩) (n + 1) c', .bool true]) ∧ w'.ownsRow w.heap.size 50 2 (.slice (some ⟨g', 0, none⟩) (n + 1) c') (n + 1) ((xs ++ [a]).flatMap pairCells) ∧ Below w.heap.size w w' := by
  obtain ⟨i0, hi, hz0, hz1, hz2⟩ := info_parts antInfo
  have r0 := Row.new w 50 [.int .i64 a.1, .int .i64 a.2]
  have b0 := bA1 (w := w) (o := .cells #[.int .i64 a.1, .int .i64 a.2] 50)
  obtain ⟨c0, c1, _, _⟩ := r0.two
  unfold addOk at hyes
  rw [Bool.and_eq_true, Bool.and_eq_true] at hyes
  obtain ⟨h1, h7, hm⟩ := hyes
  have h7 : ¬ n = 7 := by rw [← hn]; simpa using h7
  have hm : a ∉ xs := by simpa using hm
  have h7i : ((n : Int) == 7) = false := by rw [beq_eq_false_iff_ne]; omega
  have hfl : (xs.flatMap pairCells).length = n * 2 := by rw [pairCells_len, hn]
  have hone : ∀ u ∈ xs.flatMap pairCells, u.oneCell' = true := fun u hu => by
    obtain ⟨x, _, hx⟩ := List.mem_flatMap.1 hu
    simp only [pairCells, List.mem_cons, List.not_mem_nil, or_false] at hx
    rcases hx with rfl | rfl <;> rfl
  have Hn := Lib.hid hn; clear hn
  have Hm := Lib.hid hm; clear hm
  have H1 := Lib.hid h1; clear h1
  have Hfl := Lib.hid hfl; clear hfl
  go_enter Tryz.func99, Tryz.ntmps99
  go_wp2_with fail
  refine (l3Place_any a _).mono ?_
  rintro e w1 ⟨rfl, b1⟩
  have B1 := b0.trans (b1.mono b0.size)
  have r1 := r0.kept b1
  rw [H1.out]
  clear c0 c1 b1 r0 b0
  go_wp2_with fail
  go_loopw [9] (fun i wr => ∃ k : Nat, k ≤ n ∧ i = .int .i64 k ∧ Row wr w.heap.size 50 [.int .i64 a.1, .int .i64 a.2] ∧ Below w.heap.size w wr) (fun i _ => n - (intOf i).toNat)
  case atStart => exact ⟨0, by omega, rfl, r1, B1⟩
  case round =>
    clear r1 B1
    obtain ⟨k, hk, rfl, r0, hbel⟩ := hrel
    obtain ⟨c0, c1, _, _⟩ := r0.two
    have hr' := hr.below hbel
    by_cases hlt : k < n
    · have hmem : xs.getD k (0, 0) ∈ xs := getD_mem (by rw [Hn.out]; exact hlt)
      obtain ⟨b, off, hbe, hb2, hc1, hc1'⟩ := rd_pair hr' (getD_of (gs := xs) (k := k) (by rw [Hn.out]; exact hlt))
      cases hbe
      rw [Nat.zero_add] at hc1 hc1'
      obtain ⟨x, hx⟩ : ∃ x, xs.getD k (0, 0) = x := ⟨_, rfl⟩
      rw [hx] at hmem hc1 hc1'
      clear hx
      have hxa : ¬ x = a := fun e => Hm.out (e ▸ hmem)
      have Hbel := Lib.hid hbel; clear hbel
      have R0 := Lib.hid r0; clear r0
      have Hmem := Lib.hid hmem; clear hmem
      rcases pair_bne hxa with h1 | ⟨h1, h2⟩
      all_goals
        clear hxa
        go_wp2_with fail
        go_quiet (fail)
        go_wp2_with fail
        go_roundw
        case measure => simp [intOf]; omega
        case rel => exact ⟨k + 1, by omega, by go_num, R0.out.drewN _, below_drewN Hbel.out _⟩
    · obtain rfl : n = k := by omega
      have R0 := Lib.hid r0
      have hbel2 := Lib.hid hbel
      clear r0 hbel
      have hbel := hbel2.out
      have Hone := Lib.hid hone
      clear hone
      go_wp2_with fail
      refine wp_region_T [0, 2, 4, 5, 6, 7] [] [false, true, false, true, false, false, false, false] 6 (Below wr.heap.size wr)
        (fun a' w' => ∃ E X Al cl gr cr, a' = ⟨#[.slice (some ⟨g, 0, none⟩) n cap, .int .i64 a.1, .int .i64 a.2, undef, undef, undef, .slice (some ⟨gr, 0, none⟩) (n + 1) cr, .bool true, .pointer (some ⟨w.heap.size, 0, none⟩), .int .i64 n, .int .i64 a.1, .int .i64 a.2, .agg #[.int .i64 a.1, .int .i64 a.2], .agg #[.int .i64 a.1, .int .i64 a.2], .bool true, .bool false, .bool false, .slice (some ⟨g, 0, none⟩) n cap, .int .i64 n, .bool false, .bool false, undef, .int .i64 n, .slice (some ⟨g, 0, none⟩) n cap, .int .i64 n, .bool false, u26, u27, u28, u29, u30, u31, u32, u33, u34, .slice (some ⟨E, 0, none⟩) 0 0, .slice (some ⟨g, 0, none⟩) n cap, .slice Al n cl, .agg #[.int .i64 a.1, .int .i64 a.2], .slice (some ⟨X, 0, none⟩) 1 1, .slice (some ⟨gr, 0, none⟩) (n + 1) cr], []⟩ ∧ w'.ownsRow wr.heap.size 50 2 (.slice (some ⟨gr, 0, none⟩) (n + 1) cr) (n + 1) ((xs.flatMap pairCells) ++ [.int .i64 a.1, .int .i64 a.2]) ∧ Below wr.heap.size wr w')
        (by kernel_rfl) (by kernel_rfl) (fun _ _ h h' => h.trans (h'.mono h.size)) (Below.refl _ _).drew ?next ?walk
      case next =>
        rintro a' V ⟨E, X, Al, cl, gr, cr, rfl, or, hB⟩
        have B2 := hbel.trans (hB.mono hbel.size)
        have or := or.mono hbel.size
        have OR := Lib.hid or
        clear or
        simp only [Exit.then]
        go_wp2_with fail
        go_ret2
        exact ⟨gr, cr, rfl, by rw [List.flatMap_append]; exact OR.out, B2⟩
      case walk =>
        have hr1 := hr'.more hbel.size
        refine wpStill_skip rfl ?_
        refine wpStill_go (v := .slice (some ⟨g, 0, none⟩) n cap) rfl rfl (stays_run fun w' h => ex_move rfl rfl) ?_
        simp only [Act.put, List.setIfInBounds_toArray, List.set_cons_succ, List.set_cons_zero]
        refine wpStill_skip rfl ?_
        refine wpStill_go (v := .agg #[.int .i64 a.1, .int .i64 a.2]) rfl rfl (stays_run fun w' h => ex_load rfl rfl (ld_two (by kernel_rfl) (by kernel_rfl) ((R0.out.kept ‹_›).cell 0) ((R0.out.kept ‹_›).cell 1))) ?_
        simp only [Act.put, List.setIfInBounds_toArray, List.set_cons_succ, List.set_cons_zero]
        refine wpStill_skip rfl (wpStill_skip rfl (wpStill_skip rfl (wpStill_skip rfl (wpStill_nil ?_))))
        have F : Below wr.heap.size wr wr.drew := (Below.refl _ _).drew
        refine wpTree_two (i := 0) (j := 4) (by kernel_rfl) rfl rfl rfl rfl (fun m1 hm1 K hK => ?_) (fun m1 hm1 K hK => ?_)
        {
        have F := F.trans (hm1.mono F.size)
        go_wp2_with fail
        have lE := F.size
        have rE := Row.new m1 50 []
        have bv := bA1 (w := m1) (o := .cells #[] 50)
        have F := F.trans (bv.mono F.size)
        refine hK _ _ (fun _ => F) ?_
        clear hK bv
        obtain ⟨E, hB⟩ : ∃ E, m1.heap.size = E := ⟨_, rfl⟩
        obtain ⟨V1, hV⟩ : ∃ V, m1.alloc (.cells #[] 50) = V := ⟨_, rfl⟩
        rw [hV] at rE F ⊢
        rw [hB] at rE lE ⊢
        clear hB hV
        refine wpTree_two (i := 2) (j := 4) (by kernel_rfl) rfl rfl rfl rfl (fun m2 hm2 K hK => ?_) (fun m2 hm2 K hK => ?_)
        {
        have F := F.trans (hm2.mono F.size)
        have rE := rE.kept hm2
        have oE := rE.own (base := wr.heap.size) (n := 0) (size := 2) lE rfl (by decide)
        have hrm := hr1.ext F
        have hcs : ∀ j u, (xs.flatMap pairCells)[j]? = some u → m2.cell? ((⟨g, 0, none⟩ : Addr).add j) = some u := fun j u hu => rd_add hrm j u hu
        refine wpList_append_own m2 rfl _ _ 26 rfl wr.heap.size 50 i0 (.agg #[.int .i64 0, .int .i64 0]) 2 16 (by kernel_rfl) hi hz0 hz1 hz2 rfl (by decide) (.slice (some ⟨E, 0, none⟩) 0 0) 0 _ rfl oE ⟨g, 0, none⟩ n cap _ rfl Hfl.out hcs Hone.out (by unfold maxLen; omega) (by omega) F.size ?_
        intro v' n2 hown' hgrow _
        have sz := F.size
        have F := F.grown hgrow sz fun j hj => (own_lt oE hj).1
        rw [Nat.zero_add, List.nil_append] at hown'
        obtain ⟨Al, cl, rfl⟩ := own_form hown'
        have ol := hown'
        clear hown' hgrow oE rE hcs hrm sz
        simp only [Act.put, List.getElem_toArray, List.getElem_cons_succ, List.getElem_cons_zero, List.setIfInBounds_toArray, List.set_cons_succ, List.set_cons_zero]
        go_wp2_with fail
        refine hK _ _ (fun _ => F) ?_
        clear hK
        refine wpTree_one (i := 4) (by kernel_rfl) rfl rfl (fun m3 hm3 K hK => ?_)
        have F := F.trans (hm3.mono F.size)
        have ol := own_ext ol hm3
        go_wp2_with fail
        have lX := F.size
        have rX := Row.new m3 50 [.int .i64 a.1, .int .i64 a.2]
        have bv := bA1 (w := m3) (o := .cells #[.int .i64 a.1, .int .i64 a.2] 50)
        have F := F.trans (bv.mono F.size)
        have ol := own_ext ol bv
        refine hK _ _ (fun _ => F) ?_
        clear hK bv
        obtain ⟨X, hB⟩ : ∃ X, m3.heap.size = X := ⟨_, rfl⟩
        obtain ⟨V3, hV⟩ : ∃ V, m3.alloc (.cells #[.int .i64 a.1, .int .i64 a.2] 50) = V := ⟨_, rfl⟩
        rw [hV] at rX ol F ⊢
        rw [hB] at rX lX ⊢
        clear hB hV
        refine wpTree_one (i := 5) (by kernel_rfl) rfl rfl (fun m4 hm4 K hK => ?_)
        have F := F.trans (hm4.mono F.size)
        have rX := rX.kept hm4
        have ol := own_ext ol hm4
        refine wpList_append_own m4 rfl _ _ 26 rfl wr.heap.size 50 i0 (.agg #[.int .i64 0, .int .i64 0]) 2 16 (by kernel_rfl) hi hz0 hz1 hz2 rfl (by decide) (.slice Al n cl) n _ rfl ol ⟨X, 0, none⟩ 1 1 [.int .i64 a.1, .int .i64 a.2] rfl rfl (fun j u hj => by rw [← hj, ← rX.cell j]; exact congrArg _ (addr_add _ _)) (by simp [Value.oneCell']) (by unfold maxLen; omega) (by omega) F.size ?_
        intro v' n4 hown' hgrow _
        obtain ⟨gr, cr, rfl⟩ := ownsRow_succ hown'
        have sz := F.size
        have F := F.grown hgrow sz fun j hj => (own_lt ol hj).1
        have or := hown'
        clear hown' hgrow ol rX sz
        simp only [Act.put, List.getElem_toArray, List.getElem_cons_succ, List.getElem_cons_zero, List.setIfInBounds_toArray, List.set_cons_succ, List.set_cons_zero]
        go_wp2_with fail
        refine hK _ _ (fun _ => F) ?_
        clear hK
        refine wpTree_one (i := 6) (by kernel_rfl) rfl rfl (fun m5 hm5 K hK => ?_)
        have F := F.trans (hm5.mono F.size)
        have or := own_ext or hm5
        go_wp2_with fail
        refine hK _ _ (fun _ => F) ?_
        clear hK
        refine wpTree_one (i := 7) (by kernel_rfl) rfl rfl (fun m6 hm6 K hK => ?_)
        have F := F.trans (hm6.mono F.size)
        have or := own_ext or hm6
        go_wp2_with fail
        refine hK _ _ (fun _ => F) (wpTree_nil (by kernel_rfl) fun me hme => ?_)
        exact ⟨E, X, Al, cl, gr, cr, rfl, own_ext or hme, F.trans (hme.mono F.size)⟩
        }
        {
        have F := F.trans (hm2.mono F.size)
        have rE := rE.kept hm2
        go_wp2_with fail
        have lX := F.size
        have l_rE_X := rE.lt
        have rX := Row.new m2 50 [.int .i64 a.1, .int .i64 a.2]
        have bv := bA1 (w := m2) (o := .cells #[.int .i64 a.1, .int .i64 a.2] 50)
        have F := F.trans (bv.mono F.size)
        have rE := rE.kept bv
        refine hK _ _ (fun _ => F) ?_
        clear hK bv
        obtain ⟨X, hB⟩ : ∃ X, m2.heap.size = X := ⟨_, rfl⟩
        obtain ⟨V2, hV⟩ : ∃ V, m2.alloc (.cells #[.int .i64 a.1, .int .i64 a.2] 50) = V := ⟨_, rfl⟩
        rw [hV] at rE rX F ⊢
        rw [hB] at rX lX l_rE_X ⊢
        clear hB hV
        refine wpTree_one (i := 2) (by kernel_rfl) rfl rfl (fun m3 hm3 K hK => ?_)
        have F := F.trans (hm3.mono F.size)
        have rE := rE.kept hm3
        have rX := rX.kept hm3
        have oE := rE.own (base := wr.heap.size) (n := 0) (size := 2) lE rfl (by decide)
        have hrm := hr1.ext F
        have hcs : ∀ j u, (xs.flatMap pairCells)[j]? = some u → m3.cell? ((⟨g, 0, none⟩ : Addr).add j) = some u := fun j u hu => rd_add hrm j u hu
        refine wpList_append_own m3 rfl _ _ 26 rfl wr.heap.size 50 i0 (.agg #[.int .i64 0, .int .i64 0]) 2 16 (by kernel_rfl) hi hz0 hz1 hz2 rfl (by decide) (.slice (some ⟨E, 0, none⟩) 0 0) 0 _ rfl oE ⟨g, 0, none⟩ n cap _ rfl Hfl.out hcs Hone.out (by unfold maxLen; omega) (by omega) F.size ?_
        intro v' n3 hown' hgrow _
        have sz := F.size
        have F := F.grown hgrow sz fun j hj => (own_lt oE hj).1
        have rX := rX.grown hgrow (fun e => by have e2 : some X = some E := e; injection e2 with e2; omega)
        rw [Nat.zero_add, List.nil_append] at hown'
        obtain ⟨Al, cl, rfl⟩ := own_form hown'
        have ol := hown'
        clear hown' hgrow oE rE hcs hrm sz
        simp only [Act.put, List.getElem_toArray, List.getElem_cons_succ, List.getElem_cons_zero, List.setIfInBounds_toArray, List.set_cons_succ, List.set_cons_zero]
        go_wp2_with fail
        refine hK _ _ (fun _ => F) ?_
        clear hK
        refine wpTree_one (i := 5) (by kernel_rfl) rfl rfl (fun m4 hm4 K hK => ?_)
        have F := F.trans (hm4.mono F.size)
        have rX := rX.kept hm4
        have ol := own_ext ol hm4
        refine wpList_append_own m4 rfl _ _ 26 rfl wr.heap.size 50 i0 (.agg #[.int .i64 0, .int .i64 0]) 2 16 (by kernel_rfl) hi hz0 hz1 hz2 rfl (by decide) (.slice Al n cl) n _ rfl ol ⟨X, 0, none⟩ 1 1 [.int .i64 a.1, .int .i64 a.2] rfl rfl (fun j u hj => by rw [← hj, ← rX.cell j]; exact congrArg _ (addr_add _ _)) (by simp [Value.oneCell']) (by unfold maxLen; omega) (by omega) F.size ?_
        intro v' n4 hown' hgrow _
        obtain ⟨gr, cr, rfl⟩ := ownsRow_succ hown'
        have sz := F.size
        have F := F.grown hgrow sz fun j hj => (own_lt ol hj).1
        have or := hown'
        clear hown' hgrow ol rX sz
        simp only [Act.put, List.getElem_toArray, List.getElem_cons_succ, List.getElem_cons_zero, List.setIfInBounds_toArray, List.set_cons_succ, List.set_cons_zero]
        go_wp2_with fail
        refine hK _ _ (fun _ => F) ?_
        clear hK
        refine wpTree_one (i := 6) (by kernel_rfl) rfl rfl (fun m5 hm5 K hK => ?_)
        have F := F.trans (hm5.mono F.size)
        have or := own_ext or hm5
        go_wp2_with fail
        refine hK _ _ (fun _ => F) ?_
        clear hK
        refine wpTree_one (i := 7) (by kernel_rfl) rfl rfl (fun m6 hm6 K hK => ?_)
        have F := F.trans (hm6.mono F.size)
        have or := own_ext or hm6
        go_wp2_with fail
        refine hK _ _ (fun _ => F) (wpTree_nil (by kernel_rfl) fun me hme => ?_)
        exact ⟨E, X, Al, cl, gr, cr, rfl, own_ext or hme, F.trans (hme.mono F.size)⟩
        }
        }
        {
        have F := F.trans (hm1.mono F.size)
        go_wp2_with fail
        have lX := F.size
        have rX := Row.new m1 50 [.int .i64 a.1, .int .i64 a.2]
        have bv := bA1 (w := m1) (o := .cells #[.int .i64 a.1, .int .i64 a.2] 50)
        have F := F.trans (bv.mono F.size)
        refine hK _ _ (fun _ => F) ?_
        clear hK bv
        obtain ⟨X, hB⟩ : ∃ X, m1.heap.size = X := ⟨_, rfl⟩
        obtain ⟨V1, hV⟩ : ∃ V, m1.alloc (.cells #[.int .i64 a.1, .int .i64 a.2] 50) = V := ⟨_, rfl⟩
        rw [hV] at rX F ⊢
        rw [hB] at rX lX ⊢
        clear hB hV
        refine wpTree_one (i := 0) (by kernel_rfl) rfl rfl (fun m2 hm2 K hK => ?_)
        have F := F.trans (hm2.mono F.size)
        have rX := rX.kept hm2
        go_wp2_with fail
        have lE := F.size
        have l_rX_E := rX.lt
        have rE := Row.new m2 50 []
        have bv := bA1 (w := m2) (o := .cells #[] 50)
        have F := F.trans (bv.mono F.size)
        have rX := rX.kept bv
        refine hK _ _ (fun _ => F) ?_
        clear hK bv
        obtain ⟨E, hB⟩ : ∃ E, m2.heap.size = E := ⟨_, rfl⟩
        obtain ⟨V2, hV⟩ : ∃ V, m2.alloc (.cells #[] 50) = V := ⟨_, rfl⟩
        rw [hV] at rX rE F ⊢
        rw [hB] at rE lE l_rX_E ⊢
        clear hB hV
        refine wpTree_one (i := 2) (by kernel_rfl) rfl rfl (fun m3 hm3 K hK => ?_)
        have F := F.trans (hm3.mono F.size)
        have rX := rX.kept hm3
        have rE := rE.kept hm3
        have oE := rE.own (base := wr.heap.size) (n := 0) (size := 2) lE rfl (by decide)
        have hrm := hr1.ext F
        have hcs : ∀ j u, (xs.flatMap pairCells)[j]? = some u → m3.cell? ((⟨g, 0, none⟩ : Addr).add j) = some u := fun j u hu => rd_add hrm j u hu
        refine wpList_append_own m3 rfl _ _ 26 rfl wr.heap.size 50 i0 (.agg #[.int .i64 0, .int .i64 0]) 2 16 (by kernel_rfl) hi hz0 hz1 hz2 rfl (by decide) (.slice (some ⟨E, 0, none⟩) 0 0) 0 _ rfl oE ⟨g, 0, none⟩ n cap _ rfl Hfl.out hcs Hone.out (by unfold maxLen; omega) (by omega) F.size ?_
        intro v' n3 hown' hgrow _
        have sz := F.size
        have F := F.grown hgrow sz fun j hj => (own_lt oE hj).1
        have rX := rX.grown hgrow (fun e => by have e2 : some X = some E := e; injection e2 with e2; omega)
        rw [Nat.zero_add, List.nil_append] at hown'
        obtain ⟨Al, cl, rfl⟩ := own_form hown'
        have ol := hown'
        clear hown' hgrow oE rE hcs hrm sz
        simp only [Act.put, List.getElem_toArray, List.getElem_cons_succ, List.getElem_cons_zero, List.setIfInBounds_toArray, List.set_cons_succ, List.set_cons_zero]
        go_wp2_with fail
        refine hK _ _ (fun _ => F) ?_
        clear hK
        refine wpTree_one (i := 5) (by kernel_rfl) rfl rfl (fun m4 hm4 K hK => ?_)
        have F := F.trans (hm4.mono F.size)
        have rX := rX.kept hm4
        have ol := own_ext ol hm4
        refine wpList_append_own m4 rfl _ _ 26 rfl wr.heap.size 50 i0 (.agg #[.int .i64 0, .int .i64 0]) 2 16 (by kernel_rfl) hi hz0 hz1 hz2 rfl (by decide) (.slice Al n cl) n _ rfl ol ⟨X, 0, none⟩ 1 1 [.int .i64 a.1, .int .i64 a.2] rfl rfl (fun j u hj => by rw [← hj, ← rX.cell j]; exact congrArg _ (addr_add _ _)) (by simp [Value.oneCell']) (by unfold maxLen; omega) (by omega) F.size ?_
        intro v' n4 hown' hgrow _
        obtain ⟨gr, cr, rfl⟩ := ownsRow_succ hown'
        have sz := F.size
        have F := F.grown hgrow sz fun j hj => (own_lt ol hj).1
        have or := hown'
        clear hown' hgrow ol rX sz
        simp only [Act.put, List.getElem_toArray, List.getElem_cons_succ, List.getElem_cons_zero, List.setIfInBounds_toArray, List.set_cons_succ, List.set_cons_zero]
        go_wp2_with fail
        refine hK _ _ (fun _ => F) ?_
        clear hK
        refine wpTree_one (i := 6) (by kernel_rfl) rfl rfl (fun m5 hm5 K hK => ?_)
        have F := F.trans (hm5.mono F.size)
        have or := own_ext or hm5
        go_wp2_with fail
        refine hK _ _ (fun _ => F) ?_
        clear hK
        refine wpTree_one (i := 7) (by kernel_rfl) rfl rfl (fun m6 hm6 K hK => ?_)
        have F := F.trans (hm6.mono F.size)
        have or := own_ext or hm6
        go_wp2_with fail
        refine hK _ _ (fun _ => F) (wpTree_nil (by kernel_rfl) fun me hme => ?_)
        exact ⟨E, X, Al, cl, gr, cr, rfl, own_ext or hme, F.trans (hme.mono F.size)⟩
        }
end Go.Proofs.YtipgpafgampfbaaGreatDoor
