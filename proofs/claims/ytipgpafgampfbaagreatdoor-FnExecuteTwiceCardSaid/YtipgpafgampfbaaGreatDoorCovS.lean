/- 'spec.CoverOf'; 'laws.sameFlags'. -/
import Derived.Test.YtipgpafgampfbaaGreatDoorB2
namespace Go.Proofs.YtipgpafgampfbaaGreatDoor
open Go.RowKit

theorem pairsN_in {n i j : Nat} (h : i < j) (hj : j < n) : (i, j) ∈ pairsN n := by
  unfold pairsN upTo
  refine List.mem_flatMap.2 ⟨i, List.mem_range.2 (by omega), ?_⟩
  unfold rowOf
  exact List.mem_map.2 ⟨j - (i + 1), List.mem_range.2 (by omega), by simp; omega⟩
/-- The cells that the ordered pairs ahead of (i, j) set. -/
def covF (xs : List (Int × Int)) (n i j k : Nat) : Bool := (List.range i).any (fun a => (List.range n).any fun b => !(a == b) && vecC xs a b == k) || (List.range j).any fun b => !(i == b) && vecC xs i b == k
def covK (xs : List (Int × Int)) (n i j : Nat) : List Bool := (List.range 16).map (covF xs n i j)
theorem covK_len (xs : List (Int × Int)) (n i j : Nat) : (covK xs n i j).length = 16 := by simp [covK]
theorem covK_el (xs : List (Int × Int)) (n i j k : Nat) (h : k < (covK xs n i j).length) : (covK xs n i j)[k] = covF xs n i j k := by simp [covK]
theorem covK_zero (xs : List (Int × Int)) (n : Nat) : covK xs n 0 0 = List.replicate 16 false := by
  unfold covK
  rw [show covF xs n 0 0 = fun _ => false from funext fun _ => by simp [covF]]
  rfl
theorem covK_same (xs : List (Int × Int)) (n i : Nat) : covK xs n i (i + 1) = covK xs n i i := by
  unfold covK covF
  refine List.map_congr_left fun k _ => ?_
  rw [List.range_succ, List.any_append]; simp
theorem covK_succ (xs : List (Int × Int)) (n i j : Nat) (h : i ≠ j) : covK xs n i (j + 1) = (covK xs n i j).set (vecC xs i j) true := by
  apply List.ext_getElem
  · rw [List.length_set, covK_len, covK_len]
  · intro k h1 h2
    rw [List.getElem_set]
    refine Eq.trans (covK_el xs n i (j + 1) k h1) ?_
    have e0 := covK_el xs n i j k (by rw [covK_len]; rw [covK_len] at h1; exact h1)
    have hij : (i == j) = false := beq_eq_false_iff_ne.2 h
    by_cases e : vecC xs i j = k
    · rw [if_pos e]; unfold covF; rw [List.range_succ, List.any_append]; simp [hij, e]
    · rw [if_neg e, e0]; unfold covF; rw [List.range_succ, List.any_append]; simp only [List.any_cons, List.any_nil, Bool.or_false]; rw [show (vecC xs i j == k) = false from beq_eq_false_iff_ne.2 e]; simp
theorem covK_row (xs : List (Int × Int)) (n i : Nat) : covK xs n (i + 1) 0 = covK xs n i n := by
  unfold covK covF
  refine List.map_congr_left fun k _ => ?_
  rw [List.range_succ, List.any_append]; simp
theorem covK_all (xs : List (Int × Int)) : covK xs xs.length xs.length 0 = covL xs := by
  apply List.ext_getElem
  · rw [covK_len, covL_len]
  · intro k h1 h2
    have hk : k < 16 := by rw [covK_len] at h1; exact h1
    have e := covL_get xs k hk
    have e2 : (covL xs).getD k false = (covL xs)[k] := by rw [List.getD_eq_getElem?_getD, List.getElem?_eq_getElem h2]; rfl
    rw [e2] at e
    refine Eq.trans (covK_el xs xs.length xs.length 0 k h1) ?_
    refine Bool.eq_iff_iff.2 (Iff.trans ?_ e.symm)
    unfold covF
    simp only [List.range_zero, List.any_nil, Bool.or_false, List.any_eq_true, List.mem_range, Bool.and_eq_true, Bool.not_eq_true', beq_eq_false_iff_ne, beq_iff_eq]
    constructor
    · rintro ⟨a, ha, b, hb, hab, hv⟩
      rcases Nat.lt_or_gt_of_ne hab with h | h
      · exact ⟨(a, b), pairsN_in h hb, .inl hv⟩
      · exact ⟨(b, a), pairsN_in h ha, .inr (by rw [← hv]; exact (vecC_swap xs b a).symm)⟩
    · rintro ⟨⟨a, b⟩, hp, hv⟩
      obtain ⟨h1', h2'⟩ := mem_pairsN hp
      dsimp only at h1' h2' hv
      rcases hv with hv | hv
      · exact ⟨a, by omega, b, h2', by omega, hv⟩
      · exact ⟨b, h2', a, by omega, by omega, by rw [vecC_swap]; exact hv⟩

theorem sCoverOf_no (A : Option Addr) (n cap : Nat) (xs : List (Int × Int)) (w : World) (hn : xs.length = n) (hb : n ≤ 1048576) (hv : arrV xs = false) (hr : Rd w w.heap.size A (xs.flatMap pairCells)) :
    Calls Tryz.prog 29 #[.slice A n cap] w fun e w' => ∃ B c, e = .returned (.tuple #[.slice B 0 c, .bool false]) ∧ Below w.heap.size w w' := by
  have Hn := Lib.hid hn; clear hn
  have Hv := Lib.hid hv; clear hv
  go_enter Tryz.func29, Tryz.ntmps29
  go_wp2_with fail
  refine (sArrayValid_any A n cap xs _ Hn.out hb hr).mono ?_
  rintro e w1 ⟨rfl, b1⟩
  rw [Hv.out]
  go_wp2_with fail
  go_ret2
  exact ⟨_, _, rfl, b1.alloc b1.size _⟩
set_option maxRecDepth 100000 in
set_option maxHeartbeats 1000000 in
theorem sCoverOf_yes (A : Option Addr) (n cap : Nat) (xs : List (Int × Int)) (w : World) (hn : xs.length = n) (hv : arrV xs = true) (hr : Rd w w.heap.size A (xs.flatMap pairCells)) :
    Calls Tryz.prog 29 #[.slice A n cap] w fun e w' => ∃ g, e = .returned (.tuple #[.slice (some ⟨g, 0, none⟩) 16 16, .bool true]) ∧ w.heap.size ≤ g ∧ Row w' g 4 ((covL xs).map Value.bool) ∧ Below w.heap.size w w' := by
  have hl := arrV_len hv
  have hgl := arrV_gLe hv
  have hmk : ∀ W : World, (Instr.makeSlice 33 (.int .i64 16) (.int .i64 16)).run Tryz.prog W = .ok (.slice (some ⟨W.heap.size, 0, none⟩) 16 16) (W.alloc (.cells (List.replicate 16 (Value.bool false)).toArray 4)) := fun W => run_make1 (P := Tryz.prog) 33 4 (.bool false) 1 Tryz.underlying33 (by kernel_rfl) rfl 16 (by omega) (by omega) W
  have hrep : List.replicate 16 (Value.bool false) = (covK xs n 0 0).map Value.bool := by rw [covK_zero]; rfl
  have hall := covK_all xs
  rw [hn] at hall hl
  rw [hrep] at hmk
  have Hn := Lib.hid hn; clear hn
  have Hv := Lib.hid hv; clear hv
  have Hall := Lib.hid hall; clear hall
  clear hrep
  go_enter Tryz.func29, Tryz.ntmps29
  go_wp2_with fail
  refine (sArrayValid_any A n cap xs _ Hn.out (by omega) hr).mono ?_
  rintro e w1 ⟨rfl, b1⟩
  rw [Hv.out]
  go_wp2_with fail
  refine (l21Cells_any _).mono ?_
  rintro e w' ⟨rfl, rfl⟩
  have r0 := Row.new w1 4 ((covK xs n 0 0).map Value.bool)
  have hg := b1.size
  have B0 := b1.alloc hg (.cells ((covK xs n 0 0).map Value.bool).toArray 4)
  go_wp2_with fail
  clear hmk b1
  generalize w1.heap.size = g at *
  go_loopw [5] (fun i wr => ∃ a : Nat, a ≤ n ∧ i = .int .i64 a ∧ Row wr g 4 ((covK xs n a 0).map Value.bool) ∧ Below w.heap.size w wr) (fun i _ => n - (intOf i).toNat)
  case atStart => exact ⟨0, by omega, rfl, r0, B0⟩
  case round =>
    clear r0 B0
    obtain ⟨a, ha, rfl, hrow, hbel⟩ := hrel
    by_cases hlt : a < n
    · go_wp2_with fail
      go_loopw [6] (fun i wr => ∃ b : Nat, b ≤ n ∧ i = .int .i64 b ∧ Row wr g 4 ((covK xs n a b).map Value.bool) ∧ Below w.heap.size w wr) (fun i _ => n - (intOf i).toNat)
      case atStart => exact ⟨0, by omega, rfl, hrow, hbel⟩
      case round =>
        clear hrow hbel
        obtain ⟨b, hb, rfl, hrow, hbel⟩ := hrel
        by_cases hlt2 : b < n
        · by_cases hab : a = b
          · subst hab
            have e := covK_same xs n a
            rw [← e] at hrow
            have Hrow := Lib.hid hrow; clear hrow
            have E := Lib.hid e; clear e
            go_wp2_with fail
            go_roundw
            case measure => simp [intOf]; omega
            case rel => exact ⟨a + 1, by omega, by go_num, Hrow.out, hbel⟩
          · have hr1 := hr.below hbel
            have hx := gLe_get hgl (by omega) a
            have hy := gLe_get hgl (by omega) b
            have hse := covK_succ xs n a b hab
            have hvl := vecC_lt xs a b
            have hvc : vecC xs a b = cellN ((xs.getD b (0, 0)).1 - (xs.getD a (0, 0)).1) ((xs.getD b (0, 0)).2 - (xs.getD a (0, 0)).2) := rfl
            have hg1 := getD_of (gs := xs) (k := a) (by rw [Hn.out]; exact hlt)
            have hg2 := getD_of (gs := xs) (k := b) (by rw [Hn.out]; exact hlt2)
            obtain ⟨x, ex⟩ : ∃ x, xs.getD a (0, 0) = x := ⟨_, rfl⟩
            obtain ⟨y, ey⟩ : ∃ y, xs.getD b (0, 0) = y := ⟨_, rfl⟩
            rw [ex] at hx hg1 hvc
            rw [ey] at hy hg2 hvc
            clear ex ey
            obtain ⟨v, ev⟩ : ∃ v, vecC xs a b = v := ⟨_, rfl⟩
            rw [ev] at hvl hse hvc
            clear ev
            obtain ⟨bb, off, rfl, hbb, hc1, hc2⟩ := rd_pair hr1 hg1
            obtain ⟨_, _, e, _, hc3, hc4⟩ := rd_pair hr1 hg2
            cases e
            have hcell : cellI (y.1 - x.1) (y.2 - x.2) = (v : Int) := by rw [hvc]; exact cellN_cast _ _
            have hbs := hbel.size
            have hglt := hrow.lt
            have i1 : IntKind.i64.wrap (y.1 - x.1) = y.1 - x.1 := IntWalk.i64_in _ (by omega)
            have i2 : IntKind.i64.wrap (y.2 - x.2) = y.2 - x.2 := IntWalk.i64_in _ (by omega)
            have hck : ∀ W : World, Calls Tryz.prog 66 #[.int .i64 (y.1 - x.1), .int .i64 (y.2 - x.2)] W fun e w' => e = .returned (.int .i64 (v : Int)) ∧ W = w' := fun W => by
              rw [← hcell]; exact l21At_any _ _ _
            have hlen := covK_len xs n a b
            obtain ⟨R, eR⟩ : ∃ R, covK xs n a b = R := ⟨_, rfl⟩
            rw [eR] at hrow hse hlen
            clear eR
            have hne : (((a : Int)) == (b : Int)) = false := beq_eq_false_iff_ne.2 (by omega)
            have hg0 : ∃ z, (R.map Value.bool)[v]? = some z := ⟨_, List.getElem?_eq_getElem (by rw [List.length_map, hlen]; exact hvl)⟩
            obtain ⟨z, hz⟩ := hg0
            clear hvc hcell
            have f1 : ∀ w', Below wr.heap.size wr w' → w'.cell? ⟨bb, off + a * 2, none⟩ = some (.int .i64 x.1) := fun w' h => (h.cell (p := ⟨bb, off + a * 2, none⟩) (by exact Nat.lt_of_lt_of_le hbb hbs)).trans hc1
            have f2 : ∀ w', Below wr.heap.size wr w' → w'.cell? ⟨bb, off + a * 2 + 1, none⟩ = some (.int .i64 x.2) := fun w' h => (h.cell (p := ⟨bb, off + a * 2 + 1, none⟩) (by exact Nat.lt_of_lt_of_le hbb hbs)).trans hc2
            have f3 : ∀ w', Below wr.heap.size wr w' → w'.cell? ⟨bb, off + b * 2, none⟩ = some (.int .i64 y.1) := fun w' h => (h.cell (p := ⟨bb, off + b * 2, none⟩) (by exact Nat.lt_of_lt_of_le hbb hbs)).trans hc3
            have f4 : ∀ w', Below wr.heap.size wr w' → w'.cell? ⟨bb, off + b * 2 + 1, none⟩ = some (.int .i64 y.2) := fun w' h => (h.cell (p := ⟨bb, off + b * 2 + 1, none⟩) (by exact Nat.lt_of_lt_of_le hbb hbs)).trans hc4
            have Hse := Lib.hid hse; clear hse
            have Hlen := Lib.hid hlen; clear hlen
            have Hz := Lib.hid hz; clear hz
            have Hg1 := Lib.hid hg1; clear hg1
            have Hg2 := Lib.hid hg2; clear hg2
            have I1 := Lib.hid i1; clear i1
            have I2 := Lib.hid i2; clear i2
            have Hne := Lib.hid hne; clear hne
            go_wp2_with fail
            refine wp_region_N [25] [25] (by kernel_rfl) (by kernel_rfl) ?_
            refine wpStill_go (v := .slice (some ⟨g, 0, none⟩) 16 16) rfl rfl (stays_run fun w' h => ex_move rfl rfl) ?_
            simp only [Act.put, List.setIfInBounds_toArray, List.set_cons_succ, List.set_cons_zero]
            refine wpStill_go (v := .slice (some ⟨bb, off, none⟩) n cap) rfl rfl (stays_run fun w' h => ex_move rfl rfl) ?_
            simp only [Act.put, List.setIfInBounds_toArray, List.set_cons_succ, List.set_cons_zero]
            refine wpStill_go (v := .int .i64 b) rfl rfl (stays_run fun w' h => ex_move rfl rfl) ?_
            simp only [Act.put, List.setIfInBounds_toArray, List.set_cons_succ, List.set_cons_zero]
            refine wpStill_go (v := .pointer (some ⟨bb, off + b * 2, none⟩)) rfl rfl (stays_run fun w' h => ex_index rfl (by kernel_rfl) (by kernel_rfl) rfl rfl (hlt2)) ?_
            simp only [Act.put, List.setIfInBounds_toArray, List.set_cons_succ, List.set_cons_zero]
            refine wpStill_go (v := .pointer (some ⟨bb, off + b * 2, none⟩)) rfl rfl (stays_run fun w' h => by simp [go_sem]) ?_
            simp only [Act.put, List.setIfInBounds_toArray, List.set_cons_succ, List.set_cons_zero]
            refine wpStill_go (v := .int .i64 y.1) rfl rfl (stays_run fun w' h => ex_load rfl rfl (ld_one (by kernel_rfl) (f3 w' h))) ?_
            simp only [Act.put, List.setIfInBounds_toArray, List.set_cons_succ, List.set_cons_zero]
            refine wpStill_go (v := .slice (some ⟨bb, off, none⟩) n cap) rfl rfl (stays_run fun w' h => ex_move rfl rfl) ?_
            simp only [Act.put, List.setIfInBounds_toArray, List.set_cons_succ, List.set_cons_zero]
            refine wpStill_go (v := .int .i64 a) rfl rfl (stays_run fun w' h => ex_move rfl rfl) ?_
            simp only [Act.put, List.setIfInBounds_toArray, List.set_cons_succ, List.set_cons_zero]
            refine wpStill_go (v := .pointer (some ⟨bb, off + a * 2, none⟩)) rfl rfl (stays_run fun w' h => ex_index rfl (by kernel_rfl) (by kernel_rfl) rfl rfl (hlt)) ?_
            simp only [Act.put, List.setIfInBounds_toArray, List.set_cons_succ, List.set_cons_zero]
            refine wpStill_go (v := .pointer (some ⟨bb, off + a * 2, none⟩)) rfl rfl (stays_run fun w' h => by simp [go_sem]) ?_
            simp only [Act.put, List.setIfInBounds_toArray, List.set_cons_succ, List.set_cons_zero]
            refine wpStill_go (v := .int .i64 x.1) rfl rfl (stays_run fun w' h => ex_load rfl rfl (ld_one (by kernel_rfl) (f1 w' h))) ?_
            simp only [Act.put, List.setIfInBounds_toArray, List.set_cons_succ, List.set_cons_zero]
            refine wpStill_go (v := .int .i64 (y.1 - x.1)) rfl rfl (stays_run fun w' h => by simp [go_sem, I1.out]) ?_
            simp only [Act.put, List.setIfInBounds_toArray, List.set_cons_succ, List.set_cons_zero]
            refine wpStill_go (v := .slice (some ⟨bb, off, none⟩) n cap) rfl rfl (stays_run fun w' h => ex_move rfl rfl) ?_
            simp only [Act.put, List.setIfInBounds_toArray, List.set_cons_succ, List.set_cons_zero]
            refine wpStill_go (v := .int .i64 b) rfl rfl (stays_run fun w' h => ex_move rfl rfl) ?_
            simp only [Act.put, List.setIfInBounds_toArray, List.set_cons_succ, List.set_cons_zero]
            refine wpStill_go (v := .pointer (some ⟨bb, off + b * 2, none⟩)) rfl rfl (stays_run fun w' h => ex_index rfl (by kernel_rfl) (by kernel_rfl) rfl rfl (hlt2)) ?_
            simp only [Act.put, List.setIfInBounds_toArray, List.set_cons_succ, List.set_cons_zero]
            refine wpStill_go (v := .pointer (some ⟨bb, off + b * 2 + 1, none⟩)) rfl rfl (stays_run fun w' h => by simp [go_sem]) ?_
            simp only [Act.put, List.setIfInBounds_toArray, List.set_cons_succ, List.set_cons_zero]
            refine wpStill_go (v := .int .i64 y.2) rfl rfl (stays_run fun w' h => ex_load rfl rfl (ld_one (by kernel_rfl) (f4 w' h))) ?_
            simp only [Act.put, List.setIfInBounds_toArray, List.set_cons_succ, List.set_cons_zero]
            refine wpStill_go (v := .slice (some ⟨bb, off, none⟩) n cap) rfl rfl (stays_run fun w' h => ex_move rfl rfl) ?_
            simp only [Act.put, List.setIfInBounds_toArray, List.set_cons_succ, List.set_cons_zero]
            refine wpStill_go (v := .int .i64 a) rfl rfl (stays_run fun w' h => ex_move rfl rfl) ?_
            simp only [Act.put, List.setIfInBounds_toArray, List.set_cons_succ, List.set_cons_zero]
            refine wpStill_go (v := .pointer (some ⟨bb, off + a * 2, none⟩)) rfl rfl (stays_run fun w' h => ex_index rfl (by kernel_rfl) (by kernel_rfl) rfl rfl (hlt)) ?_
            simp only [Act.put, List.setIfInBounds_toArray, List.set_cons_succ, List.set_cons_zero]
            refine wpStill_go (v := .pointer (some ⟨bb, off + a * 2 + 1, none⟩)) rfl rfl (stays_run fun w' h => by simp [go_sem]) ?_
            simp only [Act.put, List.setIfInBounds_toArray, List.set_cons_succ, List.set_cons_zero]
            refine wpStill_go (v := .int .i64 x.2) rfl rfl (stays_run fun w' h => ex_load rfl rfl (ld_one (by kernel_rfl) (f2 w' h))) ?_
            simp only [Act.put, List.setIfInBounds_toArray, List.set_cons_succ, List.set_cons_zero]
            refine wpStill_go (v := .int .i64 (y.2 - x.2)) rfl rfl (stays_run fun w' h => by simp [go_sem, I2.out]) ?_
            simp only [Act.put, List.setIfInBounds_toArray, List.set_cons_succ, List.set_cons_zero]
            refine wpStill_go (v := .int .i64 (v : Int)) rfl rfl (stays_call (f := 66) (args := #[.int .i64 (y.1 - x.1), .int .i64 (y.2 - x.2)]) (fun w' h => by simp [go_sem]) (fun w' _ => (hck w').mono (fun _ _ h => ⟨h.1, h.2 ▸ Below.refl _ _⟩))) ?_
            simp only [Act.put, List.setIfInBounds_toArray, List.set_cons_succ, List.set_cons_zero]
            refine wpStill_go (v := .pointer (some ⟨g, 0 + v * 1, none⟩)) rfl rfl (stays_run fun w' h => ex_index rfl (by kernel_rfl) (by kernel_rfl) rfl rfl (hvl)) ?_
            simp only [Act.put, List.setIfInBounds_toArray, List.set_cons_succ, List.set_cons_zero]
            refine wpStill_skip rfl ?_
            refine wpStill_nil ?_
            repeat (refine wpMark_skip rfl ?_)
            refine wpMark_go rfl (fun m1 hm1 K hK => ?_)
            have E1 := (Below.refl wr.heap.size wr).drew.trans hm1
            have rm := hrow.kept E1
            have d0 := rm.cell v
            rw [Hz.out] at d0
            have f0 := rm.frozen v
            go_wp2_with fail
            refine hK _ _ (fun h => absurd h (by decide)) (wpMark_nil fun m6 hm6 => ?_)
            simp only [onlyN]
            have r6 := (rm.set_ v (.bool true)).kept hm6
            rw [← List.map_set, ← Hse.out] at r6
            have B1 := hbel.trans (E1.mono hbel.size)
            have B2 := B1.setCell (p := ⟨g, v, none⟩) hg (.bool true)
            have B3 := B2.trans (hm6.mono B2.size)
            clear f1 f2 f3 f4 d0 f0 rm E1 hK hc1 hc2 hc3 hc4
            have R6 := Lib.hid r6
            clear r6
            go_wp2_with fail
            go_roundw
            case measure => simp [intOf]; omega
            case rel => exact ⟨b + 1, by omega, by go_num, R6.out, B3⟩
        · obtain rfl : b = n := by omega
          rw [← covK_row] at hrow
          have Hrow := Lib.hid hrow; clear hrow
          go_wp2_with fail
          go_roundw
          case measure => simp [intOf]; omega
          case rel => exact ⟨a + 1, by omega, by go_num, Hrow.out, hbel⟩
    · obtain rfl : a = n := by omega
      rw [Hall.out] at hrow
      have Hrow := Lib.hid hrow; clear hrow
      go_wp2_with fail
      go_ret2
      exact ⟨g, rfl, hg, Hrow.out, hbel⟩
end Go.Proofs.YtipgpafgampfbaaGreatDoor
