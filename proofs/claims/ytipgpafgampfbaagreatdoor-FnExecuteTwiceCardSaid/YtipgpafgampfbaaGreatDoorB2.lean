/- Arrays of antennas: the program's checks. · 'impl.ArrayValid'. · 'spec.DirtyOf' and what it calls. · 'spec.SkyTransform'. · 'spec.l21Back' and 'spec.l23Mask'. · Arrays of antennas: the reference's checks, and the vectors of baselines. · 'impl.ObserveOf'. · 'impl.BaseVector', 'impl.BasePair', 'impl.SkyTransform'. · 'impl.TrackScale' by 1 and 'impl.CoverOf'. -/
import Derived.Test.YtipgpafgampfbaaGreatDoorA5
import Derived.Test.YtipgpafgampfbaaGreatDoorB1
import Derived.StillTailTactics
import Derived.Test.YtipgpafgampfbaaGreatDoorA2
import Derived.Test.YtipgpafgampfbaaGreatDoorA3
import Derived.RangeFuncBox
import Derived.Shelf.Abstract
import Derived.Maps.AppendAt
namespace Go.Proofs.YtipgpafgampfbaaGreatDoor
open Go.RowKit

theorem pair_bne {a b : Int × Int} (h : a ≠ b) : (a.1 == b.1) = false ∨ (a.1 = b.1 ∧ (a.2 == b.2) = false) := by
  by_cases h1 : a.1 = b.1
  · exact .inr ⟨h1, beq_eq_false_iff_ne.2 fun h2 => h (Prod.ext h1 h2)⟩
  · exact .inl (beq_eq_false_iff_ne.2 h1)

theorem indexAnt_any (A : Option Addr) (n cap : Nat) (xs : List (Int × Int)) (a : Int × Int) (w : World) (hn : xs.length = n) (hb : n ≤ 1048576) (hr : Rd w w.heap.size A (xs.flatMap pairCells)) :
    Calls Tryz.prog 105 #[.slice A n cap, .agg #[.int .i64 a.1, .int .i64 a.2]] w fun e w' =>
      ∃ r : Int, e = .returned (.int .i64 r) ∧ -1 ≤ r ∧ r ≤ 1048576 ∧ decide (0 ≤ r) = decide (a ∈ xs) ∧ Below w.heap.size w w' := by
  have r0 := Row.new w 50 [.int .i64 a.1, .int .i64 a.2]
  have Hn := Lib.hid hn; clear hn
  go_enter Tryz.func105, Tryz.ntmps105
  go_wp2_with fail
  go_loopw [8] (fun i wr => ∃ k : Nat, k ≤ n ∧ i = .int .i64 k ∧ a ∉ xs.take k ∧ Row wr w.heap.size 50 [.int .i64 a.1, .int .i64 a.2] ∧ Below w.heap.size w wr) (fun i _ => n - (intOf i).toNat)
  case atStart => exact ⟨0, by omega, rfl, by simp, r0, bA1⟩
  case round =>
    clear r0
    obtain ⟨k, hk, rfl, hni, r0, hbel⟩ := hrel
    obtain ⟨c0, c1, _, _⟩ := r0.two
    have hr' := hr.below hbel
    by_cases hlt : k < n
    · have hts := take_succ_getD (l := xs) (d := (0, 0)) (k := k) (by rw [Hn.out]; exact hlt)
      have hmem : xs.getD k (0, 0) ∈ xs := getD_mem (by rw [Hn.out]; exact hlt)
      obtain ⟨b, off, rfl, hb2, hc1, hc1'⟩ := rd_pair hr' (getD_of (gs := xs) (k := k) (by rw [Hn.out]; exact hlt))
      generalize xs.getD k (0, 0) = x at *
      have Hbel := Lib.hid hbel; clear hbel
      have R0 := Lib.hid r0; clear r0
      have Hts := Lib.hid hts; clear hts
      have Hni := Lib.hid hni; clear hni
      have Hmem := Lib.hid hmem; clear hmem
      by_cases hxa : a = x
      · subst hxa
        go_wp2_with fail
        go_quiet (fail)
        go_wp2_with fail
        go_ret
        exact ⟨k, rfl, by omega, by omega, by rw [decide_eq_true (by omega), decide_eq_true Hmem.out], below_drewN Hbel.out _⟩
      · have Hxa := Lib.hid hxa
        rcases pair_bne hxa with h1 | ⟨h1, h2⟩
        · clear hxa
          go_wp2_with fail
          go_quiet (fail)
          go_wp2_with fail
          go_roundw
          case measure => simp [intOf]; omega
          case rel =>
            refine ⟨k + 1, by omega, by go_num, ?_, R0.out.drewN _, below_drewN Hbel.out _⟩
            rw [Hts.out]
            simp only [List.mem_append, List.mem_singleton, not_or]
            exact ⟨Hni.out, Hxa.out⟩
        · clear hxa
          go_wp2_with fail
          go_quiet (fail)
          go_wp2_with fail
          go_roundw
          case measure => simp [intOf]; omega
          case rel =>
            refine ⟨k + 1, by omega, by go_num, ?_, R0.out.drewN _, below_drewN Hbel.out _⟩
            rw [Hts.out]
            simp only [List.mem_append, List.mem_singleton, not_or]
            exact ⟨Hni.out, Hxa.out⟩
    · obtain rfl : k = n := by omega
      rw [List.take_of_length_le (by rw [Hn.out]; exact Nat.le_refl _)] at hni
      have Hni := Lib.hid hni; clear hni
      have Hbel := Lib.hid hbel; clear hbel
      go_wp2_with fail
      go_ret
      exact ⟨-1, rfl, by omega, by omega, by rw [decide_eq_false (by omega), decide_eq_false Hni.out], Hbel.out⟩

theorem containsAnt_any (A : Option Addr) (n cap : Nat) (xs : List (Int × Int)) (a : Int × Int) (w : World) (hn : xs.length = n) (hb : n ≤ 1048576) (hr : Rd w w.heap.size A (xs.flatMap pairCells)) :
    Calls Tryz.prog 61 #[.slice A n cap, .agg #[.int .i64 a.1, .int .i64 a.2]] w fun e w' =>
      e = .returned (.bool (decide (a ∈ xs))) ∧ Below w.heap.size w w' := by
  have r0 := Row.new w 50 [.int .i64 a.1, .int .i64 a.2]
  have hr' := hr.ext (bA1 (o := .cells #[.int .i64 a.1, .int .i64 a.2] 50))
  obtain ⟨c0, c1, _, _⟩ := r0.two
  have R0 := Lib.hid r0; clear r0
  have Hn := Lib.hid hn; clear hn
  go_enter Tryz.func61, Tryz.ntmps61
  go_wp2_with fail
  refine (indexAnt_any A n cap xs a _ Hn.out hb hr').mono ?_
  rintro e w1 ⟨r, rfl, hr0, hr1, hd, b1⟩
  have B1 := bA1.trans (b1.mono bA1.size)
  have Hd := Lib.hid hd; clear hd
  clear b1
  go_wp2_with fail
  go_ret
  refine ⟨ret_bool ?_, B1⟩
  rw [← Hd.out]

theorem isPlace_any (a : Int × Int) (w : World) :
    Calls Tryz.prog 60 #[.agg #[.int .i64 a.1, .int .i64 a.2]] w fun e w' => e = .returned (.bool (antOk a)) ∧ Below w.heap.size w w' := by
  have r0 := Row.new w 50 [.int .i64 a.1, .int .i64 a.2]
  obtain ⟨c0, c1, _, _⟩ := r0.two
  have R0 := Lib.hid r0; clear r0
  go_enter Tryz.func60, Tryz.ntmps60
  go_wp2_with fail
  refine (inRange_any a.1 1000 _ (by omega) (by omega)).mono ?_
  rintro e w1 ⟨rfl, rfl⟩
  cases h1 : inR a.1 (-1000) 1000
  · have H1 := Lib.hid h1; clear h1
    go_wp2_with fail
    go_ret
    refine ⟨ret_bool ?_, bA1⟩
    unfold antOk; rw [H1.out]; rfl
  · have H1 := Lib.hid h1; clear h1
    go_wp2_with fail
    refine (inRange_any a.2 1000 _ (by omega) (by omega)).mono ?_
    rintro e w1 ⟨rfl, rfl⟩
    go_wp2_with fail
    go_ret
    refine ⟨ret_bool ?_, bA1⟩
    unfold antOk; rw [H1.out]; rfl
end Go.Proofs.YtipgpafgampfbaaGreatDoor

namespace Go.Proofs.YtipgpafgampfbaaGreatDoor
open Go.RowKit

theorem ex_slice {ρ : Operand → Value} {o : Oper} {P : Program} {w : World} {t : TypeId} {x y : Operand} {X Y v : Value} (ho : o.op = .slice t x none (some y) none) (hx : ρ x = X) (hy : ρ y = Y) (hs : (Instr.sliceAt t X none (some Y) none).run P w = .ok v w) :
    (execOp ρ o).run P w = .ok (.value v) w := by
  subst hx hy; simp [execOp, ho, hs]
theorem run_head {P : Program} {t e : TypeId} (ht : P.underlying t = some (.slice e)) {s : Nat} (hs : (P.info? e).map (·.size) = some s) (a : Addr) (n cap k : Nat) (hk : k ≤ cap) (w : World) :
    (Instr.sliceAt t (.slice (some a) n cap) none (some (.int .i64 k)) none).run P w = .ok (.slice (some a) k cap) w := by
  have he : P.elem t = e := by simp [Program.elem, ht]
  have ht' : P.underlying t = some (.slice (P.elem t)) := by rw [he]; exact ht
  rw [run_sliceAt_slice (h := ht'), run_slice_h (ht := ht') (h0 := by omega) (h2 := by omega), he, size_of hs]
  simp [sliced, Result.andThen, Addr.add]

set_option maxRecDepth 100000 in
set_option maxHeartbeats 1000000 in
theorem arrayValid_any (A : Option Addr) (n cap : Nat) (xs : List (Int × Int)) (w : World) (hn : xs.length = n) (hk : n ≤ cap) (hb : n ≤ 1048576) (hr : Rd w w.heap.size A (xs.flatMap pairCells)) :
    Calls Tryz.prog 21 #[.slice A n cap] w fun e w' => e = .returned (.bool (arrV xs)) ∧ Below w.heap.size w w' := by
  by_cases h27 : 2 ≤ n ∧ n ≤ 7
  · obtain ⟨h2, h7⟩ := h27
    have hV : arrV xs = arrP xs n := by
      unfold arrV; rw [hn, inR_iff.2 (by omega)]; rfl
    have hi2 : ¬ (n : Int) < 2 := by omega
    have hi7 : ¬ (7 : Int) < (n : Int) := by omega
    have Hn := Lib.hid hn; clear hn
    have HV := Lib.hid hV; clear hV
    go_enter Tryz.func21, Tryz.ntmps21
    go_wp2_with fail
    go_loopw [15] (fun i wr => ∃ k : Nat, k ≤ n ∧ i = .int .i64 k ∧ arrP xs k = true ∧ Below w.heap.size w wr) (fun i _ => n - (intOf i).toNat)
    case atStart => exact ⟨0, by omega, rfl, rfl, Below.refl _ _⟩
    case round =>
      obtain ⟨k, hkn, rfl, hall, hbel⟩ := hrel
      have hbs := hbel.size
      by_cases hlt : k < n
      · have hrk := hr.below hbel
        have hg := getD_of (gs := xs) (k := k) (by rw [Hn.out]; exact hlt)
        obtain ⟨b, off, rfl, hb2, hc1, hc2⟩ := rd_pair hrk hg
        have hsucc := arrP_succ xs k
        have hno := fun h => arrP_no (xs := xs) (n := n) hlt h
        have hrt : ∀ w', Below w.heap.size w w' → Rd w' w'.heap.size (some ⟨b, off, none⟩) ((xs.take k).flatMap pairCells) := fun w' h i u hu => by
          refine (hr.below h).more h.size i u ?_
          rw [← List.take_append_drop k xs, List.flatMap_append, List.getElem?_append_left]
          · exact hu
          · rcases Nat.lt_or_ge i ((xs.take k).flatMap pairCells).length with h | h
            · exact h
            · rw [List.getElem?_eq_none h] at hu; cases hu
        have htl : (xs.take k).length = k := by rw [List.length_take, Hn.out]; omega
        generalize xs.getD k (0, 0) = x at *
        have Hall := Lib.hid hall; clear hall
        have Hg := Lib.hid hg; clear hg
        have Hsucc := Lib.hid hsucc; clear hsucc
        have Hno := Lib.hid hno; clear hno
        have Htl := Lib.hid htl; clear htl
        have Hrt := Lib.hid hrt; clear hrt
        go_wp2_with fail
        have rb := Row.new wr 50 [.int .i64 x.1, .int .i64 x.2]
        have hbW := hbel.alloc hbs (.cells #[.int .i64 x.1, .int .i64 x.2] 50)
        obtain ⟨W, hW⟩ : ∃ W, wr.alloc (.cells #[.int .i64 x.1, .int .i64 x.2] 50) = W := ⟨_, rfl⟩
        simp only [hW] at rb hbW
        rw [hW]
        have L4 : ∀ w', Below W.heap.size W w' → (Instr.loadAt 50 (.pointer (some ⟨wr.heap.size, 0, none⟩))).run Tryz.prog w' = .ok (.agg #[.int .i64 x.1, .int .i64 x.2]) w' := fun w' h => ld_two (by kernel_rfl) (by kernel_rfl) ((rb.kept h).cell 0) ((rb.kept h).cell 1)
        have hS : ∀ w', (Instr.sliceAt 26 (.slice (some ⟨b, off, none⟩) n cap) none (some (.int .i64 k)) none).run Tryz.prog w' = .ok (.slice (some ⟨b, off, none⟩) k cap) w' := fun w' => run_head (s := 2) Tryz.underlying26 (by kernel_rfl) _ _ _ _ (by omega) w'
        clear hW rb
        cases hx : antOk x
        · refine wp_region_N [] [] (by kernel_rfl) (by kernel_rfl) ?_
          refine wpStill_go (v := .agg #[.int .i64 x.1, .int .i64 x.2]) rfl rfl (stays_run fun w' h => ex_load rfl rfl (L4 w' h)) ?_
          simp only [Act.put, List.setIfInBounds_toArray, List.set_cons_succ, List.set_cons_zero]
          refine wpStill_go (v := .bool false) rfl rfl (stays_call (f := 60) (args := #[.agg #[.int .i64 x.1, .int .i64 x.2]]) (fun w' h => by simp [go_sem]) (fun w' _ => by rw [← hx]; exact isPlace_any x w')) ?_
          simp only [Act.put, List.setIfInBounds_toArray, List.set_cons_succ, List.set_cons_zero]
          refine wpStill_go (v := .bool true) rfl rfl (stays_run fun w' h => by simp [go_sem]) ?_
          simp only [Act.put, List.setIfInBounds_toArray, List.set_cons_succ, List.set_cons_zero]
          refine wpStill_go (v := .bool true) rfl rfl (stays_run fun w' h => ex_move rfl rfl) ?_
          simp only [Act.put, List.setIfInBounds_toArray, List.set_cons_succ, List.set_cons_zero]
          refine wpStill_off rfl rfl ?_
          simp only [Act.put, List.setIfInBounds_toArray, List.set_cons_succ, List.set_cons_zero]
          refine wpStill_off rfl rfl ?_
          simp only [Act.put, List.setIfInBounds_toArray, List.set_cons_succ, List.set_cons_zero]
          refine wpStill_off rfl rfl ?_
          simp only [Act.put, List.setIfInBounds_toArray, List.set_cons_succ, List.set_cons_zero]
          refine wpStill_off rfl rfl ?_
          simp only [Act.put, List.setIfInBounds_toArray, List.set_cons_succ, List.set_cons_zero]
          refine wpStill_off rfl rfl ?_
          simp only [Act.put, List.setIfInBounds_toArray, List.set_cons_succ, List.set_cons_zero]
          refine wpStill_go (v := .bool true) rfl rfl (stays_run fun w' h => by simp [go_sem]) ?_
          simp only [Act.put, List.setIfInBounds_toArray, List.set_cons_succ, List.set_cons_zero]
          refine wpStill_nil ?_
          repeat (refine wpMark_skip rfl ?_)
          refine wpMark_nil fun w11 h11 => ?_
          simp only [onlyN, Exit.then]
          have B7 := hbW.trans (((Below.refl _ _).drew.trans h11).mono hbW.size)
          have hno := Hno.out (by rw [hx]; rfl)
          have Hno := Lib.hid hno; clear hno
          have Hx := Lib.hid hx; clear hx
          clear L4 hS h11
          go_wp2_with fail
          go_ret
          exact ⟨ret_bool (by rw [HV.out, Hno.out]), B7⟩
        · have hct : ∀ w', Below W.heap.size W w' → Calls Tryz.prog 61 #[.slice (some ⟨b, off, none⟩) k cap, .agg #[.int .i64 x.1, .int .i64 x.2]] w' fun e w'' => e = .returned (.bool (decide (x ∈ xs.take k))) ∧ Below w'.heap.size w' w'' := fun w' h =>
            containsAnt_any _ k cap (xs.take k) x w' Htl.out (by omega) (Hrt.out w' (hbW.trans (h.mono hbW.size)))
          obtain ⟨m, hm⟩ : ∃ m, decide (x ∈ xs.take k) = m := ⟨_, rfl⟩
          rw [hm] at hct
          have Hm := Lib.hid hm
          have Hct := Lib.hid hct
          clear hm hct
          refine wp_region_N [] [] (by kernel_rfl) (by kernel_rfl) ?_
          refine wpStill_go (v := .agg #[.int .i64 x.1, .int .i64 x.2]) rfl rfl (stays_run fun w' h => ex_load rfl rfl (L4 w' h)) ?_
          simp only [Act.put, List.setIfInBounds_toArray, List.set_cons_succ, List.set_cons_zero]
          refine wpStill_go (v := .bool true) rfl rfl (stays_call (f := 60) (args := #[.agg #[.int .i64 x.1, .int .i64 x.2]]) (fun w' h => by simp [go_sem]) (fun w' _ => by rw [← hx]; exact isPlace_any x w')) ?_
          simp only [Act.put, List.setIfInBounds_toArray, List.set_cons_succ, List.set_cons_zero]
          refine wpStill_go (v := .bool false) rfl rfl (stays_run fun w' h => by simp [go_sem]) ?_
          simp only [Act.put, List.setIfInBounds_toArray, List.set_cons_succ, List.set_cons_zero]
          refine wpStill_go (v := .bool false) rfl rfl (stays_run fun w' h => ex_move rfl rfl) ?_
          simp only [Act.put, List.setIfInBounds_toArray, List.set_cons_succ, List.set_cons_zero]
          refine wpStill_go (v := .slice (some ⟨b, off, none⟩) n cap) rfl rfl (stays_run fun w' h => ex_move rfl rfl) ?_
          simp only [Act.put, List.setIfInBounds_toArray, List.set_cons_succ, List.set_cons_zero]
          refine wpStill_go (v := .int .i64 k) rfl rfl (stays_run fun w' h => ex_move rfl rfl) ?_
          simp only [Act.put, List.setIfInBounds_toArray, List.set_cons_succ, List.set_cons_zero]
          refine wpStill_go (v := .slice (some ⟨b, off, none⟩) k cap) rfl rfl (stays_run fun w' h => by exact ex_slice rfl rfl rfl (hS w')) ?_
          simp only [Act.put, List.setIfInBounds_toArray, List.set_cons_succ, List.set_cons_zero]
          refine wpStill_go (v := .agg #[.int .i64 x.1, .int .i64 x.2]) rfl rfl (stays_run fun w' h => ex_load rfl rfl (L4 w' h)) ?_
          simp only [Act.put, List.setIfInBounds_toArray, List.set_cons_succ, List.set_cons_zero]
          refine wpStill_go (v := .bool m) rfl rfl (stays_call (f := 61) (args := #[.slice (some ⟨b, off, none⟩) k cap, .agg #[.int .i64 x.1, .int .i64 x.2]]) (fun w' h => by simp [go_sem]) (fun w' _ => Hct.out w' ‹_›)) ?_
          simp only [Act.put, List.setIfInBounds_toArray, List.set_cons_succ, List.set_cons_zero]
          refine wpStill_go (v := .bool m) rfl rfl (stays_run fun w' h => by simp [go_sem]) ?_
          simp only [Act.put, List.setIfInBounds_toArray, List.set_cons_succ, List.set_cons_zero]
          refine wpStill_nil ?_
          repeat (refine wpMark_skip rfl ?_)
          refine wpMark_nil fun w11 h11 => ?_
          simp only [onlyN, Exit.then]
          have B7 := hbW.trans (((Below.refl _ _).drew.trans h11).mono hbW.size)
          cases m
          · have Hx := Lib.hid hx; clear hx
            clear L4 hS h11
            go_wp2_with fail
            go_roundw
            case measure => simp [intOf]; omega
            case rel => exact ⟨k + 1, by omega, by go_num, by rw [Hsucc.out, Hall.out, Hx.out, Hm.out]; rfl, B7⟩
          · have hno := Hno.out (by rw [hx, Hm.out]; rfl)
            have Hno := Lib.hid hno; clear hno
            have Hx := Lib.hid hx; clear hx
            clear L4 hS h11
            go_wp2_with fail
            go_ret
            exact ⟨ret_bool (by rw [HV.out, Hno.out]), B7⟩
      · obtain rfl : k = n := by omega
        have Hall := Lib.hid hall; clear hall
        go_wp2_with fail
        go_ret
        exact ⟨ret_bool (by rw [HV.out, Hall.out]), hbel⟩
  · have hV : arrV xs = false := by
      unfold arrV; rw [hn, inR_no.2 (by omega)]; rfl
    have hi2 : (n : Int) < 2 ∨ (7 : Int) < (n : Int) := by omega
    have Hn := Lib.hid hn; clear hn
    have HV := Lib.hid hV; clear hV
    by_cases h2 : n < 2
    · have hi2 : (n : Int) < 2 := by omega
      go_enter Tryz.func21, Tryz.ntmps21
      go_wp2_with fail
      go_ret
      exact ⟨ret_bool (by rw [HV.out]), Below.refl _ _⟩
    · have hi2 : ¬ (n : Int) < 2 := by omega
      have hi7 : (7 : Int) < (n : Int) := by omega
      go_enter Tryz.func21, Tryz.ntmps21
      go_wp2_with fail
      go_ret
      exact ⟨ret_bool (by rw [HV.out]), Below.refl _ _⟩
end Go.Proofs.YtipgpafgampfbaaGreatDoor

namespace Go.Proofs.YtipgpafgampfbaaGreatDoor
open Go.RowKit

theorem sSkyValid_any (A : Option Addr) (n cap : Nat) (s : List Int) (w : World) (hn : s.length = n) (hm : n ≤ 1000000000) (hr : Rd w w.heap.size A (s.map (Value.int .i64))) :
    Calls Tryz.prog 165 #[.slice A n cap] w fun e w' => e = .returned (.bool (skyV s)) ∧ w = w' := by
  have Hn := Lib.hid hn; clear hn
  go_enter Tryz.func165, Tryz.ntmps165
  go_wp2_with fail
  go_loop [3] (fun i => ∃ k : Nat, k ≤ n ∧ i = .int .i64 k ∧ allR 100000 (s.take k) = true) (fun i => n - (intOf i).toNat)
  case atStart => exact ⟨0, by omega, rfl, rfl⟩
  case round =>
    obtain ⟨k, hk, rfl, hall⟩ := hrel
    have Hall := Lib.hid hall; clear hall
    by_cases hlt : k < n
    · obtain ⟨b, off, rfl, hb, hc⟩ := hr k _ (ints_get (by rw [Hn.out]; exact hlt))
      have hmem : s.getD k 0 ∈ s := getD_mem (by rw [Hn.out]; exact hlt)
      have hts := take_succ_getD (l := s) (d := 0) (k := k) (by rw [Hn.out]; exact hlt)
      generalize s.getD k 0 = x at *
      have Hts := Lib.hid hts; clear hts
      go_wp2_with fail
      refine (l6In_any x (-100000) 100000 _).mono ?_
      rintro e w' ⟨rfl, rfl⟩
      cases hx : inR x (-100000) 100000
      · have Hx := Lib.hid hx; clear hx
        go_wp2_with fail
        go_ret
        refine ⟨ret_bool ?_, rfl⟩
        symm
        unfold skyV allR
        rw [Bool.and_eq_false_iff]
        right
        rw [List.all_eq_false]
        exact ⟨x, hmem, by rw [Hx.out]; simp⟩
      · have Hx := Lib.hid hx; clear hx
        go_wp2_with fail
        go_round
        case measure => simp [intOf]; omega
        case rel =>
          refine ⟨k + 1, by omega, by go_num, ?_⟩
          rw [Hts.out]
          unfold allR
          rw [List.all_append]
          have := Hall.out
          unfold allR at this
          rw [this]
          simpa using Hx.out
    · obtain rfl : k = n := by omega
      have h16 : ((k : Int) == 16) = (k == 16) := by
        rw [Bool.eq_iff_iff, beq_iff_eq, beq_iff_eq]; omega
      have H16 := Lib.hid h16; clear h16
      go_wp2_with fail
      refine (l21Cells_any _).mono ?_
      rintro e w' ⟨rfl, rfl⟩
      go_wp2_with fail
      go_ret
      refine ⟨ret_bool ?_, rfl⟩
      unfold skyV
      have := Hall.out
      rw [List.take_of_length_le (by rw [Hn.out]; exact Nat.le_refl _)] at this
      rw [this, Hn.out, Bool.and_true]
      exact H16.out

theorem l21Term_any (x k : Int) (w : World) (hx : -1000000 ≤ x ∧ x ≤ 1000000) :
    Calls Tryz.prog 188 #[.int .i64 x, .int .i64 k] w fun e w' => e = .returned (.agg #[.int .i64 (x * (unit k).1), .int .i64 (x * (unit k).2)]) ∧ Below w.heap.size w w' := by
  obtain ⟨⟨u1, u2⟩, u3, u4⟩ : (-1 ≤ (unit k).1 ∧ (unit k).1 ≤ 1) ∧ -1 ≤ (unit k).2 ∧ (unit k).2 ≤ 1 := by
    rcases unit_cases k with ⟨_, e⟩ | ⟨_, e⟩ | ⟨_, e⟩ | ⟨_, e⟩ <;> rw [e] <;> simp
  have m1 := mul_bd x (unit k).1 1000000 1 hx ⟨u1, u2⟩
  have m2 := mul_bd x (unit k).2 1000000 1 hx ⟨u3, u4⟩
  simp only [Int.reduceNeg, Int.mul_one] at m1 m2
  have r0 := Row.new w 132 [.int .i64 0, .int .i64 0]
  go_enter Tryz.func188, Tryz.ntmps188
  go_wp2_with fail
  refine (sGaussUnit_any k _).mono ?_
  rintro e w1 ⟨rfl, b1⟩
  have r1 := r0.kept b1
  have B1 := (bA1 (w := w)).trans (b1.mono bA1.size)
  obtain ⟨c0, c1, f0, f1⟩ := r1.two
  have hlt := r1.lt
  have hne : w.heap.size ≠ w1.heap.size := by omega
  clear b1 r0
  generalize hp : (unit k).1 = p at *
  generalize hq : (unit k).2 = q at *
  have Hp := Lib.hid hp; clear hp
  have Hq := Lib.hid hq; clear hq
  go_wp2_with fail
  have r2 := ((r1.set_ 0 (.int .i64 (x * p))).set_ 1 (.int .i64 (x * q))).alloc (.cells #[.int .i64 p, .int .i64 q] 132)
  have B2 := ((B1.setCell (p := ⟨w.heap.size, 0, none⟩) (Nat.le_refl _) (.int .i64 (x * p))).setCell (p := ⟨w.heap.size, 1, none⟩) (Nat.le_refl _) (.int .i64 (x * q))).alloc (by simpa using B1.size) (.cells #[.int .i64 p, .int .i64 q] 132)
  generalize ((w1.setCell ⟨w.heap.size, 0, none⟩ (.int .i64 (x * p))).setCell ⟨w.heap.size, 1, none⟩ (.int .i64 (x * q))).alloc (.cells #[.int .i64 p, .int .i64 q] 132) = W at r2 B2 ⊢
  obtain ⟨d0, d1, _, _⟩ := r2.two
  refine bodyPost_ret (v := .agg #[.int .i64 (x * p), .int .i64 (x * q)]) (by simp [results, Tryz.results188, go_sem, d0, d1]) rfl ⟨by rw [Hp.out, Hq.out], B2⟩

/-- The number of wave t of which n terms are added. -/
def skyP (s : List Int) (t n : Nat) : Int × Int := (sumN n fun a => s.getD a 0 * wr t a, sumN n fun a => s.getD a 0 * wi t a)
theorem skyP_succ (s : List Int) (t n : Nat) : skyP s t (n + 1) = ((skyP s t n).1 + s.getD n 0 * wr t n, (skyP s t n).2 + s.getD n 0 * wi t n) := by
  unfold skyP; rw [sumN_succ, sumN_succ]
theorem skyP_zero (s : List Int) (t : Nat) : skyP s t 0 = (0, 0) := rfl
theorem skyP_all (s : List Int) (t : Nat) (h : t < 16) : skyP s t 16 = (skyT s).getD t (0, 0) := by rw [skyT_get _ _ h]; rfl
theorem unit_1 (k : Int) : (-1 ≤ (unit k).1 ∧ (unit k).1 ≤ 1) ∧ -1 ≤ (unit k).2 ∧ (unit k).2 ≤ 1 := by
  rcases unit_cases k with ⟨_, e⟩ | ⟨_, e⟩ | ⟨_, e⟩ | ⟨_, e⟩ <;> rw [e] <;> simp
theorem skyP_bd {s : List Int} (h : iLe 100000 s) (t n : Nat) : (-((n : Int) * 100000) ≤ (skyP s t n).1 ∧ (skyP s t n).1 ≤ (n : Int) * 100000) ∧ -((n : Int) * 100000) ≤ (skyP s t n).2 ∧ (skyP s t n).2 ≤ (n : Int) * 100000 := by
  induction n with
  | zero => rw [skyP_zero]; simp
  | succ n ih =>
    rw [skyP_succ]
    dsimp only
    have m1 := mul_bd (s.getD n 0) (wr t n) 100000 1 (h n) (unit_1 _).1
    have m2 := mul_bd (s.getD n 0) (wi t n) 100000 1 (h n) (unit_1 _).2
    simp only [Int.reduceNeg, Int.mul_one] at m1 m2
    omega
end Go.Proofs.YtipgpafgampfbaaGreatDoor

namespace Go.Proofs.YtipgpafgampfbaaGreatDoor
open Go.RowKit

def skyTR (s : List Int) : List (Int × Int) := if skyV s then skyT s else []
theorem skyTR_no {s : List Int} (h : skyV s = false) : skyTR s = [] := by unfold skyTR; rw [h]; rfl
theorem skyTR_yes {s : List Int} (h : skyV s = true) : skyTR s = skyT s := by unfold skyTR; rw [h]; rfl
theorem ph_uv (u v k : Nat) (hu : u < 4) : ((u : Int) * ((k : Int) % 4) + (v : Int) * ((k : Int) / 4)) = ph (v * 4 + u) k := by
  unfold ph
  have h1 : (v * 4 + u) % 4 = u := by omega
  have h2 : (v * 4 + u) / 4 = v := by omega
  rw [h1, h2]
  push_cast
  rfl
theorem skyP_unit (s : List Int) (t n : Nat) : skyP s t (n + 1) = ((skyP s t n).1 + s.getD n 0 * (unit (ph t n)).1, (skyP s t n).2 + s.getD n 0 * (unit (ph t n)).2) := skyP_succ s t n
theorem prodUV (u b : Nat) (ha : u < 4) (hb : b < 16) : (0 ≤ (u : Int) * ((b : Int) % 4) ∧ (u : Int) * ((b : Int) % 4) ≤ 9) ∧ 0 ≤ (u : Int) * ((b : Int) / 4) ∧ (u : Int) * ((b : Int) / 4) ≤ 9 := by
  have h1 : u * (b % 4) ≤ 3 * 3 := Nat.mul_le_mul (by omega) (by omega)
  have h2 : u * (b / 4) ≤ 3 * 3 := Nat.mul_le_mul (by omega) (by omega)
  have e1 : (u : Int) * ((b : Int) % 4) = ((u * (b % 4) : Nat) : Int) := by push_cast; rfl
  have e2 : (u : Int) * ((b : Int) / 4) = ((u * (b / 4) : Nat) : Int) := by push_cast; rfl
  rw [e1, e2]
  omega

set_option maxRecDepth 100000 in
set_option maxHeartbeats 2000000 in
theorem sSkyTransform_any (A : Option Addr) (n cap : Nat) (s : List Int) (w : World) (hn : s.length = n) (hm : n ≤ 1000000000) (hr : Rd w w.heap.size A (s.map (Value.int .i64))) :
    Calls Tryz.prog 162 #[.slice A n cap] w fun e w' => ∃ v, e = .returned (.tuple #[v, .bool (skyV s)]) ∧ w'.ownsRow w.heap.size 132 2 v (skyTR s).length ((skyTR s).flatMap pairCells) ∧ Below w.heap.size w w' := by
  obtain ⟨i1, hj, hy0, hy1, hy2⟩ := info_parts gaussInfo
  have r0 := Row.new w 132 []
  have hr' := hr.ext (bA1 (o := .cells #[] 132))
  cases hv : skyV s
  · rw [skyTR_no hv]
    have Hv := Lib.hid hv
    have Hn := Lib.hid hn; clear hn
    clear hv
    go_enter Tryz.func162, Tryz.ntmps162
    go_wp2_with fail
    refine (sSkyValid_any A n cap s _ Hn.out hm hr').mono ?_
    rintro e w1 ⟨rfl, rfl⟩
    rw [Hv.out]
    go_wp2_with fail
    refine bodyPost_ret (v := .tuple #[.slice (some ⟨w.heap.size, 0, none⟩) 0 0, .bool false]) (by simp [results, Tryz.results162, go_sem]) rfl ⟨_, rfl, r0.own (Nat.le_refl _) rfl (by decide), bA1⟩
  · have hl := skyV_len hv
    obtain rfl : n = 16 := by omega
    rw [skyTR_yes hv, skyT_len]
    have hile := iLe_sky hv
    have Hv := Lib.hid hv
    have Hn := Lib.hid hn; clear hn
    have Hl := Lib.hid hl; clear hl
    have Hile := Lib.hid hile; clear hile
    clear hv
    go_enter Tryz.func162, Tryz.ntmps162
    go_wp2_with fail
    refine (sSkyValid_any A 16 cap s _ Hn.out (by omega) hr').mono ?_
    rintro e w1 ⟨rfl, rfl⟩
    rw [Hv.out]
    have o1 := r0.own (base := w.heap.size) (n := 0) (size := 2) (Nat.le_refl _) rfl (by decide)
    have b2 := bA1 (w := w) (o := .cells #[] 132)
    clear r0 hr'
    go_wp2_with fail
    go_loopw [4, 5] (fun x i wr => ∃ v : Nat, v ≤ 4 ∧ i = .int .i64 v ∧ wr.ownsRow w.heap.size 132 2 x (v * 4) (((skyT s).take (v * 4)).flatMap pairCells) ∧ Below w.heap.size w wr) (fun _ i _ => 4 - (intOf i).toNat)
    case atStart => exact ⟨0, by omega, rfl, o1, b2⟩
    case round =>
      clear o1 b2
      obtain ⟨v, hv, rfl, hrow, hbel⟩ := hrel
      by_cases hlt : v < 4
      · have hv4 : (v : Int) < 4 := by omega
        go_wp2_with fail
        go_loopw [4, 6] (fun x i wr => ∃ u : Nat, u ≤ 4 ∧ i = .int .i64 u ∧ wr.ownsRow w.heap.size 132 2 x (v * 4 + u) (((skyT s).take (v * 4 + u)).flatMap pairCells) ∧ Below w.heap.size w wr) (fun _ i _ => 4 - (intOf i).toNat)
        case atStart => exact ⟨0, by omega, rfl, hrow, hbel⟩
        case round =>
          clear hrow hbel
          obtain ⟨u, hu, rfl, hrow, hbel⟩ := hrel
          by_cases hlt2 : u < 4
          · have hu4 : (u : Int) < 4 := by omega
            have hbs := hbel.size
            obtain ⟨G, hG⟩ : ∃ G, wr.heap.size = G := ⟨_, rfl⟩
            have rs := Row.new wr 132 [.int .i64 0, .int .i64 0]
            have hrow1 := own_ext hrow (bA1 (w := wr) (o := .cells #[.int .i64 0, .int .i64 0] 132))
            have hbel1 := hbel.alloc hbs (.cells #[.int .i64 0, .int .i64 0] 132)
            have hap : ∀ j, u4.ownBlock = some j → some G ≠ some j := fun j hj e => by
              have := (own_lt hrow hj).2.1
              injection e with e; omega
            have hGb : w.heap.size ≤ G := by rw [← hG]; exact hbs
            have Hap := Lib.hid hap
            clear hap
            obtain ⟨t, ht⟩ : ∃ t, v * 4 + u = t := ⟨_, rfl⟩
            have ht16 : t < 16 := by omega
            have hph := fun k => ph_uv u v k hlt2
            have hab := skyP_all s t ht16
            rw [ht] at hrow1
            rw [ht] at hph
            rw [hG] at rs hbs
            have Hrow1 := Lib.hid hrow1; clear hrow1
            have Hbel1 := Lib.hid hbel1; clear hbel1
            have Hph := Lib.hid hph; clear hph
            have Hab := Lib.hid hab; clear hab
            clear hrow hbel
            go_wp2_with fail
            have HG := Lib.hid hG; clear hG
            go_loopw [8] (fun i wr2 => ∃ k : Nat, k ≤ 16 ∧ i = .int .i64 k ∧ Row wr2 G 132 [.int .i64 (skyP s t k).1, .int .i64 (skyP s t k).2] ∧ wr2.ownsRow w.heap.size 132 2 u4 t (((skyT s).take t).flatMap pairCells) ∧ Below w.heap.size w wr2) (fun i _ => 16 - (intOf i).toNat)
            case atStart => exact ⟨0, by omega, rfl, rs, Hrow1.out, Hbel1.out⟩
            case round =>
              clear rs Hrow1 Hbel1
              obtain ⟨k, hk, rfl, rs, hrow, hbel⟩ := hrel
              have hbs2 := hbel.size
              have hr2 := (hr.below hbel)
              have Hrow := Lib.hid hrow; clear hrow
              have Hbel := Lib.hid hbel; clear hbel
              by_cases hlt3 : k < 16
              · have hk16 : (k : Int) < 16 := by omega
                go_wp2_with fail
                refine (l21Cells_any _).mono ?_
                rintro e w' ⟨rfl, rfl⟩
                obtain ⟨b, off, rfl, hb, hc⟩ := hr2 k _ (ints_get (by rw [Hn.out]; exact hlt3))
                have hs := skyP_unit s t k
                have hbd := skyP_bd Hile.out t k
                have hx := Hile.out k
                have hp := prodUV u k hlt2 hlt3
                have hp2 := prodUV v k hlt hlt3
                have hpc := Hph.out k
                generalize skyP s t k = P at *
                generalize s.getD k 0 = x at *
                have Hs := Lib.hid hs; clear hs
                have Hpc := Lib.hid hpc; clear hpc
                go_wp2_with fail
                refine (l21Term_any x _ _ (by omega)).mono ?_
                rw [Hpc.out]
                rintro e w3 ⟨rfl, b3⟩
                have r3 := rs.kept b3
                have Hrow := Lib.hid (own_ext Hrow.out b3)
                have Hbel := Lib.hid (Hbel.out.trans (b3.mono hbs2))
                have hu1 := unit_1 (ph t k)
                have m1 := mul_bd x (unit (ph t k)).1 100000 1 hx hu1.1
                have m2 := mul_bd x (unit (ph t k)).2 100000 1 hx hu1.2
                simp only [Int.reduceNeg, Int.mul_one] at m1 m2
                generalize hp1 : x * (unit (ph t k)).1 = p at *
                generalize hq1 : x * (unit (ph t k)).2 = q at *
                obtain ⟨c0, c1, f0, f1⟩ := r3.two
                have hlt4 := r3.lt
                have hne : G ≠ w3.heap.size := by omega
                have hB3 := Hbel.out.size
                have Hp1 := Lib.hid hp1; clear hp1
                have Hq1 := Lib.hid hq1; clear hq1
                clear b3 rs hc
                go_wp2_with fail
                have r4 := ((r3.set_ 0 (.int .i64 (P.1 + p))).set_ 1 (.int .i64 (P.2 + q))).alloc (.cells #[.int .i64 p, .int .i64 q] 132)
                have hg2 := grown_trans (grown_set w3 G 0 (.int .i64 (P.1 + p))) (grown_set _ G 1 (.int .i64 (P.2 + q)))
                have o4 := (own_over Hrow.out hg2 Hap.out).alloc (.cells #[.int .i64 p, .int .i64 q] 132)
                have b4 := (set2 Hbel.out hGb (u := .int .i64 (P.1 + p)) (v := .int .i64 (P.2 + q)))
                have b4 := b4.alloc b4.size (.cells #[.int .i64 p, .int .i64 q] 132)
                go_roundw
                case measure => simp [intOf]; omega
                case rel =>
                  refine ⟨k + 1, by omega, by go_num, ?_, o4, b4⟩
                  rw [Hs.out]
                  exact r4
              · obtain rfl : k = 16 := by omega
                go_wp2_with fail
                refine (l21Cells_any _).mono ?_
                rintro e w' ⟨rfl, rfl⟩
                rw [Hab.out] at rs
                have hts := take_succ_getD (l := skyT s) (d := (0, 0)) (k := t) (by rw [skyT_len]; exact ht16)
                generalize (skyT s).getD t (0, 0) = P at *
                obtain ⟨c0, c1, f0, f1⟩ := rs.two
                have hlt4 := rs.lt
                have Hts := Lib.hid hts; clear hts
                go_wp2_with (at_builtin; refine wpList_append_own _ rfl _ _ 97 rfl w.heap.size 132 i1 (.agg #[.int .i64 0, .int .i64 0]) 2 16 (by kernel_rfl) hj hy0 hy1 hy2 rfl (by decide) _ t _ rfl (Hrow.out.alloc _) ⟨wr.heap.size, 0, none⟩ 1 1 [.int .i64 (P.1), .int .i64 (P.2)] rfl rfl (cell_two_new _ _ _ _) (by simp [Value.oneCell']) (by unfold maxLen; omega) (by omega) (by simp; omega) ?_; intro v' w7 hown' hgrow _; obtain ⟨g', cap', rfl⟩ := ownsRow_succ hown')
                have hb7 := (Hbel.out.alloc hbs2 _).grown hgrow (by simp; omega) fun j hj => (own_lt Hrow.out hj).1
                have Hb7 := Lib.hid hb7; clear hb7
                have Hown' := Lib.hid hown'; clear hown'
                clear hgrow
                go_wp2_with fail
                go_roundw
                case measure => simp [intOf]; omega
                case rel =>
                  refine ⟨u + 1, by omega, by go_num, ?_, Hb7.out⟩
                  rw [← Nat.add_assoc, ht, Hts.out, List.flatMap_append]
                  exact Hown'.out
          · obtain rfl : u = 4 := by omega
            rw [show v * 4 + 4 = (v + 1) * 4 from by omega] at hrow
            have Hrow := Lib.hid hrow; clear hrow
            go_wp2_with fail
            go_roundw
            case measure => simp [intOf]; omega
            case rel => exact ⟨v + 1, by omega, by go_num, Hrow.out, hbel⟩
      · obtain rfl : v = 4 := by omega
        rw [List.take_of_length_le (by rw [skyT_len]; omega)] at hrow
        have Hrow := Lib.hid hrow; clear hrow
        go_wp2_with fail
        refine bodyPost_ret (v := .tuple #[u4, .bool true]) (by simp [results, Tryz.results162, go_sem]) rfl ⟨_, rfl, Hrow.out, hbel⟩
end Go.Proofs.YtipgpafgampfbaaGreatDoor

namespace Go.Proofs.YtipgpafgampfbaaGreatDoor
open Go.RowKit

theorem bcl {B : Nat} {w w' : World} (h : Below B w w') {b : Nat} (hb : b < B) (o : Nat) : w'.cell? ⟨b, o, none⟩ = w.cell? ⟨b, o, none⟩ := h.cell (p := ⟨b, o, none⟩) hb
theorem trT_unit (g : List (Int × Int)) (t n : Nat) : trT g (-1) t (n + 1) =
    ((trT g (-1) t n).1 + (g.getD n (0, 0)).1 * (unit (-(ph t n))).1 - (g.getD n (0, 0)).2 * (unit (-(ph t n))).2,
     (trT g (-1) t n).2 + (g.getD n (0, 0)).1 * (unit (-(ph t n))).2 + (g.getD n (0, 0)).2 * (unit (-(ph t n))).1) := by
  rw [trT_succ]
  unfold trA turnAt
  dsimp only
  rw [show (-1 : Int) * ph t n = -(ph t n) from by omega]
  congr 1 <;> omega

set_option maxRecDepth 100000 in
set_option maxHeartbeats 2000000 in
theorem l21Back_any (A : Option Addr) (cap : Nat) (g : List (Int × Int)) (x y : Int) (t : Nat) (w : World) (_ht : t < 16) (hx : 0 ≤ x ∧ x ≤ 3) (hy : 0 ≤ y ∧ y ≤ 3)
    (hph : ∀ k : Nat, x * ((k : Int) % 4) + y * ((k : Int) / 4) = ph t k) (hg : g.length = 16) (hb : gLe 1000000000 g) (hr : Rd w w.heap.size A (g.flatMap pairCells)) :
    Calls Tryz.prog 163 #[.slice A 16 cap, .int .i64 x, .int .i64 y] w fun e w' => e = .returned (.agg #[.int .i64 (trT g (-1) t 16).1, .int .i64 (trT g (-1) t 16).2]) ∧ Below w.heap.size w w' := by
  obtain ⟨G, hG⟩ : ∃ G, w.heap.size + 1 = G := ⟨_, rfl⟩
  have r0 := Row.new w 132 [.int .i64 0, .int .i64 0]
  have r1 := Row.new1 w (.cells #[.int .i64 0, .int .i64 0] 132) 132 [.int .i64 0, .int .i64 0]
  rw [hG] at r1
  have Hg := Lib.hid hg; clear hg
  have Hb := Lib.hid hb; clear hb
  have Hph := Lib.hid hph; clear hph
  go_enter Tryz.func163, Tryz.ntmps163
  go_wp2_with fail
  have HG := Lib.hid hG; clear hG
  go_loopw [8] (fun i wr => ∃ k : Nat, k ≤ 16 ∧ i = .int .i64 k ∧ Row wr w.heap.size 132 [.int .i64 0, .int .i64 0] ∧ Row wr G 132 [.int .i64 (trT g (-1) t k).1, .int .i64 (trT g (-1) t k).2] ∧ Below w.heap.size w wr) (fun i _ => 16 - (intOf i).toNat)
  case atStart => exact ⟨0, by omega, rfl, r0.alloc _, r1, bA2⟩
  case round =>
    clear r0 r1
    obtain ⟨k, hk, rfl, r0, r1, hbel⟩ := hrel
    have hbs := hbel.size
    by_cases hlt : k < 16
    · have hk16 : (k : Int) < 16 := by omega
      go_wp2_with fail
      refine (l21Cells_any _).mono ?_
      rintro e w' ⟨rfl, rfl⟩
      obtain ⟨b, off, rfl, hb, g1, g2⟩ := rd_pair hr (getD_of (gs := g) (k := k) (by rw [Hg.out]; exact hlt))
      have hgz := gLe_get Hb.out (by omega) k
      have hS := trT_bd Hb.out (by omega) (-1) t k
      have hS1 := trT_unit g t k
      have hpc := Hph.out k
      have mx := mul_bd x ((k : Int) % 4) 3 3 (by omega) (by omega)
      have my := mul_bd y ((k : Int) / 4) 3 3 (by omega) (by omega)
      simp only [Int.reduceMul, Int.reduceNeg] at mx my
      generalize g.getD k (0, 0) = gz at *
      generalize trT g (-1) t k = S at *
      have hpc2 : -(x * ((k : Int) % 4)) - y * ((k : Int) / 4) = -(ph t k) := by omega
      have HS1 := Lib.hid hS1; clear hS1
      have Hpc := Lib.hid hpc; clear hpc
      have Hpc2 := Lib.hid hpc2; clear hpc2
      go_wp2_with fail
      refine (sGaussUnit_any _ _).mono ?_
      rw [Hpc2.out]
      rintro e w3 ⟨rfl, b3⟩
      have r0 := r0.kept b3
      have r1 := r1.kept b3
      have r1w := r1
      have hbel := hbel.trans (b3.mono hbs)
      have hbs3 := hbel.size
      have hu := unit_1 (-(ph t k))
      generalize (unit (-(ph t k))).1 = p at *
      generalize (unit (-(ph t k))).2 = q at *
      have rx := Row.new w3 132 [.int .i64 p, .int .i64 q]
      have r0 := r0.alloc (.cells #[.int .i64 p, .int .i64 q] 132)
      have r1 := r1.alloc (.cells #[.int .i64 p, .int .i64 q] 132)
      have hbel := hbel.alloc hbel.size (.cells #[.int .i64 p, .int .i64 q] 132)
      clear b3
      go_wp2_with fail
      have hH : w3.heap.size ≠ G := by have := r1w.lt; omega
      have hc1 := (bcl hbel hb _).trans g1
      have hc2 := (bcl hbel hb _).trans g2
      obtain ⟨W, hW⟩ : ∃ W, w3.alloc (.cells #[.int .i64 p, .int .i64 q] 132) = W := ⟨_, rfl⟩
      obtain ⟨H, hH2⟩ : ∃ H, w3.heap.size = H := ⟨_, rfl⟩
      rw [hW]
      simp only [hW, hH2] at rx r0 r1 hbel hc1 hc2 hH ⊢
      have HW := Lib.hid hW; clear hW
      have HH2 := Lib.hid hH2; clear hH2
      obtain ⟨e0, e1, _, _⟩ := rx.two
      obtain ⟨d0, d1, f0, f1⟩ := r1.two
      have m1 := mul_bd gz.1 p 1000000000 1 hgz.1 hu.1
      have m2 := mul_bd gz.2 q 1000000000 1 hgz.2 hu.2
      have m3 := mul_bd gz.1 q 1000000000 1 hgz.1 hu.2
      have m4 := mul_bd gz.2 p 1000000000 1 hgz.2 hu.1
      simp only [Int.reduceNeg, Int.mul_one] at m1 m2 m3 m4
      have hwb : b < w3.heap.size := by omega
      have hbG : b ≠ G := by have := HG.out; omega
      have hHG : H ≠ G := hH
      have i1 : IntKind.i64.wrap (gz.1 * p) = gz.1 * p := IntWalk.i64_in _ (by omega)
      have i2 : IntKind.i64.wrap (gz.2 * q) = gz.2 * q := IntWalk.i64_in _ (by omega)
      have i3 : IntKind.i64.wrap (gz.1 * q) = gz.1 * q := IntWalk.i64_in _ (by omega)
      have i4 : IntKind.i64.wrap (gz.2 * p) = gz.2 * p := IntWalk.i64_in _ (by omega)
      have i5 : IntKind.i64.wrap (S.1 + gz.1 * p) = S.1 + gz.1 * p := IntWalk.i64_in _ (by omega)
      have i6 : IntKind.i64.wrap (S.1 + gz.1 * p - gz.2 * q) = S.1 + gz.1 * p - gz.2 * q := IntWalk.i64_in _ (by omega)
      have i7 : IntKind.i64.wrap (S.2 + gz.1 * q) = S.2 + gz.1 * q := IntWalk.i64_in _ (by omega)
      have i8 : IntKind.i64.wrap (S.2 + gz.1 * q + gz.2 * p) = S.2 + gz.1 * q + gz.2 * p := IntWalk.i64_in _ (by omega)
      go_still_tail 21, (by kernel_rfl)
      change wpList _ _ _ _ _ W.drew
      go_wp2_with fail
      have r1 := (r1.set_ 0 (.int .i64 (S.1 + gz.1 * p - gz.2 * q))).drew
      have rx := (rx.far hHG (p := ⟨G, 0, none⟩) (.int .i64 (S.1 + gz.1 * p - gz.2 * q))).drew
      have hbel := (hbel.setCell (p := ⟨G, 0, none⟩) (by show w.heap.size ≤ G; have := HG.out; omega) (.int .i64 (S.1 + gz.1 * p - gz.2 * q))).drew
      have r0 := (r0.far (p := ⟨G, 0, none⟩) (by show w.heap.size ≠ G; have := HG.out; omega) (.int .i64 (S.1 + gz.1 * p - gz.2 * q))).drew
      have hc1 := (bcl hbel hb _).trans g1
      have hc2 := (bcl hbel hb _).trans g2
      obtain ⟨V, hV⟩ : ∃ V, (W.setCell ⟨G, 0, none⟩ (.int .i64 (S.1 + gz.1 * p - gz.2 * q))).drew = V := ⟨_, rfl⟩
      rw [hV] at r1 rx hbel hc1 hc2 r0 ⊢
      clear hV e0 e1 d0 d1 f0 f1
      obtain ⟨e0, e1, _, _⟩ := rx.two
      obtain ⟨d0, d1, f0, f1⟩ := r1.two
      go_still_tail 21, (by kernel_rfl)
      change wpList _ _ _ _ _ V.drew
      have r1 := (r1.set_ 1 (.int .i64 (S.2 + gz.1 * q + gz.2 * p))).drew
      have r0 := (r0.far (p := ⟨G, 1, none⟩) (by show w.heap.size ≠ G; have := HG.out; omega) (.int .i64 (S.2 + gz.1 * q + gz.2 * p))).drew
      have hbel := (hbel.setCell (p := ⟨G, 1, none⟩) (by show w.heap.size ≤ G; have := HG.out; omega) (.int .i64 (S.2 + gz.1 * q + gz.2 * p))).drew
      go_wp2_with fail
      go_roundw
      case measure => simp [intOf]; omega
      case rel => exact ⟨k + 1, by omega, by go_num, r0, by rw [HS1.out]; exact r1, hbel⟩
    · obtain rfl : k = 16 := by omega
      go_wp2_with fail
      refine (l21Cells_any _).mono ?_
      rintro e w' ⟨rfl, rfl⟩
      obtain ⟨d0, d1, _, _⟩ := r1.two
      obtain ⟨_, _, f0, f1⟩ := r0.two
      have hlt0 := r0.lt
      generalize hS : trT g (-1) t 16 = S at *
      have HS := Lib.hid hS; clear hS
      go_wp2_with fail
      have r2 := (r0.set_ 0 (.int .i64 S.1)).set_ 1 (.int .i64 S.2)
      have hb2 := set2 hbel (g := w.heap.size) (Nat.le_refl _) (u := .int .i64 S.1) (v := .int .i64 S.2)
      generalize (wr.setCell ⟨w.heap.size, 0, none⟩ (.int .i64 S.1)).setCell ⟨w.heap.size, 1, none⟩ (.int .i64 S.2) = W at r2 hb2 ⊢
      obtain ⟨c0, c1, _, _⟩ := r2.two
      refine bodyPost_ret (v := .agg #[.int .i64 S.1, .int .i64 S.2]) (by simp [results, Tryz.results163, go_sem, c0, c1]) rfl ⟨by rw [HS.out], hb2⟩
end Go.Proofs.YtipgpafgampfbaaGreatDoor

namespace Go.Proofs.YtipgpafgampfbaaGreatDoor
open Go.RowKit

theorem l3Place_any (a : Int × Int) (w : World) :
    Calls Tryz.prog 62 #[.agg #[.int .i64 a.1, .int .i64 a.2]] w fun e w' => e = .returned (.bool (antOk a)) ∧ Below w.heap.size w w' := by
  have r0 := Row.new w 50 [.int .i64 a.1, .int .i64 a.2]
  obtain ⟨c0, c1, _, _⟩ := r0.two
  have R0 := Lib.hid r0; clear r0
  go_enter Tryz.func62, Tryz.ntmps62
  go_wp2_with fail
  refine (l6In_any a.1 (-1000) 1000 _).mono ?_
  rintro e w1 ⟨rfl, rfl⟩
  cases h1 : inR a.1 (-1000) 1000
  · have H1 := Lib.hid h1; clear h1
    go_wp2_with fail
    go_ret
    refine ⟨ret_bool ?_, bA1⟩
    unfold antOk; rw [H1.out]; rfl
  · have H1 := Lib.hid h1; clear h1
    go_wp2_with fail
    refine (l6In_any a.2 (-1000) 1000 _).mono ?_
    rintro e w1 ⟨rfl, rfl⟩
    go_wp2_with fail
    go_ret
    refine ⟨ret_bool ?_, bA1⟩
    unfold antOk; rw [H1.out]; rfl

set_option maxRecDepth 100000 in
set_option maxHeartbeats 1000000 in
theorem sArrayValid_any (A : Option Addr) (n cap : Nat) (xs : List (Int × Int)) (w : World) (hn : xs.length = n) (hb : n ≤ 1048576) (hr : Rd w w.heap.size A (xs.flatMap pairCells)) :
    Calls Tryz.prog 22 #[.slice A n cap] w fun e w' => e = .returned (.bool (arrV xs)) ∧ Below w.heap.size w w' := by
  have hV : arrV xs = (inR n 2 7 && arrP xs n) := by unfold arrV; rw [hn]
  have Hn := Lib.hid hn; clear hn
  have HV := Lib.hid hV; clear hV
  go_enter Tryz.func22, Tryz.ntmps22
  go_wp2_with fail
  go_loopw [3] (fun i wr => ∃ k : Nat, k ≤ n ∧ i = .int .i64 k ∧ arrP xs k = true ∧ Below w.heap.size w wr) (fun i _ => n - (intOf i).toNat)
  case atStart => exact ⟨0, by omega, rfl, rfl, Below.refl _ _⟩
  case round =>
    obtain ⟨k, hkn, rfl, hall, hbel⟩ := hrel
    by_cases hlt : k < n
    · have hsucc := arrP_succ xs k
      have hno := fun h => arrP_no (xs := xs) (n := n) hlt h
      have hgk := getD_of (gs := xs) (k := k) (by rw [Hn.out]; exact hlt)
      obtain ⟨b, off, rfl, hb2, hc1, hc2⟩ := rd_pair (hr.below hbel) hgk
      obtain ⟨x, hx⟩ : ∃ x, xs.getD k (0, 0) = x := ⟨_, rfl⟩
      rw [hx] at hsucc hno hgk hc1 hc2
      have hbs := hbel.size
      have Hall := Lib.hid hall; clear hall
      have Hsucc := Lib.hid hsucc; clear hsucc
      have Hno := Lib.hid hno; clear hno
      have Hgk := Lib.hid hgk; clear hgk
      have Hx := Lib.hid hx; clear hx
      go_wp2_with fail
      refine (l3Place_any x _).mono ?_
      rintro e w1 ⟨rfl, b1⟩
      have B1 := hbel.trans (b1.mono hbel.size)
      clear b1 hbel
      cases ha : antOk x
      · have hno := Hno.out (by rw [ha]; rfl)
        have Hno := Lib.hid hno; clear hno
        have Ha := Lib.hid ha; clear ha
        go_wp2_with fail
        go_ret
        exact ⟨ret_bool (by rw [HV.out, Hno.out, Bool.and_false]), B1⟩
      · have Ha := Lib.hid ha; clear ha
        go_wp2_with fail
        go_loopw [4] (fun i wr => ∃ j : Nat, j ≤ k ∧ i = .int .i64 j ∧ x ∉ xs.take j ∧ Below w.heap.size w wr) (fun i _ => k - (intOf i).toNat)
        case atStart => exact ⟨0, by omega, rfl, by simp, B1⟩
        case round =>
          clear B1
          obtain ⟨j, hjk, rfl, hni, hbel⟩ := hrel
          have hr' := hr.below hbel
          by_cases hlt2 : j < k
          · have hts := take_succ_getD (l := xs) (d := (0, 0)) (k := j) (by rw [Hn.out]; omega)
            have hgj := getD_of (gs := xs) (k := j) (by rw [Hn.out]; omega)
            obtain ⟨_, _, e, _, hd1, hd2⟩ := rd_pair hr' hgj
            cases e
            obtain ⟨_, _, e, _, he1, he2⟩ := rd_pair hr' Hgk.out
            cases e
            have hmem : ∀ m, j < m → xs.getD j (0, 0) ∈ xs.take m := fun m hm => by
              rw [List.getD_eq_getElem?_getD, List.getElem?_eq_getElem (by rw [Hn.out]; omega)]
              exact List.mem_iff_getElem.2 ⟨j, by rw [List.length_take, Hn.out]; omega, by simp⟩
            generalize xs.getD j (0, 0) = y at *
            have Hbel := Lib.hid hbel; clear hbel
            have Hts := Lib.hid hts; clear hts
            have Hni := Lib.hid hni; clear hni
            have Hmem := Lib.hid hmem; clear hmem
            have Hgj := Lib.hid hgj; clear hgj
            by_cases hxy : y = x
            · subst hxy
              have hno := Hno.out (by rw [Ha.out, decide_eq_true (Hmem.out k hlt2)]; rfl)
              have Hno := Lib.hid hno; clear hno
              go_wp2_with fail
              go_quiet (fail)
              go_wp2_with fail
              go_ret
              exact ⟨ret_bool (by rw [HV.out, Hno.out, Bool.and_false]), below_drewN Hbel.out _⟩
            · have Hxy := Lib.hid hxy
              rcases pair_bne hxy with h1 | ⟨h1, h2⟩
              · clear hxy
                go_wp2_with fail
                go_quiet (fail)
                go_wp2_with fail
                go_roundw
                case measure => simp [intOf]; omega
                case rel =>
                  refine ⟨j + 1, by omega, by go_num, ?_, below_drewN Hbel.out _⟩
                  rw [Hts.out]
                  simp only [List.mem_append, List.mem_singleton, not_or]
                  exact ⟨Hni.out, fun e => Hxy.out e.symm⟩
              · clear hxy
                go_wp2_with fail
                go_quiet (fail)
                go_wp2_with fail
                go_roundw
                case measure => simp [intOf]; omega
                case rel =>
                  refine ⟨j + 1, by omega, by go_num, ?_, below_drewN Hbel.out _⟩
                  rw [Hts.out]
                  simp only [List.mem_append, List.mem_singleton, not_or]
                  exact ⟨Hni.out, fun e => Hxy.out e.symm⟩
          · obtain rfl : j = k := by omega
            have Hni := Lib.hid hni; clear hni
            have Hbel := Lib.hid hbel; clear hbel
            go_wp2_with fail
            go_roundw
            case measure => simp [intOf]; omega
            case rel => exact ⟨j + 1, by omega, by go_num, by rw [Hsucc.out, Hall.out, Ha.out, decide_eq_false Hni.out]; rfl, Hbel.out⟩
    · obtain rfl : k = n := by omega
      have Hall := Lib.hid hall; clear hall
      go_wp2_with fail
      refine (l6In_any k 2 7 _).mono ?_
      rintro e w1 ⟨rfl, rfl⟩
      go_wp2_with fail
      go_ret
      exact ⟨ret_bool (by rw [HV.out, Hall.out, Bool.and_true]), hbel⟩

set_option maxRecDepth 100000 in
set_option maxHeartbeats 1000000 in
theorem vector_any (A : Option Addr) (n cap : Nat) (xs : List (Int × Int)) (i j : Nat) (w : World) (hn : xs.length = n) (hi : i < n) (hj : j < n) (hg : gLe 1000 xs) (hr : Rd w w.heap.size A (xs.flatMap pairCells)) :
    Calls Tryz.prog 107 #[.slice A n cap, .int .i64 i, .int .i64 j] w fun e w' => e = .returned (.agg #[.int .i64 (vecX xs i j), .int .i64 (vecY xs i j)]) ∧ Below w.heap.size w w' := by
  obtain ⟨b, off, rfl, hb, g1, g2⟩ := rd_pair hr (getD_of (gs := xs) (k := i) (by rw [hn]; exact hi))
  obtain ⟨_, _, e, _, g3, g4⟩ := rd_pair hr (getD_of (gs := xs) (k := j) (by rw [hn]; exact hj))
  cases e
  have hv := vec_bd hg i j
  have e1 : vecX xs i j = (xs.getD j (0, 0)).1 - (xs.getD i (0, 0)).1 := rfl
  have e2 : vecY xs i j = (xs.getD j (0, 0)).2 - (xs.getD i (0, 0)).2 := rfl
  rw [e1, e2] at hv ⊢
  generalize xs.getD i (0, 0) = x at *
  generalize xs.getD j (0, 0) = y at *
  have i1 : IntKind.i64.wrap (y.1 - x.1) = y.1 - x.1 := IntWalk.i64_in _ (by omega)
  have i2 : IntKind.i64.wrap (y.2 - x.2) = y.2 - x.2 := IntWalk.i64_in _ (by omega)
  have r0 := Row.new w 50 [.int .i64 0, .int .i64 0]
  have hc1 := (bcl (bA1 (w := w) (o := .cells #[.int .i64 0, .int .i64 0] 50)) hb _).trans g1
  have hc2 := (bcl (bA1 (w := w) (o := .cells #[.int .i64 0, .int .i64 0] 50)) hb _).trans g2
  have hc3 := (bcl (bA1 (w := w) (o := .cells #[.int .i64 0, .int .i64 0] 50)) hb _).trans g3
  have hc4 := (bcl (bA1 (w := w) (o := .cells #[.int .i64 0, .int .i64 0] 50)) hb _).trans g4
  have hW := bA1 (w := w) (o := .cells #[.int .i64 0, .int .i64 0] 50)
  clear e1 e2 g1 g2 g3 g4
  have Hn := Lib.hid hn; clear hn
  go_enter Tryz.func107, Tryz.ntmps107
  go_wp2_with fail
  obtain ⟨W, hWW⟩ : ∃ W, w.alloc (.cells #[.int .i64 0, .int .i64 0] 50) = W := ⟨_, rfl⟩
  simp only [hWW] at r0 hc1 hc2 hc3 hc4 hW
  rw [hWW]
  clear hWW
  obtain ⟨c0, c1, f0, f1⟩ := r0.two
  go_still_tail 23, (by kernel_rfl)
  change wpList _ _ _ _ _ W.drew
  go_wp2_with fail
  have r2 := ((r0.set_ 0 (.int .i64 (y.1 - x.1))).set_ 1 (.int .i64 (y.2 - x.2))).drew
  have hb2 := (set2 hW (g := w.heap.size) (Nat.le_refl _) (u := .int .i64 (y.1 - x.1)) (v := .int .i64 (y.2 - x.2))).drew
  generalize ((W.setCell ⟨w.heap.size, 0, none⟩ (.int .i64 (y.1 - x.1))).setCell ⟨w.heap.size, 1, none⟩ (.int .i64 (y.2 - x.2))).drew = V at r2 hb2 ⊢
  obtain ⟨d0, d1, _, _⟩ := r2.two
  refine bodyPost_ret (v := .agg #[.int .i64 (y.1 - x.1), .int .i64 (y.2 - x.2)]) (by simp [results, Tryz.results107, go_sem, d0, d1]) rfl ⟨rfl, hb2⟩

theorem pairAt_of (n i j : Nat) (h7 : n ≤ 7) (hi : i < j) (hj : j < n) (at_ : Nat) (h : bF n i j = at_) : pairAt n at_ = (i, j) := by
  have h1 := upTo_len_bF n i j h7 hi (by omega)
  have h2 := inner_prefix n i (j + 1 - (i + 1)) (by omega)
  rw [rowOf_take n i j hi hj, ← List.append_assoc] at h2
  obtain ⟨t, ht⟩ := h2
  have hl : (upTo n i ++ (rowOf n i).take (j - (i + 1))).length = at_ := by omega
  unfold pairAt
  rw [← ht, List.getD_eq_getElem?_getD, List.append_assoc, List.getElem?_append_right (by omega), hl]
  simp

set_option maxHeartbeats 1000000 in
theorem sBasePair_any (n at_ : Nat) (w : World) (h2 : 2 ≤ n) (h7 : n ≤ 7) (ha : at_ < (pairsN n).length) :
    Calls Tryz.prog 145 #[.int .i64 n, .int .i64 at_] w fun e w' => e = .returned (.tuple #[.int .i64 (pairAt n at_).1, .int .i64 (pairAt n at_).2, .bool true]) ∧ w = w' := by
  have hbm := bm_pairs n h2 h7
  have hbp : (0 : Int) < bm n := by have := bm_cases n; omega
  have Hbm := Lib.hid hbm
  clear hbm
  go_enter Tryz.func145, Tryz.ntmps145
  go_wp2_with fail
  go_loop [7] (fun i => ∃ k : Nat, k ≤ n ∧ i = .int .i64 k ∧ (upTo n k).length ≤ at_) (fun i => n - (intOf i).toNat)
  case atStart => exact ⟨0, by omega, rfl, by simp [upTo]⟩
  case round =>
    obtain ⟨i, hi, rfl, hle⟩ := hrel
    by_cases hlt : i < n
    · have hin : (i : Int) < n := by omega
      go_wp2_with fail
      refine (sBaseMany_any n _).mono ?_
      rintro e w1 ⟨rfl, rfl⟩
      go_wp2_with fail
      go_loop [8] (fun i' => ∃ j : Nat, i < j ∧ j ≤ n ∧ i' = .int .i64 j ∧ bF n i j ≤ at_) (fun i' => n - (intOf i').toNat)
      case atStart =>
        refine ⟨i + 1, by omega, by omega, by go_num, ?_⟩
        have := upTo_len_bF n i (i + 1) h7 (by omega) (by omega)
        rw [Nat.sub_self, List.take_zero, List.append_nil] at this
        omega
      case round =>
        clear hle
        obtain ⟨j, hij, hj, rfl, hle⟩ := hrel
        by_cases hlt2 : j < n
        · have hjn : (j : Int) < n := by omega
          go_wp2_with fail
          refine (sBaseIndex_lt n i j _ (by omega) (by omega) (by omega)).mono ?_
          rintro e w1 ⟨rfl, rfl⟩
          by_cases he : bF n i j = at_
          · have hp := pairAt_of n i j h7 hij hlt2 at_ he
            have Hp := Lib.hid hp
            clear hp hle
            rw [he]
            go_wp2_with fail
            refine bodyPost_ret (v := .tuple #[.int .i64 i, .int .i64 j, .bool true]) (by simp [results, Tryz.results145, go_sem]) rfl ⟨by rw [Hp.out], rfl⟩
          · have hne : (bF n i j == (at_ : Int)) = false := beq_eq_false_iff_ne.2 he
            have hsu : bF n i (j + 1 : Nat) = bF n i j + 1 := by unfold bF; omega
            have hlt3 : bF n i j + 1 ≤ at_ := by omega
            have Hsu := Lib.hid hsu
            have Hlt3 := Lib.hid hlt3
            clear he hsu hlt3 hle
            generalize bF n i j = f at *
            go_wp2_with fail
            go_round
            case measure => simp [intOf]; omega
            case rel => exact ⟨j + 1, by omega, by omega, by go_num, by rw [Hsu.out]; exact Hlt3.out⟩
        · obtain rfl : j = n := by omega
          have hl : (upTo j (i + 1)).length ≤ at_ := by
            have := upTo_len_bF j i j h7 hij (Nat.le_refl _)
            rw [rowOf_all, ← upTo_succ] at this
            omega
          clear hle
          go_wp2_with fail
          go_round
          case measure => simp [intOf]; omega
          case rel => exact ⟨i + 1, by omega, by go_num, hl⟩
    · exfalso
      obtain rfl : i = n := by omega
      unfold pairsN at ha
      omega

set_option maxRecDepth 100000 in
set_option maxHeartbeats 1000000 in
theorem sBaseVector_any (A : Option Addr) (n cap : Nat) (xs : List (Int × Int)) (i j : Nat) (w : World) (hn : xs.length = n) (hv : arrV xs = true) (hi : i < n) (hj : j < n) (hr : Rd w w.heap.size A (xs.flatMap pairCells)) :
    Calls Tryz.prog 146 #[.slice A n cap, .int .i64 i, .int .i64 j] w fun e w' => e = .returned (.tuple #[.agg #[.int .i64 (vecX xs i j), .int .i64 (vecY xs i j)], .bool true]) ∧ Below w.heap.size w w' := by
  have hl := arrV_len hv
  have h7 : n ≤ 7 := by omega
  have hvb := vec_bd (arrV_gLe hv) i j
  have e1 : vecX xs i j = (xs.getD j (0, 0)).1 - (xs.getD i (0, 0)).1 := rfl
  have e2 : vecY xs i j = (xs.getD j (0, 0)).2 - (xs.getD i (0, 0)).2 := rfl
  rw [e1, e2] at hvb ⊢
  have hg1 := getD_of (gs := xs) (k := i) (by rw [hn]; exact hi)
  have hg2 := getD_of (gs := xs) (k := j) (by rw [hn]; exact hj)
  generalize xs.getD i (0, 0) = x at *
  generalize xs.getD j (0, 0) = y at *
  have r0 := Row.new w 50 [.int .i64 0, .int .i64 0]
  have hr' := hr.ext (bA1 (o := .cells #[.int .i64 0, .int .i64 0] 50))
  have hi1 : inR (i : Int) 0 ((n : Int) - 1) = true := inR_iff.2 (by omega)
  have hj1 : inR (j : Int) 0 ((n : Int) - 1) = true := inR_iff.2 (by omega)
  clear e1 e2 hl
  have Hn := Lib.hid hn; clear hn
  have Hv := Lib.hid hv; clear hv
  have Hg1 := Lib.hid hg1; clear hg1
  have Hg2 := Lib.hid hg2; clear hg2
  have Hi1 := Lib.hid hi1; clear hi1
  have Hj1 := Lib.hid hj1; clear hj1
  go_enter Tryz.func146, Tryz.ntmps146
  go_wp2_with fail
  refine (sArrayValid_any A n cap xs _ Hn.out (by omega) hr').mono ?_
  rintro e w1 ⟨rfl, b1⟩
  rw [Hv.out]
  go_wp2_with fail
  refine (l6In_any i 0 _ _).mono ?_
  rintro e w2 ⟨rfl, rfl⟩
  rw [Hi1.out]
  go_wp2_with fail
  refine (l6In_any j 0 _ _).mono ?_
  rintro e w2 ⟨rfl, rfl⟩
  rw [Hj1.out]
  have r1 := r0.kept b1
  have hr1 := hr'.ext b1
  have B1 := bA1.trans (b1.mono bA1.size)
  obtain ⟨b, off, rfl, hb, hc1, hc2⟩ := rd_pair hr1 Hg1.out
  obtain ⟨_, _, e, _, hc3, hc4⟩ := rd_pair hr1 Hg2.out
  cases e
  have hlt := r1.lt
  obtain ⟨c0, c1, f0, f1⟩ := r1.two
  have i1 : IntKind.i64.wrap (y.1 - x.1) = y.1 - x.1 := IntWalk.i64_in _ (by omega)
  have i2 : IntKind.i64.wrap (y.2 - x.2) = y.2 - x.2 := IntWalk.i64_in _ (by omega)
  clear b1 r0 hr'
  go_wp2_with fail
  go_still_tail 23, (by kernel_rfl)
  change wpList _ _ _ _ _ w1.drew
  go_wp2_with fail
  have r2 := ((r1.set_ 0 (.int .i64 (y.1 - x.1))).set_ 1 (.int .i64 (y.2 - x.2))).drew
  have hb2 := (set2 B1 (g := w.heap.size) (Nat.le_refl _) (u := .int .i64 (y.1 - x.1)) (v := .int .i64 (y.2 - x.2))).drew
  generalize ((w1.setCell ⟨w.heap.size, 0, none⟩ (.int .i64 (y.1 - x.1))).setCell ⟨w.heap.size, 1, none⟩ (.int .i64 (y.2 - x.2))).drew = V at r2 hb2 ⊢
  obtain ⟨d0, d1, _, _⟩ := r2.two
  refine bodyPost_ret (v := .tuple #[.agg #[.int .i64 (y.1 - x.1), .int .i64 (y.2 - x.2)], .bool true]) (by simp [results, Tryz.results146, go_sem, d0, d1]) rfl ⟨rfl, hb2⟩

theorem l17Vector_any (A : Option Addr) (n cap : Nat) (xs : List (Int × Int)) (k : Nat) (w : World) (hn : xs.length = n) (hv : arrV xs = true) (hk : k < (pairsN n).length) (hr : Rd w w.heap.size A (xs.flatMap pairCells)) :
    Calls Tryz.prog 125 #[.slice A n cap, .int .i64 k] w fun e w' => e = .returned (.agg #[.int .i64 (vecX xs (pairAt n k).1 (pairAt n k).2), .int .i64 (vecY xs (pairAt n k).1 (pairAt n k).2)]) ∧ Below w.heap.size w w' := by
  have hl := arrV_len hv
  obtain ⟨hp1, hp2⟩ := pairAt_lt hk
  have r0 := Row.new w 50 [.int .i64 0, .int .i64 0]
  have hr' := hr.ext (bA1 (o := .cells #[.int .i64 0, .int .i64 0] 50))
  have hbp := fun w => sBasePair_any n k w (by omega) (by omega) hk
  generalize (pairAt n k).1 = i at *
  generalize (pairAt n k).2 = j at *
  have Hn := Lib.hid hn; clear hn
  have Hv := Lib.hid hv; clear hv
  have Hbp := Lib.hid hbp; clear hbp
  go_enter Tryz.func125, Tryz.ntmps125
  go_wp2_with fail
  refine (Hbp.out _).mono ?_
  rintro e w2 ⟨rfl, rfl⟩
  go_wp2_with fail
  refine (sBaseVector_any A n cap xs i j _ Hn.out Hv.out (by omega) hp2 hr').mono ?_
  rintro e w1 ⟨rfl, b1⟩
  have r1 := r0.kept b1
  have B1 := bA1.trans (b1.mono bA1.size)
  obtain ⟨c0, c1, f0, f1⟩ := r1.two
  have hlt := r1.lt
  generalize hx : vecX xs i j = x at *
  generalize hy : vecY xs i j = y at *
  have Hx := Lib.hid hx; clear hx
  have Hy := Lib.hid hy; clear hy
  go_wp2_with fail
  have r2 := ((r1.set_ 0 (.int .i64 x)).set_ 1 (.int .i64 y)).alloc (.cells #[.int .i64 x, .int .i64 y] 50)
  have hb1 := (set2 B1 (g := w.heap.size) (Nat.le_refl _) (u := .int .i64 x) (v := .int .i64 y))
  have hb2 := hb1.alloc hb1.size (.cells #[.int .i64 x, .int .i64 y] 50)
  generalize ((w1.setCell ⟨w.heap.size, 0, none⟩ (.int .i64 x)).setCell ⟨w.heap.size, 1, none⟩ (.int .i64 y)).alloc (.cells #[.int .i64 x, .int .i64 y] 50) = V at r2 hb2 ⊢
  obtain ⟨d0, d1, _, _⟩ := r2.two
  refine bodyPost_ret (v := .agg #[.int .i64 x, .int .i64 y]) (by simp [results, Tryz.results125, go_sem, d0, d1]) rfl ⟨by rw [Hx.out, Hy.out], hb2⟩
end Go.Proofs.YtipgpafgampfbaaGreatDoor

namespace Go.Proofs.YtipgpafgampfbaaGreatDoor
open Go.RowKit Go.Shelf
attribute [local go_sem] Oper.semAt_some

/-- A box whose slice owns its row. -/
def BoxOwn (n₀ B : Nat) (t e : TypeId) (size k : Nat) (xs : List Value) (W : World) : Prop := ∃ v, Boxed W B t v ∧ W.ownsRow n₀ e size v k xs
theorem BoxOwn.kept {n₀ B : Nat} {t e : TypeId} {size k : Nat} {xs : List Value} {X Y : World} {row : Option Nat} (h : BoxOwn n₀ B t e size k xs X) (hg : X.grownBy Y row) (hrow : ∀ r, row = some r → ∃ o : Obj, X.heap[r]? = some o ∧ o.isCells = false) : BoxOwn n₀ B t e size k xs Y := by
  obtain ⟨v, hv, hr⟩ := h
  obtain ⟨v', h1, h2, _⟩ := holdsRow_own n₀ B t e size (fun _ : Unit => k) (fun _ => xs) (fun _ _ => True) () X Y row ⟨v, hv, hr, trivial⟩ hg hrow
  exact ⟨v', h1, h2⟩
theorem Boxed.keptI {X Y : World} {B : Nat} {t : TypeId} {v : Value} {row : Option Nat} (h : Boxed X B t v) (hg : X.grownBy Y row) (hrow : ∀ r, row = some r → ∃ o : Obj, X.heap[r]? = some o ∧ o.isCells = false) : Boxed Y B t v :=
  boxed_own B t (fun _ : Unit => v) () X Y row h hg hrow
end Go.Proofs.YtipgpafgampfbaaGreatDoor

namespace Go.Proofs.YtipgpafgampfbaaGreatDoor
open Go.RowKit Go.Shelf
attribute [local go_sem] Oper.semAt_some

end Go.Proofs.YtipgpafgampfbaaGreatDoor

namespace Go.Proofs.YtipgpafgampfbaaGreatDoor
open Go.RowKit Go.Shelf
attribute [local go_sem] Oper.semAt_some

/-- The coverage of the first baselines. -/
def covP (ants : List (Int × Int)) (ps : List (Nat × Nat)) : List Bool := (List.range 16).map fun k => ps.any fun p => vecC ants p.1 p.2 == k || oppN (vecC ants p.1 p.2) == k
theorem covP_len (ants : List (Int × Int)) (ps : List (Nat × Nat)) : (covP ants ps).length = 16 := by simp [covP]
theorem covP_all (ants : List (Int × Int)) : covP ants (pairsN ants.length) = covL ants := rfl
theorem covP_snoc (ants : List (Int × Int)) (ps : List (Nat × Nat)) (x : Nat × Nat) : covP ants (ps ++ [x]) = ((covP ants ps).set (vecC ants x.1 x.2) true).set (oppN (vecC ants x.1 x.2)) true := by
  apply List.ext_getElem (by simp [covP])
  intro i h1 h2
  rw [List.getElem_set, List.getElem_set]
  simp only [covP, List.getElem_map, List.getElem_range, List.any_append, List.any_cons, List.any_nil, Bool.or_false]
  by_cases e2 : oppN (vecC ants x.1 x.2) = i
  · rw [if_pos e2]; simp [e2]
  · rw [if_neg e2]
    by_cases e1 : vecC ants x.1 x.2 = i
    · rw [if_pos e1]; simp [e1]
    · rw [if_neg e1]; simp [e1, e2]
theorem row_keptI {X Y : World} {g : Nat} {T : TypeId} {xs : List Value} {row : Option Nat} (h : Row X g T xs) (hg : X.grownBy Y row) (hrow : ∀ r, row = some r → ∃ o : Obj, X.heap[r]? = some o ∧ o.isCells = false) : Row Y g T xs := by
  refine h.grown hg fun e => ?_
  obtain ⟨o, ho, hc⟩ := hrow g e.symm
  rw [show X.heap[g]? = _ from h] at ho
  cases ho
  cases hc
/-- What holds between the rounds. -/
def TsI (n : Nat) (ants : List (Int × Int)) (w : World) (pre : List (BP n)) (W : World) : Prop :=
  Row W w.heap.size 4 ((covP ants (pre.map (·.1))).map Value.bool) ∧ Boxed W (w.heap.size + 1) 33 (.slice (some ⟨w.heap.size, 0, none⟩) 16 16) ∧ Boxed W (w.heap.size + 2) 3 (.int .i64 n) ∧ Below w.heap.size w W
theorem TsI_own (n : Nat) (ants : List (Int × Int)) (w : World) (N : Nat) (hN : w.heap.size ≤ N) : OwnFrom N (TsI n ants w) := by
  intro p W W' row hs hg hr
  obtain ⟨h1, h2, h3, h4⟩ := hs
  have hr2 := fun r e => (hr r e).2
  exact ⟨row_keptI h1 hg hr2, Boxed.keptI h2 hg hr2, Boxed.keptI h3 hg hr2, ownFrom_below (β := Unit) (Nat.le_refl _) hN () W W' row h4 hg hr⟩

set_option maxRecDepth 100000 in
set_option maxHeartbeats 1000000 in
theorem trackScale_in (A : Option Addr) (n ca : Nat) (ants : List (Int × Int)) (w : World) (hn : ants.length = n) (hk : n ≤ ca) (hva : arrV ants = true) (hr : Rd w w.heap.size A (ants.flatMap pairCells)) :
    CallsIn Fence.wide 9 Tryz.prog 65 #[.slice A n ca, .int .i64 1] w fun e w' =>
      ∃ g, e = .returned (.tuple #[.slice (some ⟨g, 0, none⟩) 16 16, .bool true]) ∧ w.heap.size ≤ g ∧ Row w' g 4 ((covL ants).map Value.bool) ∧ Below w.heap.size w w' := by
  obtain ⟨Z, hZ⟩ : ∃ Z, List.replicate 16 (Value.bool false) = Z := ⟨_, rfl⟩
  have hmk : ∀ W : World, (Instr.makeSlice 33 (.int .i64 16) (.int .i64 16)).run Tryz.prog W = .ok (.slice (some ⟨W.heap.size, 0, none⟩) 16 16) (W.alloc (.cells Z.toArray 4)) := fun W => by
    rw [← hZ]; exact run_make1 (P := Tryz.prog) 33 4 (.bool false) 1 Tryz.underlying33 (by kernel_rfl) rfl 16 (by omega) (by omega) W
  have hz2 : Z = (covP ants []).map Value.bool := by rw [← hZ]; rfl
  have hl := arrV_len hva
  have hgl := arrV_gLe hva
  have h2 : 2 ≤ n := by omega
  have h7 : n ≤ 7 := by omega
  have Hz2 := Lib.hid hz2
  clear hl hZ hz2
  have Hn := Lib.hid hn; clear hn
  have Hva := Lib.hid hva; clear hva
  have Hgl := Lib.hid hgl; clear hgl
  have bA := (Boxed.new w 26 (.slice A n ca)).alloc (.cells #[.int .i64 1] 3)
  have bK := Boxed.new (w.alloc (.cells #[.slice A n ca] 26)) 3 (.int .i64 1)
  rw [World.size_alloc] at bK
  have hr' := hr.ext (bA2 (o := .cells #[.slice A n ca] 26) (o' := .cells #[.int .i64 1] 3))
  refine callsIn_of_wp_marks Tryz.func65 rfl trivial ?_ rfl
  simp only [Tryz.ntmps65, List.size_toArray, List.length_cons, List.length_nil, Nat.reduceAdd, Nat.reduceSub, Array.replicate_succ, Array.replicate_zero, List.push_toArray, List.append_toArray, List.nil_append, List.cons_append]
  gi_wp2_with fail
  refine ⟨trivial, (callsIn_wide.2 (arrayValid_any A n ca ants _ Hn.out hk (by omega) hr')).mono ?_⟩
  rintro e w1 ⟨rfl, b1⟩
  rw [Hva.out]
  have bA := boxed_ext bA b1
  have bK := boxed_ext bK b1
  have hr1 := hr'.ext b1
  have B1 := bA2.trans (b1.mono bA2.size)
  have cA := bA.cell
  have cK := bK.cell
  have hlA := bA.lt
  have hlK := bK.lt
  clear b1 hr'
  gi_wp2_with fail
  refine ⟨trivial, (callsIn_wide.2 (bases_any _ _)).mono ?_⟩
  rintro e w' ⟨rfl, rfl⟩
  gi_wp2_with fail
  clear hmk
  have e1 := Row.new w1 4 Z
  have e2 := Boxed.new (w1.alloc (.cells Z.toArray 4)) 33 (.slice (some ⟨w1.heap.size, 0, none⟩) 16 16)
  have e3 := Boxed.new ((w1.alloc (.cells Z.toArray 4)).alloc (.cells #[.slice (some ⟨w1.heap.size, 0, none⟩) 16 16] 33)) 3 (.int .i64 n)
  simp only [World.size_alloc] at e2 e3
  have hb : TsI n ants w1 [] (((w1.alloc (.cells Z.toArray 4)).alloc (.cells #[.slice (some ⟨w1.heap.size, 0, none⟩) 16 16] 33)).alloc (.cells #[.int .i64 n] 3)) := by
    refine ⟨?_, e2.alloc _, e3, bA3⟩
    have := (e1.alloc (.cells #[.slice (some ⟨w1.heap.size, 0, none⟩) 16 16] 33)).alloc (.cells #[.int .i64 n] 3)
    rw [Hz2.out] at this ⊢
    exact this
  have hsz : w1.heap.size + 3 = (((w1.alloc (.cells Z.toArray 4)).alloc (.cells #[.slice (some ⟨w1.heap.size, 0, none⟩) 16 16] 33)).alloc (.cells #[.int .i64 n] 3)).heap.size := by simp
  obtain ⟨W0, hW0⟩ : ∃ W0, (((w1.alloc (.cells Z.toArray 4)).alloc (.cells #[.slice (some ⟨w1.heap.size, 0, none⟩) 16 16] 33)).alloc (.cells #[.int .i64 n] 3)) = W0 := ⟨_, rfl⟩
  rw [hW0] at hb hsz ⊢
  have Hb := Lib.hid hb
  clear e1 e2 e3 hb hW0 cA cK
  obtain ⟨g, hg⟩ : ∃ g, w1.heap.size = g := ⟨_, rfl⟩
  rw [hg] at hsz hlA hlK ⊢
  have Hg := Lib.hid hg
  refine wpIn_rangeFunc_ownG rfl (by omega) (gf := 117) (lb := #[.pointer (some ⟨g + 1 + 1, 0, none⟩)]) rfl trivial (enters_of Tryz.func117 (by kernel_rfl) rfl)
    (bases_stops 8 n h2 h7 (g + 1 + 1) _ (by have := Hb.out.2.2.1.cell; rw [Hg.out] at this; exact this) (by omega)) KC_t (fun W l o o' _ h1 h2 _ => KC_b W l o o' h1 h2) (Below.refl _ _) (fun _ => rfl)
    (TsI n ants w1)
    (fun _ _ _ => False)
    (TsI_own n ants w1 _ (by omega))
    (fun _ _ _ _ _ hs _ _ => hs)
    Hb.out
    (fun x => { tmps := #[.slice A n ca, .int .i64 1, .pointer (some ⟨w.heap.size, 0, none⟩), .pointer (some ⟨w.heap.size + 1, 0, none⟩), .slice none 0 0, .bool false, .pointer (some ⟨g + 1, 0, none⟩), .int .i64 (x.1.1 : Nat), .int .i64 (x.1.2 : Nat), undef, .slice A n ca,
      .bool true, .bool false, .bool false, .int .i64 1, .bool false, .bool false, .bool false, .int .i64 1, .bool false, .bool false, .slice (some ⟨g, 0, none⟩) 16 16, .slice A n ca, .int .i64 n, .func (.func 117) #[] #[.pointer (some ⟨g + 1 + 1, 0, none⟩)], .int .i64 (x.1.1 : Nat), .int .i64 (x.1.2 : Nat),
      undef, undef, undef, undef, undef, undef, undef, undef, undef, undef, undef, undef, undef, undef, undef, undef, undef, undef, undef, undef, undef, undef, undef, undef, undef, undef, undef, undef, undef], defers := [] }) ?assign ?body ?done ?stop
  case assign =>
    intro l x W K hK
    gi_wp2
    exact hK
  case body =>
    rintro l pre x W ⟨h1, h2', h3, hbel⟩ hlt
    rw [Hg.out] at h1 h2' h3
    have hbs := hbel.size
    have cA := (bcl hbel (by rw [Hg.out]; exact hlA) 0).trans bA.cell
    have cK := (bcl hbel (by rw [Hg.out]; exact hlK) 0).trans bK.cell
    have hrW := (hr1.below hbel).more hbs
    obtain ⟨x1, x2⟩ : x.1.1 < x.1.2 ∧ x.1.2 < n := x.2
    refine wpIn_block ?_
    have Hbel := Lib.hid hbel
    clear hbel
    gi_wp2_with fail
    refine ⟨trivial, ((callsIn_wide.2 (vector_any A n ca ants x.1.1 x.1.2 _ Hn.out (by omega) x2 Hgl.out hrW)).inRound l).mono ?_⟩
    rintro e w4 ⟨rfl, b4⟩
    obtain ⟨X, hX⟩ : ∃ X, vecX ants x.1.1 x.1.2 = X := ⟨_, rfl⟩
    obtain ⟨Y, hY⟩ : ∃ Y, vecY ants x.1.1 x.1.2 = Y := ⟨_, rfl⟩
    obtain ⟨c, hc⟩ : ∃ c, vecC ants x.1.1 x.1.2 = c := ⟨_, rfl⟩
    have hcI : cellI X Y = (c : Int) := by rw [← hc, ← hX, ← hY]; exact cellN_cast _ _
    have hcO : cellI (-X) (-Y) = (oppN c : Int) := by rw [← hc, cellN_cast, ← hX, ← hY, cellN_neg]; rfl
    have hc16 : c < 16 := by rw [← hc]; exact vecC_lt _ _ _
    have ho16 := oppN_lt c
    have hvb := vec_bd Hgl.out x.1.1 x.1.2
    rw [hX, hY] at hvb
    rw [hX, hY]
    have j1 : IntKind.i64.wrap X = X := IntWalk.i64_in _ (by omega)
    have j2 : IntKind.i64.wrap Y = Y := IntWalk.i64_in _ (by omega)
    have j3 : IntKind.i64.wrap (-X) = -X := IntWalk.i64_in _ (by omega)
    have j4 : IntKind.i64.wrap (-Y) = -Y := IntWalk.i64_in _ (by omega)
    have j5 : IntKind.i64.wrap (-1) = -1 := IntWalk.i64_in _ (by omega)
    have hsn := covP_snoc ants (pre.map (·.1)) x.1
    rw [hc] at hsn
    have J1 := Lib.hid j1
    have J2 := Lib.hid j2
    have J3 := Lib.hid j3
    have J4 := Lib.hid j4
    have J5 := Lib.hid j5
    have Hsn := Lib.hid hsn
    clear j1 j2 j3 j4 j5 hsn hX hY hc
    gi_wp2_with fail
    have E1 : Below W.heap.size W (w4.alloc (.cells #[.int .i64 X, .int .i64 Y] 50)) := b4.alloc b4.size _
    have rv := Row.new w4 50 [.int .i64 X, .int .i64 Y]
    obtain ⟨V, hV⟩ : ∃ V, w4.alloc (.cells #[.int .i64 X, .int .i64 Y] 50) = V := ⟨_, rfl⟩
    obtain ⟨H, hH⟩ : ∃ H, w4.heap.size = H := ⟨_, rfl⟩
    have hHW : W.heap.size ≤ H := by rw [← hH]; exact b4.size
    rw [hV] at rv E1 ⊢
    rw [hH] at rv ⊢
    have hgW : g < W.heap.size := h1.lt
    have h1 := h1.kept E1
    have h2' := boxed_ext h2' E1
    have h3 := boxed_ext h3 E1
    have bKV := boxed_ext (show Boxed W (w.heap.size + 1) 3 (.int .i64 1) from (Hbel.out.block _ (by rw [Hg.out]; exact hlK)).trans bK) E1
    have hbV := Hbel.out.trans (E1.mono hbs)
    have kV := keeps_ext E1
    clear hV hH b4 E1 hrW cA cK
    obtain ⟨P, hP⟩ : ∃ P, covP ants (pre.map (·.1)) = P := ⟨_, rfl⟩
    have hPl : P.length = 16 := by rw [← hP]; exact covP_len _ _
    rw [hP] at h1
    have HP := Lib.hid hP
    clear hP
    refine wpIn_region_N [11] [11] (by kernel_rfl) (by kernel_rfl) (by kernel_rfl) ?_
    refine wpStill_go (v := .slice (some ⟨g, 0, none⟩) 16 16) rfl rfl (stays_run fun w' h => ex_load rfl rfl (ld_one (by kernel_rfl) ((bcl ‹_› h2'.lt 0).trans h2'.cell))) ?_
    simp only [Act.put, List.setIfInBounds_toArray, List.set_cons_succ, List.set_cons_zero]
    refine wpStill_go (v := .int .i64 1) rfl rfl (stays_run fun w' h => ex_load rfl rfl (ld_one (by kernel_rfl) ((bcl ‹_› bKV.lt 0).trans bKV.cell))) ?_
    simp only [Act.put, List.setIfInBounds_toArray, List.set_cons_succ, List.set_cons_zero]
    refine wpStill_go (v := .pointer (some ⟨H, 0, none⟩)) rfl rfl (stays_run fun w' h => by simp [go_sem]) ?_
    simp only [Act.put, List.setIfInBounds_toArray, List.set_cons_succ, List.set_cons_zero]
    refine wpStill_go (v := .int .i64 X) rfl rfl (stays_run fun w' h => ex_load rfl rfl (ld_one (by kernel_rfl) ((rv.kept ‹_›).cell 0))) ?_
    simp only [Act.put, List.setIfInBounds_toArray, List.set_cons_succ, List.set_cons_zero]
    refine wpStill_go (v := .int .i64 X) rfl rfl (stays_run fun w' h => by simp [go_sem, J1.out]) ?_
    simp only [Act.put, List.setIfInBounds_toArray, List.set_cons_succ, List.set_cons_zero]
    refine wpStill_go (v := .int .i64 1) rfl rfl (stays_run fun w' h => ex_load rfl rfl (ld_one (by kernel_rfl) ((bcl ‹_› bKV.lt 0).trans bKV.cell))) ?_
    simp only [Act.put, List.setIfInBounds_toArray, List.set_cons_succ, List.set_cons_zero]
    refine wpStill_go (v := .pointer (some ⟨H, 1, none⟩)) rfl rfl (stays_run fun w' h => by simp [go_sem]) ?_
    simp only [Act.put, List.setIfInBounds_toArray, List.set_cons_succ, List.set_cons_zero]
    refine wpStill_go (v := .int .i64 Y) rfl rfl (stays_run fun w' h => ex_load rfl rfl (ld_one (by kernel_rfl) ((rv.kept ‹_›).cell 1))) ?_
    simp only [Act.put, List.setIfInBounds_toArray, List.set_cons_succ, List.set_cons_zero]
    refine wpStill_go (v := .int .i64 Y) rfl rfl (stays_run fun w' h => by simp [go_sem, J2.out]) ?_
    simp only [Act.put, List.setIfInBounds_toArray, List.set_cons_succ, List.set_cons_zero]
    refine wpStill_go (v := .int .i64 (c : Nat)) rfl rfl (stays_call (f := 94) (args := #[.int .i64 X, .int .i64 Y]) (fun w' h => by simp [go_sem]) (fun w' _ => by rw [← hcI]; exact (cellAt_any _ _ w').mono fun e w'' ⟨h, h2⟩ => ⟨h, h2 ▸ Below.refl _ _⟩)) ?_
    simp only [Act.put, List.setIfInBounds_toArray, List.set_cons_succ, List.set_cons_zero]
    refine wpStill_go (v := .pointer (some ⟨g, 0 + c * 1, none⟩)) rfl rfl (stays_run fun w' h => ex_index rfl (by kernel_rfl) (by kernel_rfl) rfl rfl (hc16)) ?_
    simp only [Act.put, List.setIfInBounds_toArray, List.set_cons_succ, List.set_cons_zero]
    refine wpStill_skip rfl ?_
    refine wpStill_nil ?_
    repeat (refine wpMark_skip rfl ?_)
    refine wpMark_go rfl (fun m1 hm1 K hK => ?_)
    have F1 := (Below.refl V.heap.size V).drew.trans hm1
    have r1 := h1.kept F1
    have ck := r1.cell c
    have fk := r1.frozen c
    rw [List.getElem?_map, List.getElem?_eq_getElem (by rw [hPl]; exact hc16)] at ck
    simp only [Option.map_some] at ck
    have rs := r1.set_ c (.bool true)
    rw [← List.map_set] at rs
    have hbF := hbV.trans (F1.mono hbV.size)
    have hgB : w1.heap.size ≤ g := by rw [Hg.out]; exact Nat.le_refl _
    have hbS := hbF.setCell (p := ⟨g, c, none⟩) hgB (.bool true)
    have kS := (kV.trans (keeps_ext F1)).trans (KeepsOthers.setCell m1 ⟨g, c, none⟩ (.bool true))
    have b2S := (boxed_ext h2' F1).kept (grown_set m1 g c (.bool true)) (by simp)
    have b3S := (boxed_ext h3 F1).kept (grown_set m1 g c (.bool true)) (by simp)
    have bKS := (boxed_ext bKV F1).kept (grown_set m1 g c (.bool true)) (by simp; omega)
    have rvS := (rv.kept F1).far (p := ⟨g, c, none⟩) (by show H ≠ g; omega) (.bool true)
    go_wp2_with fail
    refine hK _ _ (fun h => absurd h (by decide)) (wpMark_nil fun m6 hm6 => ?_)
    simp only [onlyN, Exit.then]
    have r6 := rs.kept hm6
    have hb6 := hbS.trans (hm6.mono hbS.size)
    have k6 := kS.trans (keeps_ext hm6)
    have b26 := boxed_ext b2S hm6
    have b36 := boxed_ext b3S hm6
    have bK6 := boxed_ext bKS hm6
    have rv6 := rvS.kept hm6
    obtain ⟨P2, hP2⟩ : ∃ P2, P.set c true = P2 := ⟨_, rfl⟩
    have hP2l : P2.length = 16 := by rw [← hP2, List.length_set]; exact hPl
    rw [hP2] at r6
    have HP2 := Lib.hid hP2
    clear hK rs hbS kS b2S b3S bKS rvS hbF F1 r1 ck fk hm1 h1 h2' h3 bKV rv hbV kV hm6 hP2
    gi_wp2_with fail
    refine wpIn_region_N [13] [13] (by kernel_rfl) (by kernel_rfl) (by kernel_rfl) ?_
    refine wpStill_go (v := .slice (some ⟨g, 0, none⟩) 16 16) rfl rfl (stays_run fun w' h => ex_load rfl rfl (ld_one (by kernel_rfl) ((bcl ‹_› b26.lt 0).trans b26.cell))) ?_
    simp only [Act.put, List.setIfInBounds_toArray, List.set_cons_succ, List.set_cons_zero]
    refine wpStill_go (v := .int .i64 1) rfl rfl (stays_run fun w' h => ex_load rfl rfl (ld_one (by kernel_rfl) ((bcl ‹_› bK6.lt 0).trans bK6.cell))) ?_
    simp only [Act.put, List.setIfInBounds_toArray, List.set_cons_succ, List.set_cons_zero]
    refine wpStill_go (v := .int .i64 (-1)) rfl rfl (stays_run fun w' h => by simp [go_sem, J5.out]) ?_
    simp only [Act.put, List.setIfInBounds_toArray, List.set_cons_succ, List.set_cons_zero]
    refine wpStill_go (v := .pointer (some ⟨H, 0, none⟩)) rfl rfl (stays_run fun w' h => by simp [go_sem]) ?_
    simp only [Act.put, List.setIfInBounds_toArray, List.set_cons_succ, List.set_cons_zero]
    refine wpStill_go (v := .int .i64 X) rfl rfl (stays_run fun w' h => ex_load rfl rfl (ld_one (by kernel_rfl) ((rv6.kept ‹_›).cell 0))) ?_
    simp only [Act.put, List.setIfInBounds_toArray, List.set_cons_succ, List.set_cons_zero]
    refine wpStill_go (v := .int .i64 (-X)) rfl rfl (stays_run fun w' h => by simp [go_sem, J3.out]) ?_
    simp only [Act.put, List.setIfInBounds_toArray, List.set_cons_succ, List.set_cons_zero]
    refine wpStill_go (v := .int .i64 1) rfl rfl (stays_run fun w' h => ex_load rfl rfl (ld_one (by kernel_rfl) ((bcl ‹_› bK6.lt 0).trans bK6.cell))) ?_
    simp only [Act.put, List.setIfInBounds_toArray, List.set_cons_succ, List.set_cons_zero]
    refine wpStill_go (v := .int .i64 (-1)) rfl rfl (stays_run fun w' h => by simp [go_sem, J5.out]) ?_
    simp only [Act.put, List.setIfInBounds_toArray, List.set_cons_succ, List.set_cons_zero]
    refine wpStill_go (v := .pointer (some ⟨H, 1, none⟩)) rfl rfl (stays_run fun w' h => by simp [go_sem]) ?_
    simp only [Act.put, List.setIfInBounds_toArray, List.set_cons_succ, List.set_cons_zero]
    refine wpStill_go (v := .int .i64 Y) rfl rfl (stays_run fun w' h => ex_load rfl rfl (ld_one (by kernel_rfl) ((rv6.kept ‹_›).cell 1))) ?_
    simp only [Act.put, List.setIfInBounds_toArray, List.set_cons_succ, List.set_cons_zero]
    refine wpStill_go (v := .int .i64 (-Y)) rfl rfl (stays_run fun w' h => by simp [go_sem, J4.out]) ?_
    simp only [Act.put, List.setIfInBounds_toArray, List.set_cons_succ, List.set_cons_zero]
    refine wpStill_go (v := .int .i64 (oppN c : Nat)) rfl rfl (stays_call (f := 94) (args := #[.int .i64 (-X), .int .i64 (-Y)]) (fun w' h => by simp [go_sem]) (fun w' _ => by rw [← hcO]; exact (cellAt_any _ _ w').mono fun e w'' ⟨h, h2⟩ => ⟨h, h2 ▸ Below.refl _ _⟩)) ?_
    simp only [Act.put, List.setIfInBounds_toArray, List.set_cons_succ, List.set_cons_zero]
    refine wpStill_go (v := .pointer (some ⟨g, 0 + oppN c * 1, none⟩)) rfl rfl (stays_run fun w' h => ex_index rfl (by kernel_rfl) (by kernel_rfl) rfl rfl (ho16)) ?_
    simp only [Act.put, List.setIfInBounds_toArray, List.set_cons_succ, List.set_cons_zero]
    refine wpStill_skip rfl ?_
    refine wpStill_nil ?_
    repeat (refine wpMark_skip rfl ?_)
    generalize oppN c = d at *
    refine wpMark_go rfl (fun m7 hm7 K hK => ?_)
    have F1 := (Below.refl m6.heap.size m6).drew.trans hm7
    have r1 := r6.kept F1
    have ck := r1.cell d
    have fk := r1.frozen d
    rw [List.getElem?_map, List.getElem?_eq_getElem (by rw [hP2l]; exact ho16)] at ck
    simp only [Option.map_some] at ck
    have rs := r1.set_ d (.bool true)
    rw [← List.map_set] at rs
    have hbF := hb6.trans (F1.mono hb6.size)
    have hbS := hbF.setCell (p := ⟨g, d, none⟩) hgB (.bool true)
    have kS := (k6.trans (keeps_ext F1)).trans (KeepsOthers.setCell m7 ⟨g, d, none⟩ (.bool true))
    have b2S := (boxed_ext b26 F1).kept (grown_set m7 g d (.bool true)) (by simp)
    have b3S := (boxed_ext b36 F1).kept (grown_set m7 g d (.bool true)) (by simp)
    go_wp2_with fail
    refine hK _ _ (fun h => absurd h (by decide)) (wpMark_nil fun m8 hm8 => ?_)
    have r8 := rs.kept hm8
    have b28 := boxed_ext b2S hm8
    have b38 := boxed_ext b3S hm8
    have hb8 := hbS.trans (hm8.mono hbS.size)
    rw [← Hg.out] at r8 b28 b38
    refine ⟨(kS.trans (keeps_ext hm8)).from _, fun _ => by rw [← Hg.out]; exact b38.cell, ?_, b28, b38, hb8⟩
    rw [List.map_append, List.map_singleton, Hsn.out, HP.out, HP2.out]
    exact r8
  case done =>
    rintro D ys W hD rfl ⟨h1, h2', h3, hbel⟩ hK
    have hc := h2'.cell
    rw [Hg.out] at hc
    rw [pairsB_map, ← Hn.out, covP_all] at h1
    gi_wp2_with fail
    have hbel2 : Below w1.heap.size W (W.putObj D (.deferred none)) := belowK_b (w := w1) (Nat.le_refl _) W D _ _ (by omega) hK rfl rfl
    have hrow := row_keptI h1 (grownBy_putObj' W D (.deferred none)) (fun r e => by cases e; exact ⟨_, hK, rfl⟩)
    refine ⟨by simp, .inl ⟨_, _, rfl, run_takeDeferred hK, ?_⟩⟩
    refine ⟨_, (by simp [results, Tryz.results65, go_sem]; rfl), w1.heap.size, by rw [Hg.out], B1.size, hrow, B1.trans ((hbel.trans hbel2).mono B1.size)⟩
  case stop =>
    rintro D c pre W _ _ h _
    exact h.elim

theorem coverOf_yes (A : Option Addr) (n ca : Nat) (ants : List (Int × Int)) (w : World) (hn : ants.length = n) (hk : n ≤ ca) (hva : arrV ants = true) (hr : Rd w w.heap.size A (ants.flatMap pairCells)) :
    Calls Tryz.prog 28 #[.slice A n ca] w fun e w' =>
      ∃ g, e = .returned (.tuple #[.slice (some ⟨g, 0, none⟩) 16 16, .bool true]) ∧ w.heap.size ≤ g ∧ Row w' g 4 ((covL ants).map Value.bool) ∧ Below w.heap.size w w' := by
  have hc := callsIn_wide.1 (trackScale_in A n ca ants w hn hk hva hr)
  clear hn
  go_enter Tryz.func28, Tryz.ntmps28
  go_wp2_with fail
  refine (hc).mono ?_
  rintro e w1 ⟨g, rfl, hg, hr1, b1⟩
  go_wp2_with fail
  refine bodyPost_ret (v := .tuple #[.slice (some ⟨g, 0, none⟩) 16 16, .bool true]) (by simp [results, Tryz.results28, go_sem]) rfl ⟨g, rfl, hg, hr1, b1⟩
end Go.Proofs.YtipgpafgampfbaaGreatDoor
