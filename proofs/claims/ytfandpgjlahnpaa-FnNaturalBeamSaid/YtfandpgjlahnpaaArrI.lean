/- 'impl.ArrayValid'. -/
import Derived.Test.YtfandpgjlahnpaaArr
namespace Go.Proofs.Ytfandpgjlahnpaa
open Go.RowKit

theorem ex_slice {ρ : Operand → Value} {o : Oper} {P : Program} {w : World} {t : TypeId} {x y : Operand} {X Y v : Value} (ho : o.op = .slice t x none (some y) none) (hx : ρ x = X) (hy : ρ y = Y) (hs : (Instr.sliceAt t X none (some Y) none).run P w = .ok v w) :
    (execOp ρ o).run P w = .ok (.value v) w := by
  subst hx hy; simp [execOp, ho, hs]
theorem run_head {P : Program} {t e : TypeId} (ht : P.underlying t = some (.slice e)) {s : Nat} (hs : (P.info? e).map (·.size) = some s) (a : Addr) (n cap k : Nat) (hk : k ≤ cap) (w : World) :
    (Instr.sliceAt t (.slice (some a) n cap) none (some (.int .i64 k)) none).run P w = .ok (.slice (some a) k cap) w := by
  have he : P.elem t = e := by simp [Program.elem, ht]
  have ht' : P.underlying t = some (.slice (P.elem t)) := by rw [he]; exact ht
  rw [run_sliceAt_slice (h := ht'), run_slice_h (ht := ht') (h0 := by omega) (h2 := by omega), he, size_of hs]
  simp [sliced, Result.andThen, Addr.add]

set_option maxRecDepth 100000 in
set_option maxHeartbeats 1000000 in
theorem arrayValid_any (A : Option Addr) (n cap : Nat) (xs : List (Int × Int)) (w : World) (hn : xs.length = n) (hk : n ≤ cap) (hb : n ≤ 1048576) (hr : Rd w w.heap.size A (xs.flatMap pairCells)) :
    Calls Try.prog 68 #[.slice A n cap] w fun e w' => e = .returned (.bool (arrV xs)) ∧ Below w.heap.size w w' := by
  by_cases h27 : 2 ≤ n ∧ n ≤ 7
  · obtain ⟨h2, h7⟩ := h27
    have hV : arrV xs = arrP xs n := by
      unfold arrV; rw [hn, inR_iff.2 (by omega)]; rfl
    have hi2 : ¬ (n : Int) < 2 := by omega
    have hi7 : ¬ (7 : Int) < (n : Int) := by omega
    have Hn := Lib.hid hn; clear hn
    have HV := Lib.hid hV; clear hV
    go_enter Try.func68, Try.ntmps68
    go_wp2_with fail
    go_loopw [15] (fun i wr => ∃ k : Nat, k ≤ n ∧ i = .int .i64 k ∧ arrP xs k = true ∧ Below w.heap.size w wr) (fun i _ => n - (intOf i).toNat)
    case atStart => exact ⟨0, by omega, rfl, rfl, Below.refl _ _⟩
    case round =>
      obtain ⟨k, hkn, rfl, hall, hbel⟩ := hrel
      have hbs := hbel.size
      by_cases hlt : k < n
      · have hrk := hr.below hbel
        have hg := getD_of (gs := xs) (k := k) (by rw [Hn.out]; exact hlt)
        obtain ⟨b, off, rfl, hb2, hc1, hc2⟩ := rd_pair hrk hg
        have hsucc := arrP_succ xs k
        have hno := fun h => arrP_no (xs := xs) (n := n) hlt h
        have hrt : ∀ w', Below w.heap.size w w' → Rd w' w'.heap.size (some ⟨b, off, none⟩) ((xs.take k).flatMap pairCells) := fun w' h i u hu => by
          refine (hr.below h).more h.size i u ?_
          rw [← List.take_append_drop k xs, List.flatMap_append, List.getElem?_append_left]
          · exact hu
          · rcases Nat.lt_or_ge i ((xs.take k).flatMap pairCells).length with h | h
            · exact h
            · rw [List.getElem?_eq_none h] at hu; cases hu
        have htl : (xs.take k).length = k := by rw [List.length_take, Hn.out]; omega
        generalize xs.getD k (0, 0) = x at *
        have Hall := Lib.hid hall; clear hall
        have Hg := Lib.hid hg; clear hg
        have Hsucc := Lib.hid hsucc; clear hsucc
        have Hno := Lib.hid hno; clear hno
        have Htl := Lib.hid htl; clear htl
        have Hrt := Lib.hid hrt; clear hrt
        go_wp2_with fail
        have rb := Row.new wr 35 [.int .i64 x.1, .int .i64 x.2]
        have hbW := hbel.alloc hbs (.cells #[.int .i64 x.1, .int .i64 x.2] 35)
        obtain ⟨W, hW⟩ : ∃ W, wr.alloc (.cells #[.int .i64 x.1, .int .i64 x.2] 35) = W := ⟨_, rfl⟩
        simp only [hW] at rb hbW
        rw [hW]
        have L4 : ∀ w', Below W.heap.size W w' → (Instr.loadAt 35 (.pointer (some ⟨wr.heap.size, 0, none⟩))).run Try.prog w' = .ok (.agg #[.int .i64 x.1, .int .i64 x.2]) w' := fun w' h => ld_two (by kernel_rfl) (by kernel_rfl) ((rb.kept h).cell 0) ((rb.kept h).cell 1)
        have hS : ∀ w', (Instr.sliceAt 23 (.slice (some ⟨b, off, none⟩) n cap) none (some (.int .i64 k)) none).run Try.prog w' = .ok (.slice (some ⟨b, off, none⟩) k cap) w' := fun w' => run_head (s := 2) Try.underlying23 (by kernel_rfl) _ _ _ _ (by omega) w'
        clear hW rb
        cases hx : antOk x
        · refine wp_region_N [] [] (by kernel_rfl) (by kernel_rfl) ?_
          refine wpStill_go (v := .agg #[.int .i64 x.1, .int .i64 x.2]) rfl rfl (stays_run fun w' h => ex_load rfl rfl (L4 w' h)) ?_
          simp only [Act.put, List.setIfInBounds_toArray, List.set_cons_succ, List.set_cons_zero, Nat.reduceAdd]
          refine wpStill_go (v := .bool false) rfl rfl (stays_call (f := 120) (args := #[.agg #[.int .i64 x.1, .int .i64 x.2]]) (fun w' h => by simp [go_sem]) (fun w' _ => by rw [← hx]; exact isPlace_any x w')) ?_
          simp only [Act.put, List.setIfInBounds_toArray, List.set_cons_succ, List.set_cons_zero, Nat.reduceAdd]
          refine wpStill_go (v := .bool true) rfl rfl (stays_run fun w' h => by simp [go_sem]) ?_
          simp only [Act.put, List.setIfInBounds_toArray, List.set_cons_succ, List.set_cons_zero, Nat.reduceAdd]
          refine wpStill_go (v := .bool true) rfl rfl (stays_run fun w' h => ex_move rfl rfl) ?_
          simp only [Act.put, List.setIfInBounds_toArray, List.set_cons_succ, List.set_cons_zero, Nat.reduceAdd]
          refine wpStill_off rfl (by kernel_rfl) ?_
          simp only [Act.put, List.setIfInBounds_toArray, List.set_cons_succ, List.set_cons_zero, Nat.reduceAdd]
          refine wpStill_off rfl (by kernel_rfl) ?_
          simp only [Act.put, List.setIfInBounds_toArray, List.set_cons_succ, List.set_cons_zero, Nat.reduceAdd]
          refine wpStill_off rfl (by kernel_rfl) ?_
          simp only [Act.put, List.setIfInBounds_toArray, List.set_cons_succ, List.set_cons_zero, Nat.reduceAdd]
          refine wpStill_off rfl (by kernel_rfl) ?_
          simp only [Act.put, List.setIfInBounds_toArray, List.set_cons_succ, List.set_cons_zero, Nat.reduceAdd]
          refine wpStill_off rfl (by kernel_rfl) ?_
          simp only [Act.put, List.setIfInBounds_toArray, List.set_cons_succ, List.set_cons_zero, Nat.reduceAdd]
          refine wpStill_go (v := .bool true) rfl rfl (stays_run fun w' h => by simp [go_sem]) ?_
          simp only [Act.put, List.setIfInBounds_toArray, List.set_cons_succ, List.set_cons_zero, Nat.reduceAdd]
          refine wpStill_nil ?_
          repeat (refine wpMark_skip rfl ?_)
          refine wpMark_nil fun w11 h11 => ?_
          simp only [onlyN, Exit.then]
          have B7 := hbW.trans (((Below.refl _ _).drew.trans h11).mono hbW.size)
          have hno := Hno.out (by rw [hx]; rfl)
          have Hno := Lib.hid hno; clear hno
          have Hx := Lib.hid hx; clear hx
          clear L4 hS h11
          go_wp2_with fail
          go_ret
          exact ⟨ret_bool (by rw [HV.out, Hno.out]), B7⟩
        · have hct : ∀ w', Below W.heap.size W w' → Calls Try.prog 121 #[.slice (some ⟨b, off, none⟩) k cap, .agg #[.int .i64 x.1, .int .i64 x.2]] w' fun e w'' => e = .returned (.bool (decide (x ∈ xs.take k))) ∧ Below w'.heap.size w' w'' := fun w' h =>
            containsAnt_any _ k cap (xs.take k) x w' Htl.out (by omega) (Hrt.out w' (hbW.trans (h.mono hbW.size)))
          obtain ⟨m, hm⟩ : ∃ m, decide (x ∈ xs.take k) = m := ⟨_, rfl⟩
          rw [hm] at hct
          have Hm := Lib.hid hm
          have Hct := Lib.hid hct
          clear hm hct
          refine wp_region_N [] [] (by kernel_rfl) (by kernel_rfl) ?_
          refine wpStill_go (v := .agg #[.int .i64 x.1, .int .i64 x.2]) rfl rfl (stays_run fun w' h => ex_load rfl rfl (L4 w' h)) ?_
          simp only [Act.put, List.setIfInBounds_toArray, List.set_cons_succ, List.set_cons_zero, Nat.reduceAdd]
          refine wpStill_go (v := .bool true) rfl rfl (stays_call (f := 120) (args := #[.agg #[.int .i64 x.1, .int .i64 x.2]]) (fun w' h => by simp [go_sem]) (fun w' _ => by rw [← hx]; exact isPlace_any x w')) ?_
          simp only [Act.put, List.setIfInBounds_toArray, List.set_cons_succ, List.set_cons_zero, Nat.reduceAdd]
          refine wpStill_go (v := .bool false) rfl rfl (stays_run fun w' h => by simp [go_sem]) ?_
          simp only [Act.put, List.setIfInBounds_toArray, List.set_cons_succ, List.set_cons_zero, Nat.reduceAdd]
          refine wpStill_go (v := .bool false) rfl rfl (stays_run fun w' h => ex_move rfl rfl) ?_
          simp only [Act.put, List.setIfInBounds_toArray, List.set_cons_succ, List.set_cons_zero, Nat.reduceAdd]
          refine wpStill_go (v := .slice (some ⟨b, off, none⟩) n cap) rfl rfl (stays_run fun w' h => ex_move rfl rfl) ?_
          simp only [Act.put, List.setIfInBounds_toArray, List.set_cons_succ, List.set_cons_zero, Nat.reduceAdd]
          refine wpStill_go (v := .int .i64 k) rfl rfl (stays_run fun w' h => ex_move rfl rfl) ?_
          simp only [Act.put, List.setIfInBounds_toArray, List.set_cons_succ, List.set_cons_zero, Nat.reduceAdd]
          refine wpStill_go (v := .slice (some ⟨b, off, none⟩) k cap) rfl rfl (stays_run fun w' h => by exact ex_slice rfl rfl rfl (hS w')) ?_
          simp only [Act.put, List.setIfInBounds_toArray, List.set_cons_succ, List.set_cons_zero, Nat.reduceAdd]
          refine wpStill_go (v := .agg #[.int .i64 x.1, .int .i64 x.2]) rfl rfl (stays_run fun w' h => ex_load rfl rfl (L4 w' h)) ?_
          simp only [Act.put, List.setIfInBounds_toArray, List.set_cons_succ, List.set_cons_zero, Nat.reduceAdd]
          refine wpStill_go (v := .bool m) rfl rfl (stays_call (f := 121) (args := #[.slice (some ⟨b, off, none⟩) k cap, .agg #[.int .i64 x.1, .int .i64 x.2]]) (fun w' h => by simp [go_sem]) (fun w' _ => Hct.out w' ‹_›)) ?_
          simp only [Act.put, List.setIfInBounds_toArray, List.set_cons_succ, List.set_cons_zero, Nat.reduceAdd]
          refine wpStill_go (v := .bool m) rfl rfl (stays_run fun w' h => by simp [go_sem]) ?_
          simp only [Act.put, List.setIfInBounds_toArray, List.set_cons_succ, List.set_cons_zero, Nat.reduceAdd]
          refine wpStill_nil ?_
          repeat (refine wpMark_skip rfl ?_)
          refine wpMark_nil fun w11 h11 => ?_
          simp only [onlyN, Exit.then]
          have B7 := hbW.trans (((Below.refl _ _).drew.trans h11).mono hbW.size)
          cases m
          · have Hx := Lib.hid hx; clear hx
            clear L4 hS h11
            go_wp2_with fail
            go_roundw
            case measure => simp [intOf]; omega
            case rel => exact ⟨k + 1, by omega, by go_num, by rw [Hsucc.out, Hall.out, Hx.out, Hm.out]; rfl, B7⟩
          · have hno := Hno.out (by rw [hx, Hm.out]; rfl)
            have Hno := Lib.hid hno; clear hno
            have Hx := Lib.hid hx; clear hx
            clear L4 hS h11
            go_wp2_with fail
            go_ret
            exact ⟨ret_bool (by rw [HV.out, Hno.out]), B7⟩
      · obtain rfl : k = n := by omega
        have Hall := Lib.hid hall; clear hall
        go_wp2_with fail
        go_ret
        exact ⟨ret_bool (by rw [HV.out, Hall.out]), hbel⟩
  · have hV : arrV xs = false := by
      unfold arrV; rw [hn, inR_no.2 (by omega)]; rfl
    have hi2 : (n : Int) < 2 ∨ (7 : Int) < (n : Int) := by omega
    have Hn := Lib.hid hn; clear hn
    have HV := Lib.hid hV; clear hV
    by_cases h2 : n < 2
    · have hi2 : (n : Int) < 2 := by omega
      go_enter Try.func68, Try.ntmps68
      go_wp2_with fail
      go_ret
      exact ⟨ret_bool (by rw [HV.out]), Below.refl _ _⟩
    · have hi2 : ¬ (n : Int) < 2 := by omega
      have hi7 : (7 : Int) < (n : Int) := by omega
      go_enter Try.func68, Try.ntmps68
      go_wp2_with fail
      go_ret
      exact ⟨ret_bool (by rw [HV.out]), Below.refl _ _⟩
end Go.Proofs.Ytfandpgjlahnpaa
