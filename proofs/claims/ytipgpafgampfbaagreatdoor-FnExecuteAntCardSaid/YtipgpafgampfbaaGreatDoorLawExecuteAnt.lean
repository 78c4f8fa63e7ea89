/- FnExecuteAnt returns true at every input, and leaves what was there. -/
import Derived.Test.YtipgpafgampfbaaGreatDoorExeQ
import Derived.Test.YtipgpafgampfbaaGreatDoorExeI
import Derived.Test.YtipgpafgampfbaaGreatDoorDrawE
import Derived.Test.YtipgpafgampfbaaGreatDoorTied
namespace Go.Proofs.YtipgpafgampfbaaGreatDoor
open Go.RowKit

set_option maxRecDepth 100000 in
set_option maxHeartbeats 1000000 in
theorem FnExecuteAnt_walk (w : World) (hL : laidMet Tryz.prog Rows.fnExecuteAntRow.laid w) (hS : w.ShapedOpen Tryz.prog) (A : Option Addr) (n cap : Nat) (bs : List Int) (hn : bs.length = n) (hm : n ≤ 9223372036854775807) (hr : Rd w w.heap.size A (bs.map (Value.int .u8))) (hw : ∀ x ∈ bs, (Lit.int .u8 x).wf = true) (hk : n ≤ cap) :
    Calls Tryz.prog 6 #[.slice A n cap] w fun e w' => e = .returned (.bool true) ∧ Below w.heap.size w w' := by
  have Hbs := Lib.hid (bytesOk_of hw); clear hw
  have Ht := Lib.hid (tab_third hL); clear hL
  by_cases hb : n ≤ 1048576
  · have hnb : ¬ (1048576 : Int) < (n : Int) := by omega
    go_enter Tryz.func6, Tryz.ntmps6
    go_wp2_with fail
    refine (drawArrayValid_any A n cap bs w hn hm hk Hbs.out hr).mono ?_
    rintro e w1 ⟨A1, k1, c1, xs, rfl, hx, hk1, hkc, hr1, B1⟩
    have Hx := Lib.hid hx; clear hx
    clear hr hn
    go_wp2_with fail
    refine (arrayValid_any A1 k1 c1 xs _ Hx.out hkc (by omega) hr1).mono ?_
    rintro e w2 ⟨rfl, b2⟩
    have B2 := B1.trans (b2.mono B1.size)
    have extX := (hr1.below b2).more b2.size; clear hr1; have hr1 := extX; clear extX
    clear b2
    go_wp2_with fail
    refine (sArrayValid_any A1 k1 c1 xs _ Hx.out (by omega) hr1).mono ?_
    rintro e w3 ⟨rfl, b3⟩
    have B3 := B2.trans (b3.mono B2.size)
    have extX := (hr1.below b3).more b3.size; clear hr1; have hr1 := extX; clear extX
    clear b3
    cases hv : arrV xs
    · clear hv
      go_wp2_with fail
      go_ret
      exact ⟨rfl, B3⟩
    · have hl := arrV_len hv
      have hg : gLe 1000000 xs := fun x h => by have := arrV_gLe hv x h; omega
      have hlaw := law_ant hv
      have hxl := Hx.out
      rw [hxl] at hlaw hl
      have hS1 : ∀ W : World, (Instr.sliceAt 26 (.slice A1 k1 c1) none (some (.int .i64 1)) none).run Tryz.prog W = .ok (.slice A1 1 c1) W := fun W => by
        have hr0 := hr1 0 _ (pairCells_get xs 0 (xs.getD 0 (0, 0)) (getD_of (by omega))).1
        obtain ⟨b, off, rfl, _, _⟩ := hr0
        exact run_head (s := 2) (P := Tryz.prog) (t := 26) (e := 50) (by kernel_rfl) (by kernel_rfl) _ k1 c1 1 (by omega) W
      have hxs1 : (xs.take 1).length = 1 := by rw [List.length_take]; omega
      have hsm := antsB_small hg
      have hsm1 := antsB_small (xs := xs.take 1) fun x h => hg x (List.mem_of_mem_take h)
      have hr3 := rd_take hr1 1
      obtain ⟨t1, ht1⟩ : ∃ t1, antsB xs = t1 := ⟨_, rfl⟩
      obtain ⟨t2, ht2⟩ : ∃ t2, antsB (xs.take 1) = t2 := ⟨_, rfl⟩
      rw [ht1, ht2] at hlaw
      rw [ht1] at hsm
      rw [ht2] at hsm1
      obtain ⟨out, ho⟩ : ∃ out, exeB (t1 ++ t2) = out := ⟨_, rfl⟩
      rw [ho] at hlaw
      have ol := oksB_len k1
      have Hlaw := Lib.hid hlaw; clear hlaw
      have Hv := Lib.hid hv; clear hv
      have Ht1 := Lib.hid ht1; clear ht1
      have Ht2 := Lib.hid ht2; clear ht2
      have Ho := Lib.hid ho; clear ho
      clear hxl
      go_wp2_with fail
      refine wp_region_N [] [] (by kernel_rfl) (by kernel_rfl) ?_
      refine wpStill_go (v := .slice A1 k1 c1) rfl rfl (stays_run fun w' h => ex_move rfl rfl) ?_
      simp only [Act.put, List.setIfInBounds_toArray, List.set_cons_succ, List.set_cons_zero]
      refine wpStill_go (v := .string ⟨t1.toArray⟩) rfl rfl (stays_call (f := 23) (args := #[.slice A1 k1 c1]) (fun w' h => by simp [go_sem]) (fun w' _ => by rw [← Ht1.out]; exact antLines_any A1 k1 c1 xs w' Hx.out (by omega) hg (hr1.ext ‹_›))) ?_
      simp only [Act.put, List.setIfInBounds_toArray, List.set_cons_succ, List.set_cons_zero]
      refine wpStill_go (v := .slice A1 k1 c1) rfl rfl (stays_run fun w' h => ex_move rfl rfl) ?_
      simp only [Act.put, List.setIfInBounds_toArray, List.set_cons_succ, List.set_cons_zero]
      refine wpStill_go (v := .slice A1 1 c1) rfl rfl (stays_run fun w' h => by exact ex_slice rfl rfl rfl (hS1 w')) ?_
      simp only [Act.put, List.setIfInBounds_toArray, List.set_cons_succ, List.set_cons_zero]
      refine wpStill_go (v := .string ⟨t2.toArray⟩) rfl rfl (stays_call (f := 23) (args := #[.slice A1 1 c1]) (fun w' h => by simp [go_sem]) (fun w' _ => by rw [← Ht2.out]; exact antLines_any A1 1 c1 (xs.take 1) w' hxs1 (by omega) (fun x h => hg x (List.mem_of_mem_take h)) (hr3.ext ‹_›))) ?_
      simp only [Act.put, List.setIfInBounds_toArray, List.set_cons_succ, List.set_cons_zero]
      refine wpStill_go (v := .string ⟨(t1 ++ t2).toArray⟩) rfl rfl (stays_run fun w' h => by exact ex_addS rfl (by kernel_rfl) rfl rfl (by rw [Hx.out] at hsm; omega)) ?_
      simp only [Act.put, List.setIfInBounds_toArray, List.set_cons_succ, List.set_cons_zero]
      refine wpStill_go (v := .string ⟨out.toArray⟩) rfl rfl (stays_call (f := 16) (args := #[.string ⟨(t1 ++ t2).toArray⟩]) (fun w' h => by simp [go_sem]) (fun w' _ => by rw [← Ho.out]; exact execute_all (t1 ++ t2) w' ((Ht.out.ext B3).ext ‹_›) (shapedB (shapedB hS B3) ‹_›))) ?_
      simp only [Act.put, List.setIfInBounds_toArray, List.set_cons_succ, List.set_cons_zero]
      refine wpStill_go (v := .string ⟨out.toArray⟩) rfl rfl (stays_run fun w' h => by simp [go_sem]) ?_
      simp only [Act.put, List.setIfInBounds_toArray, List.set_cons_succ, List.set_cons_zero]
      refine wpStill_nil ?_
      repeat (refine wpMark_skip rfl ?_)
      refine wpMark_nil fun w5 h5 => ?_
      simp only [onlyN, Exit.then]
      have B5 := B3.trans (((Below.refl _ w3).drew.trans h5).mono B3.size)
      clear h5 hS1 hr1 hr3
      go_wp2_with fail
      refine (okLines_any A1 k1 c1 _ (by omega)).mono ?_
      rintro e w6 ⟨rfl, b6⟩
      have B6 := B5.trans (b6.mono B5.size)
      clear b6
      go_wp2_with fail
      refine (endLine_any k1 _ (by omega)).mono ?_
      rintro e w7 ⟨rfl, b7⟩
      have B7 := B6.trans (b7.mono B6.size)
      clear b7
      have eE : (⟨(oksB k1).toArray⟩ ++ ⟨#[110, 111, 10]⟩ ++ ⟨(endB k1).toArray⟩ : ByteArray) = ⟨out.toArray⟩ := by rw [Hlaw.out, ← str_app, ← str_app]; rfl
      have el := endB_small k1 (by omega)
      have n1 : ¬ 9223372036854775807 < (oksB k1).length + 3 := by omega
      have n2 : ¬ 9223372036854775807 < (oksB k1).length + 3 + (endB k1).length := by omega
      have EE := Lib.hid eE; clear eE
      go_wp2_with fail
      go_ret
      exact ⟨by simp [EE.out], B7⟩
  · have hnb : (1048576 : Int) < (n : Int) := by omega
    go_enter Tryz.func6, Tryz.ntmps6
    go_wp2_with fail
    go_ret
    exact ⟨rfl, Below.refl _ _⟩
end Go.Proofs.YtipgpafgampfbaaGreatDoor
