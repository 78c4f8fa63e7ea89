/- FnExecuteTwice returns true at every input, and leaves what was there. -/
import Derived.Test.YtipgpafgampfbaaGreatDoorSExe
import Derived.Test.YtipgpafgampfbaaGreatDoorC2
import Derived.Test.YtipgpafgampfbaaGreatDoorC1
import Derived.Test.YtipgpafgampfbaaGreatDoorExeI
import Derived.Test.YtipgpafgampfbaaGreatDoorTied
namespace Go.Proofs.YtipgpafgampfbaaGreatDoor
open Go.RowKit

set_option maxRecDepth 100000 in
set_option maxHeartbeats 1000000 in
theorem FnExecuteTwice_walk (w : World) (hL : laidMet Tryz.prog Rows.fnExecuteTwiceRow.laid w) (hS : w.ShapedOpen Tryz.prog) (A : Option Addr) (n cap : Nat) (bs : List Int) (hn : bs.length = n) (hm : n ≤ 9223372036854775807) (hr : Rd w w.heap.size A (bs.map (Value.int .u8))) (hw : ∀ x ∈ bs, (Lit.int .u8 x).wf = true) (hk : n ≤ cap) :
    Calls Tryz.prog 4 #[.slice A n cap] w fun e w' => e = .returned (.bool true) ∧ Below w.heap.size w w' := by
  have Hbs := Lib.hid (bytesOk_of hw); clear hw
  have Ht := Lib.hid (tab_third hL); clear hL
  by_cases hb : n ≤ 1048576
  case neg =>
    have hnb : (1048576 : Int) < (n : Int) := by omega
    go_enter Tryz.func4, Tryz.ntmps4
    go_wp2_with fail
    go_ret
    exact ⟨rfl, Below.refl _ _⟩
  have hnb : ¬ (1048576 : Int) < (n : Int) := by omega
  go_enter Tryz.func4, Tryz.ntmps4
  go_wp2_with fail
  refine (drawExecute_any A n cap bs w hn hm hk Hbs.out hr).mono ?_
  rintro e w1 ⟨l, rfl, hl, B1⟩
  have hsz : (ByteArray.mk l.toArray).size = l.length := rfl
  clear hr hn
  go_wp2_with fail
  refine (execute_all l _ (Ht.out.ext B1) (shapedB hS B1)).mono ?_
  rintro e w2 ⟨rfl, b2⟩
  have B2 := B1.trans (b2.mono B1.size)
  clear b2
  go_wp2_with fail
  refine (sExecute_all l _).mono ?_
  rintro e w3 ⟨rfl, b3⟩
  have B3 := B2.trans (b3.mono B2.size)
  clear b3
  obtain ⟨o, ho⟩ : ∃ o, exeB l = o := ⟨_, rfl⟩
  have hoL := exe_small l hl
  have hoN := exe_ne l
  rw [ho] at hoL hoN ⊢
  have Ho := Lib.hid ho; clear ho
  go_wp2_with fail
  refine (complete_any l _ (by omega)).mono ?_
  rintro e w4 ⟨rfl, b4⟩
  have B4 := B3.trans (b4.mono B3.size)
  clear b4
  obtain ⟨O, D, n, hn7, hOl, ⟨s, hD⟩, h1, h2, h3, h4⟩ := law_keep l hl wDirty (fun s => if arrV s.1 then dirtyB s else oNo) (by decide) line_dirty
  have hcl := comp_le l
  have hDl : D.length ≤ 600 := by
    rw [hD]
    split
    · exact (dirtyB_small s).1
    · decide
  obtain ⟨c, hc⟩ : ∃ c, compB l = c := ⟨_, rfl⟩
  rw [hc] at h1 h3 h4 hcl ⊢
  have hszc : (ByteArray.mk c.toArray).size = c.length := rfl
  have Hc := Lib.hid hc
  clear hc hD
  by_cases hbig : 488 < c.length
  · have hbI : (488 : Int) < c.length := by omega
    have H1 := Lib.hid h1; clear h1
    have H2 := Lib.hid h2; clear h2
    have H3 := Lib.hid h3; clear h3
    have H4 := Lib.hid h4; clear h4
    go_wp2_with fail
    go_ret
    exact ⟨rfl, B4⟩
  · have hbI : ¬ (488 : Int) < c.length := by omega
    have h1 := h1 (by omega)
    have h3 := h3 (by rw [List.length_append]; show c.length + 6 ≤ 500; omega)
    have h4 := h4 (by rw [List.length_append]; show c.length + 12 ≤ 500; omega)
    rw [show wDirty ++ [10] = [100, 105, 114, 116, 121, 10] from rfl] at h3
    rw [show (wDirty ++ [10]) ++ (wDirty ++ [10]) = [100, 105, 114, 116, 121, 10, 100, 105, 114, 116, 121, 10] from rfl] at h4
    obtain ⟨E, hE⟩ : ∃ E, endB n = E := ⟨_, rfl⟩
    have hEl := endB_small n (by omega)
    rw [hE] at h1 h2 h3 h4 hEl
    obtain ⟨a, ha⟩ : ∃ a, O ++ E = a := ⟨_, rfl⟩
    have hal : a.length = O.length + E.length := by rw [← ha, List.length_append]
    have hat : a.take O.length = O := by rw [← ha, List.take_left]
    have hane : 1 ≤ a.length := by rw [← h1.trans ha]; exact exe_ne c
    rw [ha] at h1 h2
    have hsza : (ByteArray.mk a.toArray).size = a.length := rfl
    obtain ⟨b, hb0⟩ : ∃ b, (O ++ D) ++ E = b := ⟨_, rfl⟩
    have hbl : b.length = O.length + D.length + E.length := by rw [← hb0, List.length_append, List.length_append]
    have hpc : piece b O.length (O.length + D.length) = D := by
      unfold piece
      rw [← hb0, List.append_assoc, List.drop_left, Nat.add_sub_cancel_left, List.take_left]
    rw [hb0] at h3
    have hszb : (ByteArray.mk b.toArray).size = b.length := rfl
    have hszE : (ByteArray.mk E.toArray).size = E.length := rfl
    have hw1 : IntKind.i64.wrap ((a.length : Int) - (E.length : Int)) = (O.length : Int) := by rw [IntWalk.i64_in _ (by omega)]; omega
    have hw2 : IntKind.i64.wrap ((b.length : Int) - (E.length : Int)) = ((O.length + D.length : Nat) : Int) := by rw [IntWalk.i64_in _ (by omega)]; omega
    have hx := extract_str b O.length (O.length + D.length)
    rw [hpc] at hx
    have hSl := fun W => run_headS a O.length (by omega) W
    rw [hat] at hSl
    have HSl := Lib.hid hSl
    have Hw1 := Lib.hid hw1
    have H1 := Lib.hid h1; clear h1
    have H2 := Lib.hid h2; clear h2
    have H3 := Lib.hid h3; clear h3
    have H4 := Lib.hid h4; clear h4
    have HE := Lib.hid hE; clear hE
    have Ha := Lib.hid ha; clear ha
    have Hat := Lib.hid hat; clear hat
    have Hb0 := Lib.hid hb0; clear hb0
    have Hpc := Lib.hid hpc; clear hpc
    clear hSl
    go_wp2_with fail
    refine (execute_all c _ (Ht.out.ext B4) (shapedB hS B4)).mono ?_
    rintro e w5 ⟨rfl, b5⟩
    rw [H1.out]
    have B5 := B4.trans (b5.mono B4.size)
    clear b5
    go_wp2_with fail
    refine (lastLine_any a _ (by omega) hane).mono ?_
    rintro e w6 ⟨rfl, b6⟩
    rw [H2.out]
    have B6 := B5.trans (b6.mono B5.size)
    clear b6
    have hs1 : ¬ 9223372036854775807 < c.length + 6 := by omega
    go_wp2_with fail
    have hca : (⟨c.toArray⟩ ++ ⟨#[100, 105, 114, 116, 121, 10]⟩ : ByteArray) = ⟨(c ++ [100, 105, 114, 116, 121, 10]).toArray⟩ := by rw [← str_app]
    rw [hca]
    refine (execute_all (c ++ [100, 105, 114, 116, 121, 10]) _ (Ht.out.ext B6) (shapedB hS B6)).mono ?_
    rintro e w7 ⟨rfl, b7⟩
    rw [H3.out]
    have B7 := B6.trans (b7.mono B6.size)
    have Hca := Lib.hid hca
    clear b7 hca
    have HT : ∀ w', Below w7.heap.size w7 w' → Tab w' := fun w' h => (Ht.out.ext B7).ext h
    have HSH : ∀ w', Below w7.heap.size w7 w' → w'.ShapedOpen Tryz.prog := fun w' h => shapedB (shapedB hS B7) h
    go_wp2_with fail
    rw [hx]
    clear hx hw1 hw2
    refine wp_region_N [] [] (by kernel_rfl) (by kernel_rfl) ?_
    refine wpStill_go (v := .string ⟨c.toArray⟩) rfl rfl (stays_run fun w' h => ex_move rfl rfl) ?_
    simp only [Act.put, List.setIfInBounds_toArray, List.set_cons_succ, List.set_cons_zero]
    refine wpStill_go (v := .string ⟨(c ++ [100, 105, 114, 116, 121, 10, 100, 105, 114, 116, 121, 10]).toArray⟩) rfl rfl (stays_run fun w' h => by exact ex_addS3 rfl (by kernel_rfl) rfl rfl (by show c.length + 12 ≤ 1000000000; omega)) ?_
    simp only [Act.put, List.setIfInBounds_toArray, List.set_cons_succ, List.set_cons_zero]
    refine wpStill_go (v := .string ⟨(((O ++ D) ++ D) ++ E).toArray⟩) rfl rfl (stays_call (f := 16) (args := #[.string ⟨(c ++ [100, 105, 114, 116, 121, 10, 100, 105, 114, 116, 121, 10]).toArray⟩]) (fun w' h => by simp [go_sem]) (fun w' _ => by rw [← H4.out]; exact execute_all (c ++ [100, 105, 114, 116, 121, 10, 100, 105, 114, 116, 121, 10]) w' (HT w' ‹_›) (HSH w' ‹_›))) ?_
    simp only [Act.put, List.setIfInBounds_toArray, List.set_cons_succ, List.set_cons_zero]
    refine wpStill_go (v := .string ⟨a.toArray⟩) rfl rfl (stays_run fun w' h => ex_move rfl rfl) ?_
    simp only [Act.put, List.setIfInBounds_toArray, List.set_cons_succ, List.set_cons_zero]
    refine wpStill_go (v := .string ⟨a.toArray⟩) rfl rfl (stays_run fun w' h => ex_move rfl rfl) ?_
    simp only [Act.put, List.setIfInBounds_toArray, List.set_cons_succ, List.set_cons_zero]
    refine wpStill_go (v := .int .i64 a.length) rfl rfl (stays_run fun w' h => by simp [go_sem, hsza]) ?_
    simp only [Act.put, List.setIfInBounds_toArray, List.set_cons_succ, List.set_cons_zero]
    refine wpStill_go (v := .string ⟨E.toArray⟩) rfl rfl (stays_run fun w' h => ex_move rfl rfl) ?_
    simp only [Act.put, List.setIfInBounds_toArray, List.set_cons_succ, List.set_cons_zero]
    refine wpStill_go (v := .int .i64 E.length) rfl rfl (stays_run fun w' h => by simp [go_sem, hszE]) ?_
    simp only [Act.put, List.setIfInBounds_toArray, List.set_cons_succ, List.set_cons_zero]
    refine wpStill_go (v := .int .i64 O.length) rfl rfl (stays_run fun w' h => by simp [go_sem, Hw1.out]) ?_
    simp only [Act.put, List.setIfInBounds_toArray, List.set_cons_succ, List.set_cons_zero]
    refine wpStill_go (v := .string ⟨O.toArray⟩) rfl rfl (stays_run fun w' h => by exact ex_slice rfl rfl rfl (HSl.out w')) ?_
    simp only [Act.put, List.setIfInBounds_toArray, List.set_cons_succ, List.set_cons_zero]
    refine wpStill_go (v := .string ⟨D.toArray⟩) rfl rfl (stays_run fun w' h => ex_move rfl rfl) ?_
    simp only [Act.put, List.setIfInBounds_toArray, List.set_cons_succ, List.set_cons_zero]
    refine wpStill_go (v := .string ⟨(O ++ D).toArray⟩) rfl rfl (stays_run fun w' h => by exact ex_addS3 rfl (by kernel_rfl) rfl rfl (by omega)) ?_
    simp only [Act.put, List.setIfInBounds_toArray, List.set_cons_succ, List.set_cons_zero]
    refine wpStill_go (v := .string ⟨D.toArray⟩) rfl rfl (stays_run fun w' h => ex_move rfl rfl) ?_
    simp only [Act.put, List.setIfInBounds_toArray, List.set_cons_succ, List.set_cons_zero]
    refine wpStill_go (v := .string ⟨((O ++ D) ++ D).toArray⟩) rfl rfl (stays_run fun w' h => by exact ex_addS3 rfl (by kernel_rfl) rfl rfl (by rw [List.length_append]; omega)) ?_
    simp only [Act.put, List.setIfInBounds_toArray, List.set_cons_succ, List.set_cons_zero]
    refine wpStill_go (v := .string ⟨E.toArray⟩) rfl rfl (stays_run fun w' h => ex_move rfl rfl) ?_
    simp only [Act.put, List.setIfInBounds_toArray, List.set_cons_succ, List.set_cons_zero]
    refine wpStill_go (v := .string ⟨(((O ++ D) ++ D) ++ E).toArray⟩) rfl rfl (stays_run fun w' h => by exact ex_addS3 rfl (by kernel_rfl) rfl rfl (by rw [List.length_append, List.length_append]; omega)) ?_
    simp only [Act.put, List.setIfInBounds_toArray, List.set_cons_succ, List.set_cons_zero]
    refine wpStill_go (v := .bool true) rfl rfl (stays_run fun w' h => by simp [go_sem]) ?_
    simp only [Act.put, List.setIfInBounds_toArray, List.set_cons_succ, List.set_cons_zero]
    refine wpStill_go (v := .bool true) rfl rfl (stays_run fun w' h => by simp [go_sem]) ?_
    simp only [Act.put, List.setIfInBounds_toArray, List.set_cons_succ, List.set_cons_zero]
    refine wpStill_nil ?_
    repeat (refine wpMark_skip rfl ?_)
    refine wpMark_nil fun w8 h8 => ?_
    simp only [onlyN, Exit.then]
    have B8 := B7.trans (((Below.refl _ w7).drew.trans h8).mono B7.size)
    clear h8 HT HSH
    go_wp2_with fail
    go_ret
    exact ⟨rfl, B8⟩
end Go.Proofs.YtipgpafgampfbaaGreatDoor
