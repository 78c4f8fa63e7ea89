/- FnExecutePoint returns true at every input, and leaves what was there. -/
import Derived.Test.YtipgpafgampfbaaGreatDoorExeV
import Derived.Test.YtipgpafgampfbaaGreatDoorExeI
import Derived.Test.YtipgpafgampfbaaGreatDoorDrawP
import Derived.Test.YtipgpafgampfbaaGreatDoorPointI
import Derived.Test.YtipgpafgampfbaaGreatDoorRunU
import Derived.Test.YtipgpafgampfbaaGreatDoorTied
namespace Go.Proofs.YtipgpafgampfbaaGreatDoor
open Go.RowKit

set_option maxRecDepth 100000 in
set_option maxHeartbeats 1000000 in
theorem FnExecutePoint_walk (w : World) (hL : laidMet Tryz.prog Rows.fnExecutePointRow.laid w) (hS : w.ShapedOpen Tryz.prog) (A : Option Addr) (n cap : Nat) (bs : List Int) (hn : bs.length = n) (hm : n ≤ 9223372036854775807) (hr : Rd w w.heap.size A (bs.map (Value.int .u8))) (hw : ∀ x ∈ bs, (Lit.int .u8 x).wf = true) (hk : n ≤ cap) :
    Calls Tryz.prog 10 #[.slice A n cap] w fun e w' => e = .returned (.bool true) ∧ Below w.heap.size w w' := by
  have Hbs := Lib.hid (bytesOk_of hw); clear hw
  have Ht := Lib.hid (tab_third hL); clear hL
  by_cases hb : n ≤ 1048576
  · have hnb : ¬ (1048576 : Int) < (n : Int) := by omega
    go_enter Tryz.func10, Tryz.ntmps10
    go_wp2_with fail
    refine (drawVisPoint_any A n cap bs w hn hm hk Hbs.out hr).mono ?_
    rintro e w1 ⟨A1, k1, c1, xs, x, y, amp, rfl, hx, hk1, hkc, hx3, hy3, ha3, hr1, B1⟩
    have Hx := Lib.hid hx; clear hx
    clear hr hn
    go_wp2_with fail
    have rC := Row.new w1 50 [.int .i64 x, .int .i64 y]
    have e2 := bA1 (w := w1) (o := .cells #[.int .i64 x, .int .i64 y] 50)
    have B2 := B1.trans (e2.mono B1.size)
    have extX := (hr1.below e2).more e2.size; clear hr1; have hr1 := extX; clear extX
    clear e2
    obtain ⟨W, hW⟩ : ∃ W, w1.alloc (.cells #[.int .i64 x, .int .i64 y] 50) = W := ⟨_, rfl⟩
    obtain ⟨g, hg1⟩ : ∃ g, w1.heap.size = g := ⟨_, rfl⟩
    rw [hW] at hr1 rC B2 ⊢
    rw [hg1] at rC ⊢
    clear hW hg1
    cases hv : ptV xs (x, y) amp
    · have Hv := Lib.hid hv; clear hv
      refine (visPoint_no A1 k1 c1 xs x y amp _ Hx.out hkc (by omega) Hv.out hr1).mono ?_
      rintro e w3 ⟨rfl, b3⟩
      have B3 := B2.trans (b3.mono B2.size)
      have rC := rC.kept b3
      have extX := (hr1.below b3).more b3.size; clear hr1; have hr1 := extX; clear extX
      clear b3
      obtain ⟨d0, d1, _, _⟩ := rC.two
      have hgl := rC.lt
      go_wp2_with fail
      refine (sVisPoint_no A1 k1 c1 xs (x, y) amp _ Hx.out (by omega) Hv.out hr1).mono ?_
      rintro e w4 ⟨v, rfl, o4, b4⟩
      obtain ⟨D, d, rfl⟩ := own_form o4
      have B4 := B3.trans (b4.mono B3.size)
      clear b4 o4
      go_wp2_with fail
      refine (sameVis_any none D 0 0 0 d [] [] _ rfl rfl (by omega) (Rd.nil _ _ _) (Rd.nil _ _ _)).mono ?_
      rintro e w5 ⟨rfl, b5⟩
      rw [decide_eq_true rfl]
      have B5 := B4.trans (b5.mono B4.size)
      clear b5
      go_wp2_with fail
      refine (sameVis_any none D 0 0 0 d [] [] _ rfl rfl (by omega) (Rd.nil _ _ _) (Rd.nil _ _ _)).mono ?_
      rintro e w6 ⟨rfl, b6⟩
      rw [decide_eq_true rfl]
      have B6 := B5.trans (b6.mono B5.size)
      clear b6
      go_wp2_with fail
      go_ret
      exact ⟨rfl, B6⟩
    · have hva : arrV xs = true := by unfold ptV at hv; rw [Bool.and_eq_true] at hv; exact hv.1
      have hl := arrV_len hva
      have hgx : gLe 1000000 xs := fun x h => by have := arrV_gLe hva x h; omega
      have hlaw := law_point hv hx3 hy3
      have hxl := Hx.out
      rw [hxl] at hlaw hl
      have hsm := antsB_small hgx
      rw [hxl] at hsm
      obtain ⟨t1, ht1⟩ : ∃ t1, antsB xs = t1 := ⟨_, rfl⟩
      rw [ht1] at hlaw hsm
      have hb7 := bm_pairs k1 (by omega) (by omega)
      have hbm := bm_le (k1 : Int)
      have hPl : (ptL xs (x, y) amp (pairsN k1)).length = (pairsN k1).length := ptL_len _ _ _ _
      have hps : ∀ p ∈ (ptL xs (x, y) amp (pairsN k1)).map (·.2), 0 ≤ p ∧ p ≤ 1000 := fun p hp => by
        obtain ⟨q, hq, rfl⟩ := List.mem_map.1 hp
        obtain ⟨r, _, rfl⟩ := List.mem_map.1 hq
        dsimp only; omega
      obtain ⟨m, hm7⟩ : ∃ m, (pairsN k1).length = m := ⟨_, rfl⟩
      rw [hm7] at hlaw hPl hb7
      have h1 := fun W h => visPoint_yes A1 k1 c1 xs x y amp W Hx.out hkc hv h
      have h2 := fun W h => sVisPoint_yes A1 k1 c1 xs (x, y) amp W Hx.out hkc hv h
      rw [hm7] at h1 h2
      obtain ⟨Q, hQ⟩ : ∃ Q, ptL xs (x, y) amp (pairsN k1) = Q := ⟨_, rfl⟩
      rw [hQ] at hlaw hPl hps h1 h2
      obtain ⟨ps, hpp⟩ : ∃ ps, Q.map (·.2) = ps := ⟨_, rfl⟩
      rw [hpp] at hlaw hps
      have hpl : ps.length = m := by rw [← hpp, List.length_map, hPl]
      have hlen := phS_len hps
      rw [hpl] at hlen
      obtain ⟨out, ho⟩ : ∃ out, exeB (t1 ++ (pointLn x y ++ [10])) = out := ⟨_, rfl⟩
      rw [ho] at hlaw
      have ol := oksB_len k1
      have el := endB_small k1 (by omega)
      have hm20 : m ≤ 21 := by omega
      have Hlaw := Lib.hid hlaw; clear hlaw
      have Hv := Lib.hid hv; clear hv
      have Ht1 := Lib.hid ht1; clear ht1
      have Ho := Lib.hid ho; clear ho
      have HPl := Lib.hid hPl; clear hPl
      have Hpp := Lib.hid hpp; clear hpp
      have Hpl := Lib.hid hpl; clear hpl
      have H1 := Lib.hid h1; clear h1
      have H2 := Lib.hid h2; clear h2
      have Hlen := Lib.hid hlen; clear hlen
      have Hps := Lib.hid hps; clear hps
      clear hxl hb7 hbm hva hm7 hQ
      refine (H1.out _ hr1).mono ?_
      rintro e w3 ⟨v, rfl, o3, b3⟩
      obtain ⟨V1, vc1, rfl⟩ := own_form o3
      have rV := Rd.of_own o3
      have B3 := B2.trans (b3.mono B2.size)
      have rC := rC.kept b3
      have extX := (hr1.below b3).more b3.size; clear hr1; have hr1 := extX; clear extX
      clear b3 o3
      obtain ⟨d0, d1, _, _⟩ := rC.two
      have hgl := rC.lt
      go_wp2_with fail
      refine (H2.out _ hr1).mono ?_
      rintro e w4 ⟨v, rfl, o4, b4⟩
      obtain ⟨V2, vc2, rfl⟩ := own_form o4
      have rV2 := Rd.of_own o4
      have B4 := B3.trans (b4.mono B3.size)
      have rC := rC.kept b4
      have extX := (hr1.below b4).more b4.size; clear hr1; have hr1 := extX; clear extX
      have extX := (rV.below b4).more b4.size; clear rV; have rV := extX; clear extX
      clear b4 o4 d0 d1 hgl
      go_wp2_with fail
      refine (sameVis_any V1 V2 m m vc1 vc2 Q Q _ HPl.out HPl.out (by omega) rV rV2).mono ?_
      rintro e w5 ⟨rfl, b5⟩
      rw [decide_eq_true rfl]
      have B5 := B4.trans (b5.mono B4.size)
      have rC := rC.kept b5
      have extX := (hr1.below b5).more b5.size; clear hr1; have hr1 := extX; clear extX
      have extX := (rV.below b5).more b5.size; clear rV; have rV := extX; clear extX
      clear b5 rV2
      go_wp2_with fail
      go_loopw [10, 11] (fun v i wr => ∃ k : Nat, k ≤ m ∧ i = .int .i64 k ∧ v = .string ⟨(phS ps k).toArray⟩ ∧ Below w5.heap.size w5 wr) (fun _ i _ => m - (intOf i).toNat)
      case atStart => exact ⟨0, by omega, rfl, by rw [phS_zero], Below.refl _ _⟩
      case round =>
        obtain ⟨k, hkm, rfl, rfl, hbel⟩ := hrel
        have rV' := rV.ext hbel
        by_cases hlt : k < m
        · obtain ⟨a, ha⟩ : ∃ a, Q[k]? = some a := ⟨_, List.getElem?_eq_getElem (by rw [HPl.out]; exact hlt)⟩
          obtain ⟨b, off, rfl, hb2, hc1, hc2⟩ := rd_pair rV' ha
          have hp : ps[k]? = some a.2 := by rw [← Hpp.out, List.getElem?_map, ha]; rfl
          have hpb := Hps.out _ (List.mem_of_getElem? hp)
          have hs := phS_succ ps k hp
          have hln := Hlen.out k (by omega)
          have i1 := itoa_small (n := a.2) (by omega)
          obtain ⟨q, hq⟩ : ∃ q, a.2 = q := ⟨_, rfl⟩
          rw [hq] at hc2 hs hpb i1
          obtain ⟨o, hoo⟩ : ∃ o, phS ps k = o := ⟨_, rfl⟩
          rw [hoo] at hs hln ⊢
          have n1 : ¬ 9223372036854775807 < o.length + 1 := by omega
          have n2 : ¬ 9223372036854775807 < o.length + 1 + (Lib.itoa q).length := by omega
          have eS : (⟨o.toArray⟩ ++ ⟨#[32]⟩ ++ ⟨(Lib.itoa q).toArray⟩ : ByteArray) = ⟨(phS ps (k + 1)).toArray⟩ := by rw [hs, ← str_app, ← str_app]
          have Hs := Lib.hid hs; clear hs
          have Ha := Lib.hid ha; clear ha
          have Hp := Lib.hid hp; clear hp
          have Hoo := Lib.hid hoo; clear hoo
          have ES := Lib.hid eS; clear eS
          have Hq := Lib.hid hq; clear hq
          go_wp2_with fail
          refine (digits_any q (by omega) _).mono ?_
          rintro e w6 ⟨rfl, b6⟩
          have B6 := hbel.trans (b6.mono hbel.size)
          clear b6
          go_wp2_with fail
          rw [ES.out]
          go_roundw
          case measure => simp [intOf]; omega
          case rel => exact ⟨k + 1, by omega, by go_num, rfl, B6⟩
        · obtain rfl : k = m := by omega
          have B6 := B5.trans (hbel.mono B5.size)
          have rC := rC.kept hbel
          have extX := (hr1.below hbel).more hbel.size; clear hr1; have hr1 := extX; clear extX
          have hln := Hlen.out k (Nat.le_refl _)
          obtain ⟨o, hoo⟩ : ∃ o, phS ps k = o := ⟨_, rfl⟩
          have hlw := Hlaw.out
          rw [hoo] at hln hlw ⊢
          have l1 := itoa_small (n := x) (by omega)
          have l2 := itoa_small (n := y) (by omega)
          have Hlw := Lib.hid hlw; clear hlw
          have Hoo := Lib.hid hoo; clear hoo
          clear rV rV' hbel
          go_wp2_with fail
          refine wp_region_N [] [] (by kernel_rfl) (by kernel_rfl) ?_
          refine wpStill_go (v := .slice A1 k1 c1) rfl rfl (stays_run fun w' h => ex_move rfl rfl) ?_
          simp only [Act.put, List.setIfInBounds_toArray, List.set_cons_succ, List.set_cons_zero]
          refine wpStill_go (v := .string ⟨t1.toArray⟩) rfl rfl (stays_call (f := 23) (args := #[.slice A1 k1 c1]) (fun w' h => by simp [go_sem]) (fun w' _ => by rw [← Ht1.out]; exact antLines_any A1 k1 c1 xs w' Hx.out (by omega) hgx (hr1.ext ‹_›))) ?_
          simp only [Act.put, List.setIfInBounds_toArray, List.set_cons_succ, List.set_cons_zero]
          refine wpStill_go (v := .string ⟨(t1 ++ [112, 111, 105, 110, 116, 32]).toArray⟩) rfl rfl (stays_run fun w' h => by exact ex_addS rfl (by kernel_rfl) rfl rfl (by simp; omega)) ?_
          simp only [Act.put, List.setIfInBounds_toArray, List.set_cons_succ, List.set_cons_zero]
          refine wpStill_go (v := .pointer (some ⟨g, 0, none⟩)) rfl rfl (stays_run fun w' h => by simp [go_sem]) ?_
          simp only [Act.put, List.setIfInBounds_toArray, List.set_cons_succ, List.set_cons_zero]
          refine wpStill_go (v := .int .i64 x) rfl rfl (stays_run fun w' h => ex_load rfl rfl (ld_one (by kernel_rfl) ((rC.kept ‹_›).cell 0))) ?_
          simp only [Act.put, List.setIfInBounds_toArray, List.set_cons_succ, List.set_cons_zero]
          refine wpStill_go (v := .string ⟨(Lib.itoa x).toArray⟩) rfl rfl (stays_call (f := 37) (args := #[.int .i64 x]) (fun w' h => by simp [go_sem]) (fun w' _ => digits_any x (by omega) w')) ?_
          simp only [Act.put, List.setIfInBounds_toArray, List.set_cons_succ, List.set_cons_zero]
          refine wpStill_go (v := .string ⟨((t1 ++ [112, 111, 105, 110, 116, 32]) ++ Lib.itoa x).toArray⟩) rfl rfl (stays_run fun w' h => by exact ex_addS rfl (by kernel_rfl) rfl rfl (by simp; omega)) ?_
          simp only [Act.put, List.setIfInBounds_toArray, List.set_cons_succ, List.set_cons_zero]
          refine wpStill_go (v := .string ⟨(((t1 ++ [112, 111, 105, 110, 116, 32]) ++ Lib.itoa x) ++ [32]).toArray⟩) rfl rfl (stays_run fun w' h => by exact ex_addS rfl (by kernel_rfl) rfl rfl (by simp; omega)) ?_
          simp only [Act.put, List.setIfInBounds_toArray, List.set_cons_succ, List.set_cons_zero]
          refine wpStill_go (v := .pointer (some ⟨g, 1, none⟩)) rfl rfl (stays_run fun w' h => by simp [go_sem]) ?_
          simp only [Act.put, List.setIfInBounds_toArray, List.set_cons_succ, List.set_cons_zero]
          refine wpStill_go (v := .int .i64 y) rfl rfl (stays_run fun w' h => ex_load rfl rfl (ld_one (by kernel_rfl) ((rC.kept ‹_›).cell 1))) ?_
          simp only [Act.put, List.setIfInBounds_toArray, List.set_cons_succ, List.set_cons_zero]
          refine wpStill_go (v := .string ⟨(Lib.itoa y).toArray⟩) rfl rfl (stays_call (f := 37) (args := #[.int .i64 y]) (fun w' h => by simp [go_sem]) (fun w' _ => digits_any y (by omega) w')) ?_
          simp only [Act.put, List.setIfInBounds_toArray, List.set_cons_succ, List.set_cons_zero]
          refine wpStill_go (v := .string ⟨((((t1 ++ [112, 111, 105, 110, 116, 32]) ++ Lib.itoa x) ++ [32]) ++ Lib.itoa y).toArray⟩) rfl rfl (stays_run fun w' h => by exact ex_addS rfl (by kernel_rfl) rfl rfl (by simp; omega)) ?_
          simp only [Act.put, List.setIfInBounds_toArray, List.set_cons_succ, List.set_cons_zero]
          refine wpStill_go (v := .string ⟨(((((t1 ++ [112, 111, 105, 110, 116, 32]) ++ Lib.itoa x) ++ [32]) ++ Lib.itoa y) ++ [10]).toArray⟩) rfl rfl (stays_run fun w' h => by exact ex_addS rfl (by kernel_rfl) rfl rfl (by simp; omega)) ?_
          simp only [Act.put, List.setIfInBounds_toArray, List.set_cons_succ, List.set_cons_zero]
          refine wpStill_go (v := .string ⟨out.toArray⟩) rfl rfl (stays_call (f := 16) (args := #[.string ⟨(((((t1 ++ [112, 111, 105, 110, 116, 32]) ++ Lib.itoa x) ++ [32]) ++ Lib.itoa y) ++ [10]).toArray⟩]) (fun w' h => by simp [go_sem]) (fun w' _ => by rw [← Ho.out, show t1 ++ (pointLn x y ++ [10]) = ((((t1 ++ [112, 111, 105, 110, 116, 32]) ++ Lib.itoa x) ++ [32]) ++ Lib.itoa y) ++ [10] by unfold pointLn; simp [wPoint]]; exact execute_all _ w' ((Ht.out.ext B6).ext ‹_›) (shapedB (shapedB hS B6) ‹_›))) ?_
          simp only [Act.put, List.setIfInBounds_toArray, List.set_cons_succ, List.set_cons_zero]
          refine wpStill_go (v := .string ⟨out.toArray⟩) rfl rfl (stays_run fun w' h => by simp [go_sem]) ?_
          simp only [Act.put, List.setIfInBounds_toArray, List.set_cons_succ, List.set_cons_zero]
          refine wpStill_nil ?_
          repeat (refine wpMark_skip rfl ?_)
          refine wpMark_nil fun w7 h7 => ?_
          simp only [onlyN, Exit.then]
          have B7 := B6.trans (((Below.refl _ _).drew.trans h7).mono B6.size)
          clear h7 rC hr1
          go_wp2_with fail
          refine (okLines_any A1 k1 c1 _ (by omega)).mono ?_
          rintro e w8 ⟨rfl, b8⟩
          have B8 := B7.trans (b8.mono B7.size)
          clear b8
          have n1 : ¬ 9223372036854775807 < (oksB k1).length + o.length := by omega
          have n2 : ¬ 9223372036854775807 < (oksB k1).length + o.length + 1 := by omega
          have n3 : ¬ 9223372036854775807 < (oksB k1).length + o.length + 1 + (endB k1).length := by omega
          go_wp2_with fail
          refine (endLine_any k1 _ (by omega)).mono ?_
          rintro e w9 ⟨rfl, b9⟩
          have B9 := B8.trans (b9.mono B8.size)
          clear b9
          have eE : (⟨(oksB k1).toArray⟩ ++ ⟨o.toArray⟩ ++ ⟨#[10]⟩ ++ ⟨(endB k1).toArray⟩ : ByteArray) = ⟨out.toArray⟩ := by rw [show out = oksB k1 ++ o ++ [10] ++ endB k1 by rw [Hlw.out]; simp, ← str_app, ← str_app, ← str_app]
          have EE := Lib.hid eE; clear eE
          go_wp2_with fail
          go_ret
          exact ⟨by simp [EE.out], B9⟩
  · have hnb : (1048576 : Int) < (n : Int) := by omega
    go_enter Tryz.func10, Tryz.ntmps10
    go_wp2_with fail
    go_ret
    exact ⟨rfl, Below.refl _ _⟩
end Go.Proofs.YtipgpafgampfbaaGreatDoor
