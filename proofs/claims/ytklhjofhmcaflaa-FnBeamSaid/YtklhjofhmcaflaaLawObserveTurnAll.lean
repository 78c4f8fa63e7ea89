/- FnObserveTurnAll returns true at every input, and leaves what was there. -/
import Derived.Test.YtklhjofhmcaflaaTurnP
namespace Go.Proofs.Ytklhjofhmcaflaa
open Go.RowKit

theorem bytesOk_of {bs : List Int} (h : ∀ x ∈ bs, (Lit.int .u8 x).wf = true) : BytesOk bs := fun x hx => by
  have := h x hx
  simp [Lit.wf, IntKind.min, IntKind.max, IntKind.bits, IntKind.signed] at this
  omega

set_option maxRecDepth 100000 in
set_option maxHeartbeats 4000000 in
theorem FnObserveTurnAll_walk (w : World) (A : Option Addr) (n cap : Nat) (bs : List Int) (hn : bs.length = n) (hm : n ≤ 9223372036854775807) (hr : Rd w w.heap.size A (bs.map (Value.int .u8))) (hw : ∀ x ∈ bs, (Lit.int .u8 x).wf = true) (hk : n ≤ cap) :
    Calls Try.prog 6 #[.slice A n cap] w fun e w' => e = .returned (.bool true) ∧ Below w.heap.size w w' := by
  obtain ⟨i0, hi, hz0, hz1, hz2⟩ := info_parts intInfo
  have Hbs := Lib.hid (bytesOk_of hw); clear hw
  by_cases hb : n ≤ 1048576
  · have hnb : ¬ (1048576 : Int) < (n : Int) := by omega
    go_enter Try.func6, Try.ntmps6
    go_wp2_with fail
    refine (drawObserveTurn_any A n cap bs w hn hm hk Hbs.out hr).mono ?_
    rintro e w1 ⟨N, A1, k1, c1, gs, A2, k2, c2, q, rfl, hN2, hN6, hgs, hk1, hr1, hq, hk2, hr2, B1⟩
    have Hgs := Lib.hid hgs; clear hgs
    have Hq := Lib.hid hq; clear hq
    clear hr hn
    go_wp2_with fail
    refine (observeTurn_any N A1 A2 k1 c1 k2 c2 gs q _ Hgs.out Hq.out (by omega) (by omega) hr1 hr2).mono ?_
    rintro e w2 ⟨v6, rfl, o6, b2⟩
    have B2 := B1.trans (b2.mono B1.size)
    have hr1 := (hr1.below b2).more b2.size
    have hr2 := (hr2.below b2).more b2.size
    obtain ⟨A6, c6, rfl⟩ := own_form o6
    have hL := turnR_len N gs q
    obtain ⟨L, hLe⟩ : ∃ L, (turnR N gs q).length = L := ⟨_, rfl⟩
    obtain ⟨S, hS⟩ : ∃ S, turnR N gs q = S := ⟨_, rfl⟩
    obtain ⟨ok, hok⟩ : ∃ ok, turnOK N gs q = ok := ⟨_, rfl⟩
    have hLS : S.length = L := by rw [← hS]; exact hLe
    rw [hLe] at hL
    rw [hLe, hS] at o6
    have O6 := Lib.hid o6; clear o6 b2
    rw [hLe, hok]
    go_wp2_with fail
    refine (sObserveTurn_any N A1 A2 k1 c1 k2 c2 gs q _ Hgs.out Hq.out (by omega) (by omega) hr1 hr2).mono ?_
    rintro e w3 ⟨v8, rfl, o8, b3⟩
    have B3 := B2.trans (b3.mono B2.size)
    have hr1 := (hr1.below b3).more b3.size
    have hr2 := (hr2.below b3).more b3.size
    have O6 := Lib.hid (own_ext O6.out b3)
    obtain ⟨A8, c8, rfl⟩ := own_form o8
    rw [hLe, hS] at o8
    have O8 := Lib.hid o8; clear o8 b3
    have HLS := Lib.hid hLS; clear hLS
    have HLe := Lib.hid hLe
    have HS := Lib.hid hS
    have Hok := Lib.hid hok
    have hne : (ok != ok) = false := by simp
    rw [hLe, hok]
    clear hLe hS hok
    go_wp2_with fail
    refine (sameGrid_any A6 A8 L L c6 c8 S S _ HLS.out HLS.out (by omega) (Rd.of_own O6.out) (Rd.of_own O8.out)).mono ?_
    rintro e w4 ⟨rfl, b4⟩
    have B4 := B3.trans (b4.mono B3.size)
    have hr1 := (hr1.below b4).more b4.size
    have hr2 := (hr2.below b4).more b4.size
    have O6 := Lib.hid (own_ext O6.out b4)
    have O8 := Lib.hid (own_ext O8.out b4)
    clear b4
    rw [decide_eq_true (rfl : S = S)]
    cases ok
    · go_wp2_with fail
      refine (sameGrid_any A6 A8 L L c6 c8 S S _ HLS.out HLS.out (by omega) (Rd.of_own O6.out) (Rd.of_own O8.out)).mono ?_
      rintro e w5 ⟨rfl, b5⟩
      rw [decide_eq_true (rfl : S = S)]
      go_wp2_with fail
      go_ret
      exact ⟨rfl, B4.trans (b5.mono B4.size)⟩
    · obtain ⟨hobs, hqN, hq3⟩ := turnOK_of Hok.out
      obtain rfl : k2 = N := by rw [← hqN]; exact Hq.out.symm
      have Hq3 := Lib.hid hq3; clear hq3 hqN
      have Hobs := Lib.hid hobs; clear hobs
      go_wp2_with fail
      go_loopw [10, 11] (fun v i wr => ∃ k : Nat, k ≤ k2 ∧ i = .int .i64 k ∧ wr.ownsRow w4.heap.size 3 1 v k (((q.take k).map fun x => (x + 1) % 4).map (Value.int .i64)) ∧ Below w4.heap.size w4 wr) (fun _ i _ => k2 - (intOf i).toNat)
      case atStart =>
        refine ⟨0, by omega, rfl, ?_, (Below.refl _ _).alloc (Nat.le_refl _) _⟩
        exact (Row.new w4 3 []).own (Nat.le_refl _) rfl (by decide)
      case round =>
        obtain ⟨k, hkk, rfl, hrow, hbel⟩ := hrel
        by_cases hlt : k < k2
        · obtain ⟨x, hx⟩ : ∃ x, q[k]? = some x := ⟨_, List.getElem?_eq_getElem (by rw [Hq.out]; exact hlt)⟩
          obtain ⟨b, off, rfl, hbb, hc⟩ := (hr2.below hbel) k (.int .i64 x) (by rw [List.getElem?_map, hx]; rfl)
          have hx3 := Hq3.out x (List.mem_of_getElem? hx)
          have Hx := Lib.hid hx; clear hx
          have Hrow := Lib.hid hrow; clear hrow
          have hbs := hbel.size
          have Hbel := Lib.hid hbel; clear hbel
          have hn := Row.new wr 3 [.int .i64 ((x + 1) % 4)]
          go_wp2_with (at_builtin; refine wpList_append_own _ rfl _ _ 41 rfl w4.heap.size 3 i0 (.int .i64 0) 1 8 (by kernel_rfl) hi hz0 hz1 hz2 rfl (by decide) _ k _ rfl (Hrow.out.alloc _) ⟨wr.heap.size, 0, none⟩ 1 1 [.int .i64 ((x + 1) % 4)] rfl rfl (fun j u hj => by rw [← hj, ← hn.cell j]; exact congrArg _ (addr_add _ _)) (by simp [Value.oneCell']) (by unfold maxLen; omega) (by omega) (by simp; omega) ?_; intro v' w7 hown' hgrow _; obtain ⟨g', cap', rfl⟩ := ownsRow_succ hown')
          have Hb7 := Lib.hid ((Hbel.out.alloc hbs _).grown hgrow (by simp; omega) fun j hj => (own_lt Hrow.out hj).1)
          have Hown := Lib.hid hown'
          clear hown' hgrow hn
          go_wp2_with fail
          go_roundw
          case measure => simp [intOf]; omega
          case rel =>
            refine ⟨k + 1, by omega, by go_num, ?_, Hb7.out⟩
            rw [List.take_add_one, Hx.out, List.map_append, List.map_append]
            exact Hown.out
        · obtain rfl : k = k2 := by omega
          rw [List.take_of_length_le (by rw [Hq.out]; exact Nat.le_refl _)] at hrow
          obtain ⟨A10, c10, rfl⟩ := own_form hrow
          obtain ⟨q', hq'⟩ : ∃ q', q.map (fun x => (x + 1) % 4) = q' := ⟨_, rfl⟩
          have hT := turn_shift Hok.out 1 q' (by rw [← hq', List.length_map]; exact Hq.out) (by
            intro y hy; rw [← hq'] at hy; obtain ⟨z, _, rfl⟩ := List.mem_map.1 hy; omega) (by
            intro i hik
            obtain ⟨z, hz⟩ : ∃ z, q[i]? = some z := ⟨_, List.getElem?_eq_getElem (by rw [Hq.out]; exact hik)⟩
            rw [← hq', List.getD_eq_getElem?_getD, List.getD_eq_getElem?_getD, List.getElem?_map, hz]
            simp only [Option.map_some, Option.getD_some]; omega)
          rw [hq'] at hrow
          have hl' : q'.length = k := by rw [← hq', List.length_map]; exact Hq.out
          have HT := Lib.hid hT; clear hT hq'
          have Hl' := Lib.hid hl'; clear hl'
          have Hrow := Lib.hid hrow; clear hrow
          have O6 := Lib.hid (own_ext O6.out hbel)
          have B5 := B4.trans (hbel.mono B4.size)
          have hr1 := (hr1.below hbel).more hbel.size
          clear hbel
          go_wp2_with fail
          refine (observeTurn_any k A1 A10 k1 c1 k c10 gs q' _ Hgs.out Hl'.out (by omega) (by omega) hr1 (Rd.of_own Hrow.out)).mono ?_
          rintro e w9 ⟨v12, rfl, o12, b9⟩
          have B9 := B5.trans (b9.mono B5.size)
          have O6 := Lib.hid (own_ext O6.out b9)
          obtain ⟨A12, c12, rfl⟩ := own_form o12
          rw [HT.out.2, HLe.out, HS.out] at o12
          have O12 := Lib.hid o12; clear o12 b9
          rw [HT.out.1, HT.out.2, HLe.out]
          go_wp2_with fail
          refine (sameGrid_any A12 A6 L L c12 c6 S S _ HLS.out HLS.out (by omega) (Rd.of_own O12.out) (Rd.of_own O6.out)).mono ?_
          rintro e w10 ⟨rfl, b10⟩
          rw [decide_eq_true (rfl : S = S)]
          go_wp2_with fail
          go_ret
          exact ⟨rfl, B9.trans (b10.mono B9.size)⟩
  · have hnb : (1048576 : Int) < (n : Int) := by omega
    go_enter Try.func6, Try.ntmps6
    go_wp2_with fail
    go_ret
    exact ⟨rfl, Below.refl _ _⟩
end Go.Proofs.Ytklhjofhmcaflaa
