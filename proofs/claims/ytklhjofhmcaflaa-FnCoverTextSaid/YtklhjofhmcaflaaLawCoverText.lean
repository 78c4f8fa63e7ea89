/- FnCoverText returns true at every input, and leaves what was there. -/
import Derived.Test.YtklhjofhmcaflaaDrawC
import Derived.Test.YtklhjofhmcaflaaCovB
import Derived.Test.YtklhjofhmcaflaaLawObserveTurnAll
import Derived.Test.YtklhjofhmcaflaaTripleI
namespace Go.Proofs.Ytklhjofhmcaflaa
open Go.RowKit

theorem drawCoverText_any (A : Option Addr) (n cap : Nat) (bs : List Int) (w : World) (hn : bs.length = n) (hm : n ≤ 9223372036854775807) (hc : n ≤ cap) (hb : BytesOk bs) (hr : Rd w w.heap.size A (bs.map (Value.int .u8))) :
    Calls Try.prog 19 #[.slice A n cap] w fun e w' =>
      ∃ (A : Option Addr) (k c : Nat) (cs : List Bool), e = .returned (.slice A k c) ∧ cs.length = k ∧ k ≤ 16 ∧ Rd w' w'.heap.size A (cs.map Value.bool) ∧ Below w.heap.size w w' := by
  go_enter Try.func19, Try.ntmps19
  go_wp2_with fail
  refine (l6Open_any A n cap bs w hn hm hc hr).mono ?_
  rintro e w1 ⟨rfl, hR, hb1⟩
  have hrd := isRd_open hn hb hr hR hb1
  clear hR
  go_wp2_with fail
  refine (l92Cover_any _ 0 _ (by omega) hrd).mono ?_
  rintro e w2 ⟨A2, k, c, cs, p', rfl, hcs, hk, hr2, hp, hrd2, g2⟩
  have B2 : Below w.heap.size w w2 := hb1.grown g2 hb1.size fun j e => by cases e; exact Nat.le_refl _
  go_wp2_with fail
  go_ret
  exact ⟨A2, k, c, cs, rfl, hcs, hk, hr2, B2⟩

/-- The sign of a cell in the text. -/
theorem covBytes_at (c : List Bool) (k : Nat) (hk : k < 16) : (covBytes c 16)[k / 4 * 5 + k % 4]? = some (if c.getD k false then 35 else 46) := by
  have hkk : k = 0 ∨ k = 1 ∨ k = 2 ∨ k = 3 ∨ k = 4 ∨ k = 5 ∨ k = 6 ∨ k = 7 ∨ k = 8 ∨ k = 9 ∨ k = 10 ∨ k = 11 ∨ k = 12 ∨ k = 13 ∨ k = 14 ∨ k = 15 := by omega
  rcases hkk with rfl | rfl | rfl | rfl | rfl | rfl | rfl | rfl | rfl | rfl | rfl | rfl | rfl | rfl | rfl | rfl <;> rfl
theorem covBytes_20 (c : List Bool) : (covBytes c 16).length = 20 := rfl

set_option maxRecDepth 100000 in
set_option maxHeartbeats 4000000 in
theorem FnCoverText_walk (w : World) (A : Option Addr) (n cap : Nat) (bs : List Int) (hn : bs.length = n) (hm : n ≤ 9223372036854775807) (hr : Rd w w.heap.size A (bs.map (Value.int .u8))) (hw : ∀ x ∈ bs, (Lit.int .u8 x).wf = true) (hk : n ≤ cap) :
    Calls Try.prog 4 #[.slice A n cap] w fun e w' => e = .returned (.bool true) ∧ Below w.heap.size w w' := by
  have Hbs := Lib.hid (bytesOk_of hw); clear hw
  by_cases hb : n ≤ 1048576
  · have hnb : ¬ (1048576 : Int) < (n : Int) := by omega
    go_enter Try.func4, Try.ntmps4
    go_wp2_with fail
    refine (drawCoverText_any A n cap bs w hn hm hk Hbs.out hr).mono ?_
    rintro e w1 ⟨A1, k1, c1, cs, rfl, hcs, hk1, hr1, B1⟩
    have Hcs := Lib.hid hcs; clear hcs
    clear hr hn
    go_wp2_with fail
    refine (coverText_any A1 k1 c1 cs _ Hcs.out hr1).mono ?_
    rintro e w2 ⟨rfl, b2⟩
    have B2 := B1.trans (b2.mono B1.size)
    have extX := (hr1.below b2).more b2.size; clear hr1; have hr1 := extX; clear extX
    clear b2
    go_wp2_with fail
    refine (sCoverText_any A1 k1 c1 cs _ Hcs.out hr1).mono ?_
    rintro e w3 ⟨rfl, b3⟩
    have B3 := B2.trans (b3.mono B2.size)
    have extX := (hr1.below b3).more b3.size; clear hr1; have hr1 := extX; clear extX
    clear b3
    cases hv : covV cs
    · have hT : covText cs = [] := by unfold covText; rw [hv]; rfl
      rw [hT]
      clear hT hv
      go_wp2_with fail
      go_ret
      exact ⟨rfl, B3⟩
    · have hT : covText cs = covBytes cs 16 := by unfold covText; rw [hv]; rfl
      have hl := covV_len hv
      obtain rfl : k1 = 16 := by rw [← Hcs.out]; exact hl
      obtain ⟨s, hs⟩ : ∃ s : ByteArray, (⟨(covText cs).toArray⟩ : ByteArray) = s := ⟨_, rfl⟩
      have hsz : s.size = 20 := by rw [← hs, hT]; rfl
      have hget : ∀ k (_ : k < 16) (h : k / 4 * 5 + k % 4 < s.size), (s[k / 4 * 5 + k % 4].toNat : Int) = if cs.getD k false then 35 else 46 := fun k hk h => by
        have e := covBytes_at cs k hk
        have e2 : (covBytes cs 16)[k / 4 * 5 + k % 4]? = some s[k / 4 * 5 + k % 4] := by
          subst hs
          rw [← hT]
          simp only [ByteArray.getElem_eq_getElem_data, List.getElem_toArray]
          exact List.getElem?_eq_getElem _
        rw [e] at e2
        injection e2 with e2
        rw [← e2]
        split <;> rfl
      have hne : s.toList.isEmpty = false := by
        subst hs
        rw [ByteArray.toList_eq, hT]; rfl
      rw [hs]
      have hsz1 : (s.size : Int) = 20 := by omega
      have Hs := Lib.hid hs; clear hs
      have HT := Lib.hid hT; clear hT
      have Hl := Lib.hid hl; clear hl
      have Hv := Lib.hid hv; clear hv
      have Hget := Lib.hid hget; clear hget
      go_wp2_with fail
      go_loopw [6] (fun i wr => ∃ k : Nat, k ≤ 16 ∧ i = .int .i64 k ∧ Below w3.heap.size w3 wr) (fun i _ => 16 - (intOf i).toNat)
      case atStart => exact ⟨0, by omega, rfl, Below.refl _ _⟩
      case round =>
        obtain ⟨k, hk, rfl, hbel⟩ := hrel
        have hr2 := hr1.ext hbel
        have B4 := B3.trans (hbel.mono B3.size)
        have Hbel := Lib.hid hbel; clear hbel
        by_cases hlt : k < 16
        · obtain ⟨b, off, rfl, hb2, hc⟩ := hr2 k _ (bools_get (by rw [Hcs.out]; exact hlt))
          have ho : k / 4 * 5 + k % 4 < s.size := by omega
          have hg := Hget.out k hlt ho
          obtain ⟨o, hoo⟩ : ∃ o, k / 4 * 5 + k % 4 = o := ⟨_, rfl⟩
          simp only [hoo] at ho hg
          have hoi : (k : Int) / 4 * 5 + (k : Int) % 4 = (o : Int) := by omega
          generalize cs.getD k false = x at *
          cases x
          · simp only [Bool.false_eq_true, if_false] at hg
            have L1 : ∀ w', Below wr.heap.size wr w' → (Instr.loadAt 4 (.pointer (some ⟨b, off + k * 1, none⟩))).run Try.prog w' = .ok (.bool false) w' := fun w' h => ld_one (by kernel_rfl) (by rw [Nat.mul_one]; exact (h.cell (p := ⟨b, off + k, none⟩) hb2).trans hc)
            go_wp2_with fail
            refine wp_region_N [] [] (by kernel_rfl) (by kernel_rfl) ?_
            refine wpStill_go (v := .int .i64 o) rfl rfl (stays_run fun w' h => ex_move rfl rfl) ?_
            simp only [Act.put, List.setIfInBounds_toArray, List.set_cons_succ, List.set_cons_zero]
            refine wpStill_go (v := .string s) rfl rfl (stays_run fun w' h => ex_move rfl rfl) ?_
            simp only [Act.put, List.setIfInBounds_toArray, List.set_cons_succ, List.set_cons_zero]
            refine wpStill_go (v := .int .i64 20) rfl rfl (stays_run fun w' h => by simp [go_sem, hsz1]) ?_
            simp only [Act.put, List.setIfInBounds_toArray, List.set_cons_succ, List.set_cons_zero]
            refine wpStill_go (v := .bool false) rfl rfl (stays_run fun w' h => by simp [go_sem]; omega) ?_
            simp only [Act.put, List.setIfInBounds_toArray, List.set_cons_succ, List.set_cons_zero]
            refine wpStill_go (v := .bool false) rfl rfl (stays_run fun w' h => ex_move rfl rfl) ?_
            simp only [Act.put, List.setIfInBounds_toArray, List.set_cons_succ, List.set_cons_zero]
            refine wpStill_go (v := .string s) rfl rfl (stays_run fun w' h => ex_move rfl rfl) ?_
            simp only [Act.put, List.setIfInBounds_toArray, List.set_cons_succ, List.set_cons_zero]
            refine wpStill_go (v := .int .i64 o) rfl rfl (stays_run fun w' h => ex_move rfl rfl) ?_
            simp only [Act.put, List.setIfInBounds_toArray, List.set_cons_succ, List.set_cons_zero]
            refine wpStill_go (v := .int .u8 46) rfl rfl (stays_run fun w' h => by simp [go_sem, ho, hg]) ?_
            simp only [Act.put, List.setIfInBounds_toArray, List.set_cons_succ, List.set_cons_zero]
            refine wpStill_go (v := .bool false) rfl rfl (stays_run fun w' h => by simp [go_sem]) ?_
            simp only [Act.put, List.setIfInBounds_toArray, List.set_cons_succ, List.set_cons_zero]
            refine wpStill_go (v := .slice (some ⟨b, off, none⟩) 16 c1) rfl rfl (stays_run fun w' h => ex_move rfl rfl) ?_
            simp only [Act.put, List.setIfInBounds_toArray, List.set_cons_succ, List.set_cons_zero]
            refine wpStill_go (v := .int .i64 k) rfl rfl (stays_run fun w' h => ex_move rfl rfl) ?_
            simp only [Act.put, List.setIfInBounds_toArray, List.set_cons_succ, List.set_cons_zero]
            refine wpStill_go (v := .pointer (some ⟨b, off + k * 1, none⟩)) rfl rfl (stays_run fun w' h => ex_index rfl (by kernel_rfl) (by kernel_rfl) rfl rfl (hlt)) ?_
            simp only [Act.put, List.setIfInBounds_toArray, List.set_cons_succ, List.set_cons_zero]
            refine wpStill_go (v := .bool false) rfl rfl (stays_run fun w' h => ex_load rfl rfl (L1 w' h)) ?_
            simp only [Act.put, List.setIfInBounds_toArray, List.set_cons_succ, List.set_cons_zero]
            refine wpStill_go (v := .bool false) rfl rfl (stays_run fun w' h => by simp [go_sem]) ?_
            simp only [Act.put, List.setIfInBounds_toArray, List.set_cons_succ, List.set_cons_zero]
            refine wpStill_go (v := .bool false) rfl rfl (stays_run fun w' h => by simp [go_sem]) ?_
            simp only [Act.put, List.setIfInBounds_toArray, List.set_cons_succ, List.set_cons_zero]
            refine wpStill_go (v := .bool false) rfl rfl (stays_run fun w' h => ex_move rfl rfl) ?_
            simp only [Act.put, List.setIfInBounds_toArray, List.set_cons_succ, List.set_cons_zero]
            refine wpStill_go (v := .string s) rfl rfl (stays_run fun w' h => ex_move rfl rfl) ?_
            simp only [Act.put, List.setIfInBounds_toArray, List.set_cons_succ, List.set_cons_zero]
            refine wpStill_go (v := .int .i64 o) rfl rfl (stays_run fun w' h => ex_move rfl rfl) ?_
            simp only [Act.put, List.setIfInBounds_toArray, List.set_cons_succ, List.set_cons_zero]
            refine wpStill_go (v := .int .u8 46) rfl rfl (stays_run fun w' h => by simp [go_sem, ho, hg]) ?_
            simp only [Act.put, List.setIfInBounds_toArray, List.set_cons_succ, List.set_cons_zero]
            refine wpStill_go (v := .bool true) rfl rfl (stays_run fun w' h => by simp [go_sem]) ?_
            simp only [Act.put, List.setIfInBounds_toArray, List.set_cons_succ, List.set_cons_zero]
            refine wpStill_go (v := .slice (some ⟨b, off, none⟩) 16 c1) rfl rfl (stays_run fun w' h => ex_move rfl rfl) ?_
            simp only [Act.put, List.setIfInBounds_toArray, List.set_cons_succ, List.set_cons_zero]
            refine wpStill_go (v := .int .i64 k) rfl rfl (stays_run fun w' h => ex_move rfl rfl) ?_
            simp only [Act.put, List.setIfInBounds_toArray, List.set_cons_succ, List.set_cons_zero]
            refine wpStill_go (v := .pointer (some ⟨b, off + k * 1, none⟩)) rfl rfl (stays_run fun w' h => ex_index rfl (by kernel_rfl) (by kernel_rfl) rfl rfl (hlt)) ?_
            simp only [Act.put, List.setIfInBounds_toArray, List.set_cons_succ, List.set_cons_zero]
            refine wpStill_go (v := .bool false) rfl rfl (stays_run fun w' h => ex_load rfl rfl (L1 w' h)) ?_
            simp only [Act.put, List.setIfInBounds_toArray, List.set_cons_succ, List.set_cons_zero]
            refine wpStill_go (v := .bool false) rfl rfl (stays_run fun w' h => by simp [go_sem]) ?_
            simp only [Act.put, List.setIfInBounds_toArray, List.set_cons_succ, List.set_cons_zero]
            refine wpStill_go (v := .bool false) rfl rfl (stays_run fun w' h => by simp [go_sem]) ?_
            simp only [Act.put, List.setIfInBounds_toArray, List.set_cons_succ, List.set_cons_zero]
            refine wpStill_nil ?_
            repeat (refine wpMark_skip rfl ?_)
            refine wpMark_nil fun w11 h11 => ?_
            simp only [onlyN, Exit.then]
            have B6 := Hbel.out.trans (((Below.refl _ _).drew.trans h11).mono Hbel.out.size)
            clear L1
            go_wp2_with fail
            go_roundw
            case measure => simp [intOf]; omega
            case rel => exact ⟨k + 1, by omega, by go_num, B6⟩
          · simp only [if_true] at hg
            have L1 : ∀ w', Below wr.heap.size wr w' → (Instr.loadAt 4 (.pointer (some ⟨b, off + k * 1, none⟩))).run Try.prog w' = .ok (.bool true) w' := fun w' h => ld_one (by kernel_rfl) (by rw [Nat.mul_one]; exact (h.cell (p := ⟨b, off + k, none⟩) hb2).trans hc)
            go_wp2_with fail
            refine wp_region_N [] [] (by kernel_rfl) (by kernel_rfl) ?_
            refine wpStill_go (v := .int .i64 o) rfl rfl (stays_run fun w' h => ex_move rfl rfl) ?_
            simp only [Act.put, List.setIfInBounds_toArray, List.set_cons_succ, List.set_cons_zero]
            refine wpStill_go (v := .string s) rfl rfl (stays_run fun w' h => ex_move rfl rfl) ?_
            simp only [Act.put, List.setIfInBounds_toArray, List.set_cons_succ, List.set_cons_zero]
            refine wpStill_go (v := .int .i64 20) rfl rfl (stays_run fun w' h => by simp [go_sem, hsz1]) ?_
            simp only [Act.put, List.setIfInBounds_toArray, List.set_cons_succ, List.set_cons_zero]
            refine wpStill_go (v := .bool false) rfl rfl (stays_run fun w' h => by simp [go_sem]; omega) ?_
            simp only [Act.put, List.setIfInBounds_toArray, List.set_cons_succ, List.set_cons_zero]
            refine wpStill_go (v := .bool false) rfl rfl (stays_run fun w' h => ex_move rfl rfl) ?_
            simp only [Act.put, List.setIfInBounds_toArray, List.set_cons_succ, List.set_cons_zero]
            refine wpStill_go (v := .string s) rfl rfl (stays_run fun w' h => ex_move rfl rfl) ?_
            simp only [Act.put, List.setIfInBounds_toArray, List.set_cons_succ, List.set_cons_zero]
            refine wpStill_go (v := .int .i64 o) rfl rfl (stays_run fun w' h => ex_move rfl rfl) ?_
            simp only [Act.put, List.setIfInBounds_toArray, List.set_cons_succ, List.set_cons_zero]
            refine wpStill_go (v := .int .u8 35) rfl rfl (stays_run fun w' h => by simp [go_sem, ho, hg]) ?_
            simp only [Act.put, List.setIfInBounds_toArray, List.set_cons_succ, List.set_cons_zero]
            refine wpStill_go (v := .bool true) rfl rfl (stays_run fun w' h => by simp [go_sem]) ?_
            simp only [Act.put, List.setIfInBounds_toArray, List.set_cons_succ, List.set_cons_zero]
            refine wpStill_go (v := .slice (some ⟨b, off, none⟩) 16 c1) rfl rfl (stays_run fun w' h => ex_move rfl rfl) ?_
            simp only [Act.put, List.setIfInBounds_toArray, List.set_cons_succ, List.set_cons_zero]
            refine wpStill_go (v := .int .i64 k) rfl rfl (stays_run fun w' h => ex_move rfl rfl) ?_
            simp only [Act.put, List.setIfInBounds_toArray, List.set_cons_succ, List.set_cons_zero]
            refine wpStill_go (v := .pointer (some ⟨b, off + k * 1, none⟩)) rfl rfl (stays_run fun w' h => ex_index rfl (by kernel_rfl) (by kernel_rfl) rfl rfl (hlt)) ?_
            simp only [Act.put, List.setIfInBounds_toArray, List.set_cons_succ, List.set_cons_zero]
            refine wpStill_go (v := .bool true) rfl rfl (stays_run fun w' h => ex_load rfl rfl (L1 w' h)) ?_
            simp only [Act.put, List.setIfInBounds_toArray, List.set_cons_succ, List.set_cons_zero]
            refine wpStill_go (v := .bool false) rfl rfl (stays_run fun w' h => by simp [go_sem]) ?_
            simp only [Act.put, List.setIfInBounds_toArray, List.set_cons_succ, List.set_cons_zero]
            refine wpStill_go (v := .bool false) rfl rfl (stays_run fun w' h => by simp [go_sem]) ?_
            simp only [Act.put, List.setIfInBounds_toArray, List.set_cons_succ, List.set_cons_zero]
            refine wpStill_go (v := .bool false) rfl rfl (stays_run fun w' h => ex_move rfl rfl) ?_
            simp only [Act.put, List.setIfInBounds_toArray, List.set_cons_succ, List.set_cons_zero]
            refine wpStill_go (v := .string s) rfl rfl (stays_run fun w' h => ex_move rfl rfl) ?_
            simp only [Act.put, List.setIfInBounds_toArray, List.set_cons_succ, List.set_cons_zero]
            refine wpStill_go (v := .int .i64 o) rfl rfl (stays_run fun w' h => ex_move rfl rfl) ?_
            simp only [Act.put, List.setIfInBounds_toArray, List.set_cons_succ, List.set_cons_zero]
            refine wpStill_go (v := .int .u8 35) rfl rfl (stays_run fun w' h => by simp [go_sem, ho, hg]) ?_
            simp only [Act.put, List.setIfInBounds_toArray, List.set_cons_succ, List.set_cons_zero]
            refine wpStill_go (v := .bool false) rfl rfl (stays_run fun w' h => by simp [go_sem]) ?_
            simp only [Act.put, List.setIfInBounds_toArray, List.set_cons_succ, List.set_cons_zero]
            refine wpStill_go (v := .slice (some ⟨b, off, none⟩) 16 c1) rfl rfl (stays_run fun w' h => ex_move rfl rfl) ?_
            simp only [Act.put, List.setIfInBounds_toArray, List.set_cons_succ, List.set_cons_zero]
            refine wpStill_go (v := .int .i64 k) rfl rfl (stays_run fun w' h => ex_move rfl rfl) ?_
            simp only [Act.put, List.setIfInBounds_toArray, List.set_cons_succ, List.set_cons_zero]
            refine wpStill_go (v := .pointer (some ⟨b, off + k * 1, none⟩)) rfl rfl (stays_run fun w' h => ex_index rfl (by kernel_rfl) (by kernel_rfl) rfl rfl (hlt)) ?_
            simp only [Act.put, List.setIfInBounds_toArray, List.set_cons_succ, List.set_cons_zero]
            refine wpStill_go (v := .bool true) rfl rfl (stays_run fun w' h => ex_load rfl rfl (L1 w' h)) ?_
            simp only [Act.put, List.setIfInBounds_toArray, List.set_cons_succ, List.set_cons_zero]
            refine wpStill_go (v := .bool false) rfl rfl (stays_run fun w' h => by simp [go_sem]) ?_
            simp only [Act.put, List.setIfInBounds_toArray, List.set_cons_succ, List.set_cons_zero]
            refine wpStill_go (v := .bool false) rfl rfl (stays_run fun w' h => by simp [go_sem]) ?_
            simp only [Act.put, List.setIfInBounds_toArray, List.set_cons_succ, List.set_cons_zero]
            refine wpStill_nil ?_
            repeat (refine wpMark_skip rfl ?_)
            refine wpMark_nil fun w11 h11 => ?_
            simp only [onlyN, Exit.then]
            have B6 := Hbel.out.trans (((Below.refl _ _).drew.trans h11).mono Hbel.out.size)
            clear L1
            go_wp2_with fail
            go_roundw
            case measure => simp [intOf]; omega
            case rel => exact ⟨k + 1, by omega, by go_num, B6⟩
        · obtain rfl : k = 16 := by omega
          go_wp2_with fail
          go_ret
          exact ⟨rfl, B4⟩
  · have hnb : (1048576 : Int) < (n : Int) := by omega
    go_enter Try.func4, Try.ntmps4
    go_wp2_with fail
    go_ret
    exact ⟨rfl, Below.refl _ _⟩
end Go.Proofs.Ytklhjofhmcaflaa
