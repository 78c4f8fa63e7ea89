/- The program's CoverText. -/
import Derived.Test.YtipgpafgampfbaaGreatDoorA1
import Derived.Test.YtipgpafgampfbaaGreatDoorB4
namespace Go.Proofs.YtipgpafgampfbaaGreatDoor
open Go.RowKit

theorem coverText_yes (A : Option Addr) (cap : Nat) (c : List Bool) (w : World) (hv : covV c = true) (hr : Rd w w.heap.size A (c.map Value.bool)) :
    Calls Tryz.prog 32 #[.slice A 16 cap] w fun e w' => e = .returned (.string ⟨(covBytes c 16).toArray⟩) ∧ Below w.heap.size w w' := by
  have Hn := Lib.hid (covV_len hv)
  have Hv := Lib.hid hv; clear hv
  go_enter Tryz.func32, Tryz.ntmps32
  go_wp2_with (go_at_call 69; refine (coverValid_any _ _ _ c _ _ Hn.out hr).mono ?_; rintro e w' ⟨rfl, rfl⟩; rw [Hv.out])
  go_loopw [11] (fun i wr => ∃ k : Nat, k ≤ 16 ∧ i = .int .i64 k ∧ IsB w.heap.size w.heap.size (Lib.byteCells (covBytes c k)) wr ∧ Below w.heap.size w wr) (fun i _ => 16 - (intOf i).toNat)
  case atStart => exact ⟨0, by omega, rfl, fresh_isB w, (Below.refl _ _).alloc (Nat.le_refl _) _⟩
  case round =>
    obtain ⟨k, hk, rfl, hB, hbel⟩ := hrel
    have hr' := hr.below hbel
    have Hbel := Lib.hid hbel; clear hbel
    have HB := Lib.hid hB; clear hB
    by_cases hlt : k < 16
    · have e1 : (c.map Value.bool)[k]? = some (.bool (c.getD k false)) := by
        have : k < c.length := by rw [Hn.out]; exact hlt
        simp [List.getD, this]
      obtain ⟨b, off, rfl, hb, hc1⟩ := hr' k _ e1
      generalize hx : c.getD k false = x at *
      clear e1
      have Hx := Lib.hid hx; clear hx
      have hlen := covBytes_len c k
      go_wp2_with fail
      all_goals
        refine (writeByte_any w.heap.size w.heap.size _ _ _ HB.out (by rw [Lib.byteCells_length]; omega) Hbel.out.size).mono ?_
        rintro e w1 ⟨rfl, hB1, hb1⟩
        have Hbel1 := Lib.hid (Hbel.out.trans hb1)
        have HB1 := Lib.hid hB1.isB
        clear hb1 hB1
        go_wp2_with fail
      all_goals first
        | (refine (writeByte_any w.heap.size w.heap.size _ _ _ HB1.out (by simp [Lib.byteCells_length]; omega) Hbel1.out.size).mono ?_
           rintro e w2 ⟨rfl, hB2, hb2⟩
           have Hbel2 := Lib.hid (Hbel1.out.trans hb2)
           have HB2 := Lib.hid hB2.isB
           clear hb2 hB2
           go_wp2_with fail)
        | skip
      all_goals
        go_roundw
        case measure => simp [intOf]; omega
        case rel =>
          refine ⟨k + 1, by omega, by go_num, ?_, by first | exact Hbel2.out | exact Hbel1.out⟩
          rw [covBytes_succ]
          unfold covLine
          rw [Hx.out]
          first
            | (have h2 : ((k : Int) % 4 == 3) = true := by assumption
               have h3 := HB2.out
               rw [if_pos (by simp at h2; omega : k % 4 = 3)]
               first
                 | (have h1 : x = true := by assumption
                    subst h1; simpa [Lib.byteCells] using h3)
                 | (have h1 : x = false := by assumption
                    subst h1; simpa [Lib.byteCells] using h3))
            | (have h2 : ((k : Int) % 4 == 3) = false := by assumption
               have h3 := HB1.out
               rw [if_neg (by simp at h2; omega : ¬ k % 4 = 3)]
               first
                 | (have h1 : x = true := by assumption
                    subst h1; simpa [Lib.byteCells] using h3)
                 | (have h1 : x = false := by assumption
                    subst h1; simpa [Lib.byteCells] using h3))
    · obtain rfl : k = 16 := by omega
      go_wp2_with fail
      refine (bString_any _ _ (covBytes c 16) _ HB.out Hbel.out.size).mono ?_
      rintro e w1 ⟨rfl, hb1⟩
      go_wp2_with fail
      go_ret
      exact ⟨rfl, Hbel.out.trans hb1⟩

theorem coverText_no (A : Option Addr) (n cap : Nat) (c : List Bool) (w : World) (hn : c.length = n) (hv : covV c = false) (hr : Rd w w.heap.size A (c.map Value.bool)) :
    Calls Tryz.prog 32 #[.slice A n cap] w fun e w' => e = .returned (.string ⟨#[]⟩) ∧ Below w.heap.size w w' := by
  have Hn := Lib.hid hn; clear hn
  have Hv := Lib.hid hv; clear hv
  go_enter Tryz.func32, Tryz.ntmps32
  go_wp2_with (go_at_call 69; refine (coverValid_any _ _ _ c _ _ Hn.out hr).mono ?_; rintro e w' ⟨rfl, rfl⟩; rw [Hv.out])
  go_ret
  exact ⟨rfl, Below.refl _ _⟩

theorem coverText_any (A : Option Addr) (n cap : Nat) (c : List Bool) (w : World) (hn : c.length = n) (hr : Rd w w.heap.size A (c.map Value.bool)) :
    Calls Tryz.prog 32 #[.slice A n cap] w fun e w' => e = .returned (.string ⟨(covText c).toArray⟩) ∧ Below w.heap.size w w' := by
  unfold covText
  by_cases hv : covV c = true
  · obtain rfl : n = 16 := by rw [← hn]; exact covV_len hv
    rw [if_pos hv]
    exact coverText_yes A cap c w hv hr
  · rw [if_neg hv]
    exact coverText_no A n cap c w hn (by simpa using hv) hr
end Go.Proofs.YtipgpafgampfbaaGreatDoor
