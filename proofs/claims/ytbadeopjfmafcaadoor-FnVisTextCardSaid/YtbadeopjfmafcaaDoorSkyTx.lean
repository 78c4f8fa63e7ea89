/- A sky's text: the program's SkyText and the reference's. -/
import Derived.Test.YtbadeopjfmafcaaDoorTxtS
import Derived.Test.YtbadeopjfmafcaaDoorStr
import Derived.Test.YtbadeopjfmafcaaDoorBuild
import Derived.Test.YtbadeopjfmafcaaDoorDirtyS
namespace Go.Proofs.YtbadeopjfmafcaaDoor
open Go.RowKit

theorem skyText_yes (A : Option Addr) (cap : Nat) (s : List Int) (w : World) (hv : skyV s = true) (hr : Rd w w.heap.size A (s.map (Value.int .i64))) (ht : Tab w) :
    Calls Tryd.prog 14 #[.slice A 16 cap] w fun e w' => e = .returned (.string ⟨(skyB s 16).toArray⟩) ∧ Below w.heap.size w w' := by
  have Hn := Lib.hid (skyV_len hv)
  have Hv := Lib.hid hv; clear hv
  have Ht := Lib.hid ht; clear ht
  go_enter Tryd.func14, Tryd.ntmps14
  go_wp2_with (go_at_call 30; refine (skyValid_any _ _ _ s _ Hn.out (by omega) hr).mono ?_; rintro e w' ⟨rfl, rfl⟩; rw [Hv.out])
  go_loopw [11] (fun i wr => ∃ k : Nat, k ≤ 16 ∧ i = .int .i64 k ∧ IsB w.heap.size w.heap.size (Lib.byteCells (skyB s k)) wr ∧ Below w.heap.size w wr) (fun i _ => 16 - (intOf i).toNat)
  case atStart => exact ⟨0, by omega, rfl, fresh_isB w, (Below.refl _ _).alloc (Nat.le_refl _) _⟩
  case round =>
    obtain ⟨k, hk, rfl, hB, hbel⟩ := hrel
    have hr' := hr.below hbel
    have Hbel := Lib.hid hbel; clear hbel
    have HB := Lib.hid hB; clear hB
    by_cases hlt : k < 16
    · obtain ⟨b, off, rfl, hb, hc1⟩ := hr' k _ (ints_get (by rw [Hn.out]; exact hlt))
      have Hs := Lib.hid (skyB_succ s k)
      have hxb := skyV_get Hv.out k
      have hlen := skyB_len (s := s) (fun x hx => by have := (skyV_iff.1 Hv.out).2 x hx; omega) k
      generalize s.getD k 0 = x at *
      have Hlen := Lib.hid hlen; clear hlen
      have Hxb := Lib.hid hxb; clear hxb
      have Hl := Lib.hid (itoa_short (n := x) (by have := Hxb.out; omega) (by have := Hxb.out; omega))
      go_wp2_with fail
      refine (itoa_any x (by have := Hxb.out; omega) _ (Ht.out.ext Hbel.out)).mono ?_
      rintro e w1 ⟨rfl, hb1⟩
      have HB1 := Lib.hid (HB.out.ext hb1)
      have Hb1 := Lib.hid (Hbel.out.trans (hb1.mono Hbel.out.size))
      clear hb1
      go_wp2_with fail
      refine (writeString_any w.heap.size w.heap.size _ _ _ HB1.out (by rw [Lib.byteCells_length]; have := Hlen.out; have := Hl.out; have e : (ByteArray.mk (Lib.itoa x).toArray).size = (Lib.itoa x).length := rfl; omega) Hb1.out.size).mono ?_
      rintro e w2 ⟨rfl, hB2, hb2⟩
      have Hb2 := Lib.hid (Hb1.out.trans hb2)
      have HB2 := Lib.hid hB2.isB
      clear hb2 hB2
      have hlim : ((Lib.byteCells (skyB s k)) ++ Lib.strCells ⟨(Lib.itoa x).toArray⟩).length + 1 ≤ 140737488355328 := by
        rw [List.length_append, Lib.byteCells_length, Lib.strCells_length]
        have := Hlen.out; have := Hl.out; have e : (ByteArray.mk (Lib.itoa x).toArray).size = (Lib.itoa x).length := rfl
        omega
      have Hlim := Lib.hid hlim; clear hlim
      by_cases h4 : k % 4 = 3
      · have h4i : ((k : Int) % 4 == 3) = true := by rw [beq_iff_eq]; omega
        go_wp2_with fail
        refine (writeString_any w.heap.size w.heap.size _ _ _ HB2.out (by exact Hlim.out) Hb2.out.size).mono ?_
        rintro e w3 ⟨rfl, hB3, hb3⟩
        have Hb3 := Lib.hid (Hb2.out.trans hb3)
        have HB3 := Lib.hid hB3.isB
        clear hb3 hB3
        go_wp2_with fail
        go_roundw
        case measure => simp [intOf]; omega
        case rel =>
          refine ⟨k + 1, by omega, by go_num, ?_, Hb3.out⟩
          rw [Hs.out]
          have := HB3.out
          unfold sep4; rw [if_pos h4]
          simpa [Lib.byteCells, Lib.strCells] using this
      · have h4i : ((k : Int) % 4 == 3) = false := by rw [beq_eq_false_iff_ne]; omega
        go_wp2_with fail
        refine (writeString_any w.heap.size w.heap.size _ _ _ HB2.out (by exact Hlim.out) Hb2.out.size).mono ?_
        rintro e w3 ⟨rfl, hB3, hb3⟩
        have Hb3 := Lib.hid (Hb2.out.trans hb3)
        have HB3 := Lib.hid hB3.isB
        clear hb3 hB3
        go_wp2_with fail
        go_roundw
        case measure => simp [intOf]; omega
        case rel =>
          refine ⟨k + 1, by omega, by go_num, ?_, Hb3.out⟩
          rw [Hs.out]
          have := HB3.out
          unfold sep4; rw [if_neg h4]
          simpa [Lib.byteCells, Lib.strCells] using this
    · obtain rfl : k = 16 := by omega
      go_wp2_with fail
      refine (bString_any _ _ (skyB s 16) _ HB.out Hbel.out.size).mono ?_
      rintro e w1 ⟨rfl, hb1⟩
      go_wp2_with fail
      go_ret
      exact ⟨rfl, Hbel.out.trans hb1⟩
theorem skyText_no (A : Option Addr) (n cap : Nat) (s : List Int) (w : World) (hn : s.length = n) (hm : n ≤ 1000000000) (hv : skyV s = false) (hr : Rd w w.heap.size A (s.map (Value.int .i64))) :
    Calls Tryd.prog 14 #[.slice A n cap] w fun e w' => e = .returned (.string ⟨#[]⟩) ∧ Below w.heap.size w w' := by
  have Hn := Lib.hid hn; clear hn
  have Hv := Lib.hid hv; clear hv
  go_enter Tryd.func14, Tryd.ntmps14
  go_wp2_with (go_at_call 30; refine (skyValid_any _ _ _ s _ Hn.out hm hr).mono ?_; rintro e w' ⟨rfl, rfl⟩; rw [Hv.out])
  go_ret
  exact ⟨rfl, Below.refl _ _⟩
theorem skyText_any (A : Option Addr) (n cap : Nat) (s : List Int) (w : World) (hn : s.length = n) (hm : n ≤ 1000000000) (hr : Rd w w.heap.size A (s.map (Value.int .i64))) (ht : Tab w) :
    Calls Tryd.prog 14 #[.slice A n cap] w fun e w' => e = .returned (.string ⟨(skyStr s).toArray⟩) ∧ Below w.heap.size w w' := by
  unfold skyStr
  by_cases hv : skyV s = true
  · obtain rfl : n = 16 := by rw [← hn]; exact skyV_len hv
    rw [if_pos hv]
    exact skyText_yes A cap s w hv hr ht
  · rw [if_neg hv]
    exact skyText_no A n cap s w hn hm (by simpa using hv) hr

theorem sSkyText_yes (A : Option Addr) (cap : Nat) (s : List Int) (w : World) (hv : skyV s = true) (hr : Rd w w.heap.size A (s.map (Value.int .i64))) :
    Calls Tryd.prog 12 #[.slice A 16 cap] w fun e w' => e = .returned (.string ⟨(skyB s 16).toArray⟩) ∧ Below w.heap.size w w' := by
  have Hn := Lib.hid (skyV_len hv)
  have Hv := Lib.hid hv; clear hv
  go_enter Tryd.func12, Tryd.ntmps12
  go_wp2_with fail
  go_loopw [3, 4] (fun s0 i wr => ∃ k : Nat, k ≤ 16 ∧ i = .int .i64 k ∧ s0 = .string ⟨(skyB s k).toArray⟩ ∧ Below w.heap.size w wr) (fun _ i _ => 16 - (intOf i).toNat)
  case atStart => exact ⟨0, by omega, rfl, rfl, Below.refl _ _⟩
  case round =>
    obtain ⟨k, hk, rfl, rfl, hbel⟩ := hrel
    have hr' := hr.below hbel
    have Hbel := Lib.hid hbel; clear hbel
    by_cases hlt : k < 16
    · go_wp2_with fail
      refine (sSkyValid_any _ _ _ s _ Hn.out (by omega) (hr'.more Hbel.out.size)).mono ?_
      rintro e w1 ⟨rfl, rfl⟩
      rw [Hv.out]
      obtain ⟨b, off, rfl, hb, hc1⟩ := hr' k _ (ints_get (by rw [Hn.out]; exact hlt))
      have Hs := Lib.hid (skyB_succ s k)
      have hxb := skyV_get Hv.out k
      have hlen := skyB_len (s := s) (fun x hx => by have := (skyV_iff.1 Hv.out).2 x hx; omega) k
      generalize s.getD k 0 = x at *
      have Hxb := Lib.hid hxb; clear hxb
      have hl := itoa_short (n := x) (by have := Hxb.out; omega) (by have := Hxb.out; omega)
      have g1 : ¬ 9223372036854775807 < (skyB s k).length + (Lib.itoa x).length := by omega
      have g2 : ¬ 9223372036854775807 < (skyB s k).length + (Lib.itoa x).length + 1 := by omega
      clear hlen hl
      go_wp2_with fail
      refine (sDec_any x (by have := Hxb.out; omega) _).mono ?_
      rintro e w1 ⟨rfl, hb1⟩
      have Hb1 := Lib.hid (Hbel.out.trans (hb1.mono Hbel.out.size))
      clear hb1
      by_cases h4 : k % 4 = 3
      · have h4i : ((k : Int) % 4 == 3) = true := by rw [beq_iff_eq]; omega
        go_wp2_with fail
        go_roundw
        case measure => simp [intOf]; omega
        case rel =>
          refine ⟨k + 1, by omega, by go_num, ?_, Hb1.out⟩
          rw [Hs.out]
          unfold sep4; rw [if_pos h4, str_app, ← List.append_assoc]
          exact congrArg Value.string (str_app _ [10])
      · have h4i : ((k : Int) % 4 == 3) = false := by rw [beq_eq_false_iff_ne]; omega
        go_wp2_with fail
        go_roundw
        case measure => simp [intOf]; omega
        case rel =>
          refine ⟨k + 1, by omega, by go_num, ?_, Hb1.out⟩
          rw [Hs.out]
          unfold sep4; rw [if_neg h4, str_app, ← List.append_assoc]
          exact congrArg Value.string (str_app _ [32])
    · obtain rfl : k = 16 := by omega
      go_wp2_with fail
      go_ret
      exact ⟨rfl, Hbel.out⟩
theorem sSkyText_no (A : Option Addr) (n cap : Nat) (s : List Int) (w : World) (hn : s.length = n) (hm : n ≤ 1000000000) (hv : skyV s = false) (hr : Rd w w.heap.size A (s.map (Value.int .i64))) :
    Calls Tryd.prog 12 #[.slice A n cap] w fun e w' => e = .returned (.string ⟨#[]⟩) ∧ Below w.heap.size w w' := by
  have Hn := Lib.hid hn; clear hn
  have Hv := Lib.hid hv; clear hv
  by_cases h0 : n = 0
  · subst h0
    go_enter Tryd.func12, Tryd.ntmps12
    go_wp2_with fail
    refine wp_loop_rounds 1 ?_
    rw [rounds_succ]
    go_wp2_with fail
    go_ret
    exact ⟨rfl, Below.refl _ _⟩
  · have hp : (0 : Int) < (n : Int) := by omega
    go_enter Tryd.func12, Tryd.ntmps12
    go_wp2_with fail
    refine wp_loop_rounds 1 ?_
    rw [rounds_succ]
    go_wp2_with fail
    refine (sSkyValid_any _ _ _ s _ Hn.out hm hr).mono ?_
    rintro e w1 ⟨rfl, rfl⟩
    rw [Hv.out]
    go_wp2_with fail
    go_ret
    exact ⟨rfl, Below.refl _ _⟩
theorem sSkyText_any (A : Option Addr) (n cap : Nat) (s : List Int) (w : World) (hn : s.length = n) (hm : n ≤ 1000000000) (hr : Rd w w.heap.size A (s.map (Value.int .i64))) :
    Calls Tryd.prog 12 #[.slice A n cap] w fun e w' => e = .returned (.string ⟨(skyStr s).toArray⟩) ∧ Below w.heap.size w w' := by
  unfold skyStr
  by_cases hv : skyV s = true
  · obtain rfl : n = 16 := by rw [← hn]; exact skyV_len hv
    rw [if_pos hv]
    exact sSkyText_yes A cap s w hv hr
  · rw [if_neg hv]
    exact sSkyText_no A n cap s w hn hm (by simpa using hv) hr
end Go.Proofs.YtbadeopjfmafcaaDoor
