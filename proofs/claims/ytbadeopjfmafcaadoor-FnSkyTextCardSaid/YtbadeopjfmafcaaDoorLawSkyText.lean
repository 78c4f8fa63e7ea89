/- FnSkyText returns true at every input, and leaves what was there. -/
import Derived.Test.YtbadeopjfmafcaaDoorSkyFr
import Derived.Test.YtbadeopjfmafcaaDoorDrawK
import Derived.Test.YtbadeopjfmafcaaDoorA3
import Derived.Test.YtbadeopjfmafcaaDoorTied
import Derived.Test.YtbadeopjfmafcaaDoorCut
namespace Go.Proofs.YtbadeopjfmafcaaDoor
open Go.RowKit

/-- How many bytes c the first k bytes hold. -/
def cntB (c : UInt8) (l : List UInt8) (k : Nat) : Nat := (l.take k).count c
theorem cntB_succ (c : UInt8) (l : List UInt8) (k : Nat) (b : UInt8) (hb : l[k]? = some b) : cntB c l (k + 1) = cntB c l k + if b = c then 1 else 0 := by
  unfold cntB
  rw [List.take_add_one, hb, List.count_append]
  congr 1
  by_cases h : b = c
  · subst h; simp
  · rw [if_neg h]; simp [h]
theorem cntB_all (c : UInt8) (l : List UInt8) : cntB c l l.length = l.count c := by unfold cntB; rw [List.take_length]

set_option maxRecDepth 100000 in
set_option maxHeartbeats 1000000 in
theorem FnSkyText_walk (w : World) (hL : laidMet Tryd.prog Rows.fnSkyTextRow.laid w) (A : Option Addr) (n cap : Nat) (bs : List Int) (hn : bs.length = n) (hm : n ≤ 9223372036854775807) (hr : Rd w w.heap.size A (bs.map (Value.int .u8))) (hw : ∀ x ∈ bs, (Lit.int .u8 x).wf = true) (hk : n ≤ cap) :
    Calls Tryd.prog 6 #[.slice A n cap] w fun e w' => e = .returned (.bool true) ∧ Below w.heap.size w w' := by
  have Hbs := Lib.hid (bytesOk_of hw); clear hw
  have Ht := Lib.hid (tab_third hL)
  have He := Lib.hid (errs_fourth hL); clear hL
  by_cases hb : n ≤ 1048576
  · have hnb : ¬ (1048576 : Int) < (n : Int) := by omega
    go_enter Tryd.func6, Tryd.ntmps6
    go_wp2_with fail
    refine (drawSkyText_any A n cap bs w hn hm hk Hbs.out hr).mono ?_
    rintro e w1 ⟨A1, k1, c1, s, rfl, hs, hk1, hr1, B1⟩
    have Hs := Lib.hid hs; clear hs
    clear hr hn
    go_wp2_with fail
    refine (skyText_any A1 k1 c1 s _ Hs.out (by omega) hr1 (Ht.out.ext B1)).mono ?_
    rintro e w2 ⟨rfl, b2⟩
    have B2 := B1.trans (b2.mono B1.size)
    have extX := (hr1.below b2).more b2.size; clear hr1; have hr1 := extX; clear extX
    clear b2
    go_wp2_with fail
    refine (sSkyText_any A1 k1 c1 s _ Hs.out (by omega) hr1).mono ?_
    rintro e w3 ⟨rfl, b3⟩
    have B3 := B2.trans (b3.mono B2.size)
    have extX := (hr1.below b3).more b3.size; clear hr1; have hr1 := extX; clear extX
    clear b3
    cases hv : skyV s
    · rw [skyStr_no hv]
      clear hv
      go_wp2_with fail
      go_ret
      exact ⟨rfl, B3⟩
    · have hl16 := skyV_len hv
      have hne : (skyStr s).isEmpty = false := by
        rw [skyStr_yes hv]
        have := skyB_ne s 16 (by decide)
        simpa using this
      have hrd : readSky (skyStr s) = some s := readSky_some.2 ⟨hv, skyStr_yes hv⟩
      have hlen : (skyStr s).length ≤ 352 := by
        rw [skyStr_yes hv]
        exact skyB_len (fun x hx => by have := (skyV_iff.1 hv).2 x hx; omega) 16
      have hc10 : (skyStr s).count 10 = 4 := by rw [skyStr_yes hv]; exact (skyB_count s).1
      have hc32 : (skyStr s).count 32 = 12 := by rw [skyStr_yes hv]; exact (skyB_count s).2
      clear hv
      have hk16 : k1 = 16 := by have := Hs.out; omega
      subst hk16
      generalize skyStr s = l at *
      have hsz : (ByteArray.mk l.toArray).size = l.length := rfl
      have Hl16 := Lib.hid hl16; clear hl16
      have Hrd := Lib.hid hrd; clear hrd
      have Hc10 := Lib.hid hc10; clear hc10
      have Hc32 := Lib.hid hc32; clear hc32
      go_wp2_with fail
      refine (skyFrom_any l w3 (by omega) (Ht.out.ext B3) (He.out.ext B3)).mono ?_
      rintro e w4 ⟨v, rfl, o4, b4⟩
      rw [Hrd.out, Option.getD_some, Hl16.out] at o4
      rw [Hrd.out, Option.isSome_some]
      obtain ⟨A4, c4, rfl⟩ := own_form o4
      have hr4 := Rd.of_own o4
      have B4 := B3.trans (b4.mono B3.size)
      have extX := (hr1.below b4).more b4.size; clear hr1; have hr1 := extX; clear extX
      clear o4 b4
      go_wp2_with fail
      go_loopw [8, 9, 10] (fun a b i wr => ∃ k : Nat, k ≤ l.length ∧ i = .int .i64 k ∧ a = .int .i64 (cntB 10 l k) ∧ b = .int .i64 (cntB 32 l k) ∧ wr = w4) (fun _ _ i _ => l.length - (intOf i).toNat)
      case atStart => exact ⟨0, by omega, rfl, rfl, rfl, rfl⟩
      case round =>
        obtain ⟨k, hk, rfl, rfl, rfl, rfl⟩ := hrel
        by_cases hlt : k < l.length
        · have hb : l[k]? = some l[k] := List.getElem?_eq_getElem hlt
          generalize l[k] = b at hb
          have hg := str_get l k b hb
          have h1 := cntB_succ 10 l k b hb
          have h2 := cntB_succ 32 l k b hb
          have m1 : cntB 10 l k ≤ 352 := by unfold cntB; have := List.count_le_length (a := (10 : UInt8)) (l := l.take k); have := List.length_take_le k l; omega
          have m2 : cntB 32 l k ≤ 352 := by unfold cntB; have := List.count_le_length (a := (32 : UInt8)) (l := l.take k); have := List.length_take_le k l; omega
          generalize cntB 10 l k = x at *
          generalize cntB 32 l k = y at *
          have H1 := Lib.hid h1; clear h1
          have H2 := Lib.hid h2; clear h2
          have Hb := Lib.hid hb; clear hb
          by_cases e1 : b = 10
          · subst e1
            go_wp2_with fail
            go_roundw
            case measure => simp [intOf]; omega
            case rel => exact ⟨k + 1, by omega, by go_num, by rw [H1.out]; simp, by rw [H2.out]; simp, by first | rfl | trivial⟩
          · have e1i : ((b.toNat : Int) == 10) = false := u8_int (c := 10) e1
            by_cases e2 : b = 32
            · subst e2
              go_wp2_with fail
              go_roundw
              case measure => simp [intOf]; omega
              case rel => exact ⟨k + 1, by omega, by go_num, by rw [H1.out]; simp, by rw [H2.out]; simp, by first | rfl | trivial⟩
            · have e2i : ((b.toNat : Int) == 32) = false := u8_int (c := 32) e2
              have E1 := Lib.hid e1; clear e1
              have E2 := Lib.hid e2; clear e2
              go_wp2_with fail
              go_roundw
              case measure => simp [intOf]; omega
              case rel => exact ⟨k + 1, by omega, by go_num, by rw [H1.out, if_neg E1.out]; simp, by rw [H2.out, if_neg E2.out]; simp, by first | rfl | trivial⟩
        · obtain rfl : k = l.length := by omega
          rw [cntB_all, cntB_all, Hc10.out, Hc32.out]
          go_wp2_with fail
          refine (sameInts_any A4 A1 16 16 c4 c1 s s _ Hl16.out Hl16.out (by omega) hr4 hr1).mono ?_
          rintro e w5 ⟨rfl, b5⟩
          rw [decide_eq_true (rfl : s = s)]
          go_wp2_with fail
          go_ret
          exact ⟨rfl, B4.trans (b5.mono B4.size)⟩
  · have hnb : (1048576 : Int) < (n : Int) := by omega
    go_enter Tryd.func6, Tryd.ntmps6
    go_wp2_with fail
    go_ret
    exact ⟨rfl, Below.refl _ _⟩
end Go.Proofs.YtbadeopjfmafcaaDoor
