/- FnVisText returns true at every input, and leaves what was there. -/
import Derived.Test.YtbadeopjfmafcaaDoorVisFi
import Derived.Test.YtbadeopjfmafcaaDoorVisFs
import Derived.Test.YtbadeopjfmafcaaDoorDrawW
import Derived.Test.YtbadeopjfmafcaaDoorTied
namespace Go.Proofs.YtbadeopjfmafcaaDoor
open Go.RowKit

set_option maxRecDepth 100000 in
set_option maxHeartbeats 1000000 in
theorem FnVisText_walk (w : World) (hL : laidMet Tryd.prog Rows.fnVisTextRow.laid w) (hS : w.ShapedOpen Tryd.prog) (A : Option Addr) (n cap : Nat) (bs : List Int) (hn : bs.length = n) (hm : n ≤ 9223372036854775807) (hr : Rd w w.heap.size A (bs.map (Value.int .u8))) (hw : ∀ x ∈ bs, (Lit.int .u8 x).wf = true) (hk : n ≤ cap) :
    Calls Tryd.prog 9 #[.slice A n cap] w fun e w' => e = .returned (.bool true) ∧ Below w.heap.size w w' := by
  have Hbs := Lib.hid (bytesOk_of hw); clear hw
  have Ht := Lib.hid (tab_third hL)
  have He := Lib.hid (errs_fifth hL); clear hL
  by_cases hb : n ≤ 1048576
  · have hnb : ¬ (1048576 : Int) < (n : Int) := by omega
    go_enter Tryd.func9, Tryd.ntmps9
    go_wp2_with fail
    refine (drawVisText_any A n cap bs w hn hm hk Hbs.out hr).mono ?_
    rintro e w1 ⟨m, A1, k1, c1, s, rfl, hm26, hs, hk1, hr1, B1⟩
    have Hs := Lib.hid hs; clear hs
    clear hr hn
    go_wp2_with fail
    refine (visText_any m A1 k1 c1 s _ Hs.out (by omega) hr1 (Ht.out.ext B1)).mono ?_
    rintro e w2 ⟨rfl, b2⟩
    have B2 := B1.trans (b2.mono B1.size)
    have extX := (hr1.below b2).more b2.size; clear hr1; have hr1 := extX; clear extX
    clear b2
    go_wp2_with fail
    refine (sVisText_any m A1 k1 c1 s _ Hs.out (by omega) hr1).mono ?_
    rintro e w3 ⟨rfl, b3⟩
    have B3 := B2.trans (b3.mono B2.size)
    have extX := (hr1.below b3).more b3.size; clear hr1; have hr1 := extX; clear extX
    clear b3
    cases hv : visV m s
    · rw [visStr_no hv]
      clear hv
      go_wp2_with fail
      go_ret
      exact ⟨rfl, B3⟩
    · have hlen := visStr_len m (by omega) s
      have hvi : VisIs (visStr m s) m s := ⟨hv, visStr_yes hv⟩
      have hne : (visStr m s).isEmpty = false := by simpa using hvi.ne
      have hc10 : (((visStr m s).count 10 : Nat) : Int) = bm m := by rw [visStr_yes hv, visB_count]; exact hvi.bd.2
      have hres : VisRes (visStr m s) m s true := .inl ⟨rfl, hvi⟩
      clear hv hvi
      generalize visStr m s = l at *
      have hsz : (ByteArray.mk l.toArray).size = l.length := rfl
      have Hc10 := Lib.hid hc10; clear hc10
      have Hres := Lib.hid hres; clear hres
      go_wp2_with fail
      refine (visFrom_any l w3 (by omega) (Ht.out.ext B3) (He.out.ext B3) (shaped_ext hS B3)).mono ?_
      rintro e w4 ⟨n4, v, vs, ok, rfl, R4, o4, b4⟩
      obtain ⟨e1, e2, e3⟩ := R4.uniq Hres.out
      subst e1 e2 e3
      obtain ⟨A4, c4, rfl⟩ := own_form o4
      have hr4 := Rd.of_own o4
      have B4 := B3.trans (b4.mono B3.size)
      have extX := (hr1.below b4).more b4.size; clear hr1; have hr1 := extX; clear extX
      clear o4 b4 R4
      have hml : vs.length = k1 := Hs.out
      rw [hml]
      go_wp2_with fail
      go_loopw [10, 11] (fun a i wr => ∃ k : Nat, k ≤ l.length ∧ i = .int .i64 k ∧ a = .int .i64 (cntB 10 l k) ∧ wr = w4) (fun _ i _ => l.length - (intOf i).toNat)
      case atStart => exact ⟨0, by omega, rfl, rfl, rfl⟩
      case round =>
        obtain ⟨k, hk, rfl, rfl, rfl⟩ := hrel
        by_cases hlt : k < l.length
        · have hb : l[k]? = some l[k] := List.getElem?_eq_getElem hlt
          generalize l[k] = b at hb
          have hg := str_get l k b hb
          have h1 := cntB_succ 10 l k b hb
          have m1 : cntB 10 l k ≤ 3000 := by unfold cntB; have := List.count_le_length (a := (10 : UInt8)) (l := l.take k); have := List.length_take_le k l; omega
          generalize cntB 10 l k = x at *
          have H1 := Lib.hid h1; clear h1
          have Hb := Lib.hid hb; clear hb
          by_cases e1 : b = 10
          · subst e1
            go_wp2_with fail
            go_roundw
            case measure => simp [intOf]; omega
            case rel => exact ⟨k + 1, by omega, by go_num, by rw [H1.out]; simp, by first | rfl | trivial⟩
          · have e1i : ((b.toNat : Int) == 10) = false := u8_int (c := 10) e1
            have E1 := Lib.hid e1; clear e1
            go_wp2_with fail
            go_roundw
            case measure => simp [intOf]; omega
            case rel => exact ⟨k + 1, by omega, by go_num, by rw [H1.out, if_neg E1.out]; simp, by first | rfl | trivial⟩
        · obtain rfl : k = l.length := by omega
          rw [cntB_all, Hc10.out]
          have Hml := Lib.hid hml; clear hml
          go_wp2_with fail
          refine (sameVis_any A4 A1 k1 k1 c4 c1 vs vs _ Hs.out Hs.out (by omega) hr4 hr1).mono ?_
          rintro e w5 ⟨rfl, b5⟩
          rw [decide_eq_true (rfl : vs = vs)]
          go_wp2_with fail
          refine (baseMany_any _ _).mono ?_
          rintro e w6 ⟨rfl, rfl⟩
          go_wp2_with fail
          go_ret
          exact ⟨by simp, B4.trans (b5.mono B4.size)⟩
  · have hnb : (1048576 : Int) < (n : Int) := by omega
    go_enter Tryd.func9, Tryd.ntmps9
    go_wp2_with fail
    go_ret
    exact ⟨rfl, Below.refl _ _⟩
end Go.Proofs.YtbadeopjfmafcaaDoor
