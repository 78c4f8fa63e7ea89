/- FnVisFrom returns true at every input, and leaves what was there. -/
import Derived.Test.YtbadeopjfmafcaaDoorVisFi
import Derived.Test.YtbadeopjfmafcaaDoorVisFs
import Derived.Test.YtbadeopjfmafcaaDoorDrawW
import Derived.Test.YtbadeopjfmafcaaDoorTied
namespace Go.Proofs.YtbadeopjfmafcaaDoor
open Go.RowKit

/-- A text of visibilities without its end is none. -/
theorem vis_less {l l' : List UInt8} {n : Int} {vs : List (Int × Int)} (h : VisIs l n vs) (hl : l = l' ++ [10]) : ∀ m us, ¬ VisIs l' m us := fun m us h' => by
  have hr := h'.lines
  have ht := h.trim
  rw [hl, trim_snoc, hr] at ht
  have hlast : ([] : List UInt8) ∈ visLines n.toNat vs vs.length := by rw [← ht]; simp
  obtain ⟨t, _, e⟩ := List.mem_map.1 hlast
  have := visLine_cut ((pairsN n.toNat).getD t (0, 0)) (vs.getD t (0, 0))
  rw [e] at this
  exact absurd (congrArg List.length this) (by simp [cut])
theorem vis_end {l : List UInt8} {n : Int} {vs : List (Int × Int)} (h : VisIs l n vs) : ∃ l', l = l' ++ [10] := by
  obtain ⟨h1, rfl⟩ := h
  have := visV_len h1
  obtain ⟨j, hj⟩ : ∃ j, vs.length = j + 1 := ⟨vs.length - 1, by omega⟩
  rw [hj, visB_succ, ← List.append_assoc]
  exact ⟨_, rfl⟩

set_option maxRecDepth 100000 in
set_option maxHeartbeats 1000000 in
theorem FnVisFrom_walk (w : World) (hL : laidMet Tryd.prog Rows.fnVisFromRow.laid w) (hS : w.ShapedOpen Tryd.prog) (A : Option Addr) (n cap : Nat) (bs : List Int) (hn : bs.length = n) (hm : n ≤ 9223372036854775807) (hr : Rd w w.heap.size A (bs.map (Value.int .u8))) (hw : ∀ x ∈ bs, (Lit.int .u8 x).wf = true) (hk : n ≤ cap) :
    Calls Tryd.prog 11 #[.slice A n cap] w fun e w' => e = .returned (.bool true) ∧ Below w.heap.size w w' := by
  have Hbs := Lib.hid (bytesOk_of hw); clear hw
  have Ht := Lib.hid (tab_third hL)
  have He := Lib.hid (errs_fifth hL); clear hL
  by_cases hb : n ≤ 1048576
  · have hnb : ¬ (1048576 : Int) < (n : Int) := by omega
    go_enter Tryd.func11, Tryd.ntmps11
    go_wp2_with fail
    refine (drawVisFrom_any A n cap bs w hn hm hk Hbs.out hr).mono ?_
    rintro e w1 ⟨l, rfl, hl1, B1⟩
    clear hr hn
    have hsz : (ByteArray.mk l.toArray).size = l.length := rfl
    go_wp2_with fail
    refine (visFrom_any l w1 (by omega) (Ht.out.ext B1) (He.out.ext B1) (shaped_ext hS B1)).mono ?_
    rintro e w2 ⟨n1, v1, vs, ok, rfl, R1, o1, b2⟩
    obtain ⟨A1, c1, rfl⟩ := own_form o1
    have hr1 := Rd.of_own o1
    have B2 := B1.trans (b2.mono B1.size)
    clear b2 o1
    go_wp2_with fail
    refine (sVisFrom_any l w2 (by omega)).mono ?_
    rintro e w3 ⟨n2, v2, vs2, ok2, rfl, R2, o2, b3⟩
    obtain ⟨e1, e2, e3⟩ := R2.uniq R1
    subst e1 e2 e3
    clear R2
    obtain ⟨A2, c2, rfl⟩ := own_form o2
    have hr2 := Rd.of_own o2
    have B3 := B2.trans (b3.mono B2.size)
    have extX := (hr1.below b3).more b3.size; clear hr1; have hr1 := extX; clear extX
    clear b3 o2
    obtain ⟨L, hLn⟩ : ∃ L, vs2.length = L := ⟨_, rfl⟩
    have hL21 : L ≤ 21 := by
      rcases R1 with ⟨_, h⟩ | ⟨_, _, rfl, _⟩
      · have := h.bd
        rcases bm_cases n2 with a | a | a | a | a | a | a <;> omega
      · simp at hLn; omega
    rw [hLn]
    have HL := Lib.hid hLn; clear hLn
    have hn2 : (n2 != n2) = false := by simp
    have hn3 : (n2 == n2) = true := by simp
    rcases R1 with ⟨rfl, hvi⟩ | ⟨rfl, rfl, rfl, hno⟩
    · obtain ⟨l', hl'⟩ := vis_end hvi
      have hlm : l.length = l'.length + 1 := by rw [hl']; simp
      have hp := vis_less hvi hl'
      have hx : (ByteArray.mk l.toArray).extract 0 l'.length = ⟨l'.toArray⟩ := by
        rw [extract_str, hl']
        congr 2
        simp [piece]
      have hvt := hvi.text
      have hvv := hvi.1
      have hl'2 : l'.length ≤ 3000 := by omega
      have Hvi := Lib.hid hvi; clear hvi
      have Hp := Lib.hid hp; clear hp
      have Hl' := Lib.hid hl'; clear hl'
      have Hvt := Lib.hid hvt; clear hvt
      have Hvv := Lib.hid hvv; clear hvv
      go_wp2_with fail
      refine (sameVis_any A1 A2 L L c1 c2 vs2 vs2 _ HL.out HL.out (by omega) hr1 hr2).mono ?_
      rintro e w4 ⟨rfl, b4⟩
      rw [decide_eq_true (rfl : vs2 = vs2)]
      have B4 := B3.trans (b4.mono B3.size)
      have extX := (hr1.below b4).more b4.size; clear hr1; have hr1 := extX; clear extX
      clear b4 hr2
      go_wp2_with fail
      refine (visFrom_any l' w4 (by omega) (Ht.out.ext B4) (He.out.ext B4) (shaped_ext hS B4)).mono ?_
      rintro e w5 ⟨n5, v5, vs5, ok5, rfl, R5, o5, b5⟩
      obtain ⟨e1, e2, e3⟩ := R5.uniq (show VisRes l' 0 [] false from .inr ⟨rfl, rfl, rfl, Hp.out⟩)
      subst e1 e2 e3
      obtain ⟨A5, c5, rfl⟩ := own_form o5
      have B5 := B4.trans (b5.mono B4.size)
      have extX := (hr1.below b5).more b5.size; clear hr1; have hr1 := extX; clear extX
      clear o5 b5 R5
      go_wp2_with fail
      refine (visValid_any n2 A1 L c1 vs2 _ HL.out (by omega) hr1).mono ?_
      rintro e w7 ⟨rfl, b7⟩
      rw [Hvv.out]
      have B7 := B5.trans (b7.mono B5.size)
      have extX := (hr1.below b7).more b7.size; clear hr1; have hr1 := extX; clear extX
      clear b7
      go_wp2_with fail
      refine (visText_any n2 A1 L c1 vs2 _ HL.out (by omega) hr1 (Ht.out.ext B7)).mono ?_
      rintro e w8 ⟨rfl, b8⟩
      rw [Hvt.out]
      go_wp2_with fail
      go_ret
      exact ⟨rfl, B7.trans (b8.mono B7.size)⟩
    · have HSv := Lib.hid (show ∀ w', Below w3.heap.size w3 w' → Calls Tryd.prog 33 #[.slice A1 L c1, .slice A2 L c2] w' fun e w'' => e = .returned (.bool true) ∧ Below w'.heap.size w' w'' from fun w' h => sameVis_any A1 A2 L L c1 c2 [] [] w' HL.out HL.out (by omega) (hr1.ext h) (hr2.ext h))
      clear hr1 hr2 hno
      go_wp2_with fail
      refine (HSv.out _ (Below.refl _ _)).mono ?_
      rintro e w4 ⟨rfl, b4⟩
      go_wp2_with fail
      refine (HSv.out _ b4).mono ?_
      rintro e w5 ⟨rfl, b5⟩
      go_wp2_with fail
      go_ret
      exact ⟨rfl, B3.trans ((b4.trans (b5.mono b4.size)).mono B3.size)⟩
  · have hnb : (1048576 : Int) < (n : Int) := by omega
    go_enter Tryd.func11, Tryd.ntmps11
    go_wp2_with fail
    go_ret
    exact ⟨rfl, Below.refl _ _⟩
end Go.Proofs.YtbadeopjfmafcaaDoor
