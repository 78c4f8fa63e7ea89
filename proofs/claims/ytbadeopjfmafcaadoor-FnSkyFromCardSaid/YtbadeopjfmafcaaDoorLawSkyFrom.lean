/- FnSkyFrom returns true at every input, and leaves what was there. -/
import Derived.Test.YtbadeopjfmafcaaDoorSkyFr
import Derived.Test.YtbadeopjfmafcaaDoorSkyFs
import Derived.Test.YtbadeopjfmafcaaDoorDrawF
import Derived.Test.YtbadeopjfmafcaaDoorTied
namespace Go.Proofs.YtbadeopjfmafcaaDoor
open Go.RowKit

/-- A sky's text without its end, or with a blank more, is none. -/
theorem read_less {l l' : List UInt8} {x : List Int} (h : readSky l = some x) (hl : l = l' ++ [10]) : readSky l' = none := by
  obtain ⟨_, h2⟩ := readSky_some.1 h
  refine readSky_none fun y _ hy => ?_
  have c1 := (skyB_count x).1
  have c2 := (skyB_count y).1
  rw [← h2, hl, hy, List.count_append, c2] at c1
  simp at c1
theorem read_more {l : List UInt8} {x : List Int} (h : readSky l = some x) : readSky (l ++ [32]) = none := by
  obtain ⟨_, h2⟩ := readSky_some.1 h
  refine readSky_none fun y _ hy => ?_
  have c1 := (skyB_count x).2
  have c2 := (skyB_count y).2
  rw [← hy, h2, List.count_append, c1] at c2
  simp at c2
theorem read_end {l : List UInt8} {x : List Int} (h : readSky l = some x) : ∃ l', l = l' ++ [10] := by
  obtain ⟨_, h2⟩ := readSky_some.1 h
  exact ⟨skyB x 15 ++ Lib.itoa (x.getD 15 0), by rw [h2, skyB_succ, List.append_assoc]; rfl⟩

set_option maxRecDepth 100000 in
set_option maxHeartbeats 1000000 in
theorem FnSkyFrom_walk (w : World) (hL : laidMet Tryd.prog Rows.fnSkyFromRow.laid w) (A : Option Addr) (n cap : Nat) (bs : List Int) (hn : bs.length = n) (hm : n ≤ 9223372036854775807) (hr : Rd w w.heap.size A (bs.map (Value.int .u8))) (hw : ∀ x ∈ bs, (Lit.int .u8 x).wf = true) (hk : n ≤ cap) :
    Calls Tryd.prog 8 #[.slice A n cap] w fun e w' => e = .returned (.bool true) ∧ Below w.heap.size w w' := by
  have Hbs := Lib.hid (bytesOk_of hw); clear hw
  have Ht := Lib.hid (tab_third hL)
  have He := Lib.hid (errs_fourth hL); clear hL
  by_cases hb : n ≤ 1048576
  · have hnb : ¬ (1048576 : Int) < (n : Int) := by omega
    go_enter Tryd.func8, Tryd.ntmps8
    go_wp2_with fail
    refine (drawSkyFrom_any A n cap bs w hn hm hk Hbs.out hr).mono ?_
    rintro e w1 ⟨l, rfl, hl1, B1⟩
    clear hr hn
    have hsz : (ByteArray.mk l.toArray).size = l.length := rfl
    go_wp2_with fail
    refine (skyFrom_any l w1 (by omega) (Ht.out.ext B1) (He.out.ext B1)).mono ?_
    rintro e w2 ⟨v1, rfl, o1, b2⟩
    obtain ⟨A1, c1, rfl⟩ := own_form o1
    have hr1 := Rd.of_own o1
    have B2 := B1.trans (b2.mono B1.size)
    clear b2 o1
    go_wp2_with fail
    refine (sSkyFrom_any l w2 (by omega)).mono ?_
    rintro e w3 ⟨v2, rfl, o2, b3⟩
    obtain ⟨A2, c2, rfl⟩ := own_form o2
    have hr2 := Rd.of_own o2
    have B3 := B2.trans (b3.mono B2.size)
    have extX := (hr1.below b3).more b3.size; clear hr1; have hr1 := extX; clear extX
    clear b3 o2
    cases hrd : readSky l with
    | none =>
      simp only [hrd, Option.getD_none, Option.isSome_none, List.length_nil] at hr1 hr2 ⊢
      have HS := Lib.hid (show ∀ w', Below w3.heap.size w3 w' → Calls Tryd.prog 25 #[.slice A1 0 c1, .slice A2 0 c2] w' fun e w'' => e = .returned (.bool true) ∧ Below w'.heap.size w' w'' from fun w' h => sameInts_any A1 A2 0 0 c1 c2 [] [] w' rfl rfl (by omega) (hr1.ext h) (hr2.ext h))
      clear hr1 hr2 hrd
      go_wp2_with fail
      refine (HS.out _ (Below.refl _ _)).mono ?_
      rintro e w4 ⟨rfl, b4⟩
      go_wp2_with fail
      refine (HS.out _ b4).mono ?_
      rintro e w5 ⟨rfl, b5⟩
      go_wp2_with fail
      go_ret
      exact ⟨rfl, B3.trans ((b4.trans (b5.mono b4.size)).mono B3.size)⟩
    | some x =>
      have hxv : skyV x = true := (readSky_some.1 hrd).1
      have hxt : skyStr x = l := by rw [skyStr_yes hxv]; exact (readSky_some.1 hrd).2.symm
      have hx16 := skyV_len hxv
      simp only [hrd, Option.getD_some, Option.isSome_some] at hr1 hr2 ⊢
      rw [hx16]
      obtain ⟨l', hl'⟩ := read_end hrd
      have hlm : l.length = l'.length + 1 := by rw [hl']; simp
      have hp := read_less hrd hl'
      have hq := read_more hrd
      have hx : (ByteArray.mk l.toArray).extract 0 l'.length = ⟨l'.toArray⟩ := by
        rw [extract_str, hl']
        congr 2
        simp [piece]
      have happ : (ByteArray.mk l.toArray ++ ByteArray.mk #[32] : ByteArray) = ⟨(l ++ [32]).toArray⟩ := str_app l [32]
      obtain ⟨M, hM⟩ : ∃ M, l ++ [32] = M := ⟨_, rfl⟩
      rw [hM] at happ hq
      have hMl : M.length ≤ 1001 := by rw [← hM]; simp; omega
      have Hp := Lib.hid hp; clear hp
      have Hq := Lib.hid hq; clear hq
      have Hrd := Lib.hid hrd; clear hrd
      have Hl' := Lib.hid hl'; clear hl'
      have HM := Lib.hid hM; clear hM
      have Hxv := Lib.hid hxv; clear hxv
      have Hx16 := Lib.hid hx16; clear hx16
      go_wp2_with fail
      refine (sameInts_any A1 A2 16 16 c1 c2 x x _ Hx16.out Hx16.out (by omega) hr1 hr2).mono ?_
      rintro e w4 ⟨rfl, b4⟩
      rw [decide_eq_true (rfl : x = x)]
      have B4 := B3.trans (b4.mono B3.size)
      have extX := (hr1.below b4).more b4.size; clear hr1; have hr1 := extX; clear extX
      clear b4 hr2
      have Hxt := Lib.hid hxt; clear hxt
      have hl'2 : l'.length ≤ 1000 := by omega
      go_wp2_with fail
      refine (skyFrom_any l' w4 (by omega) (Ht.out.ext B4) (He.out.ext B4)).mono ?_
      rintro e w5 ⟨v5, rfl, o5, b5⟩
      obtain ⟨A5, c5, rfl⟩ := own_form o5
      have B5 := B4.trans (b5.mono B4.size)
      have extX := (hr1.below b5).more b5.size; clear hr1; have hr1 := extX; clear extX
      clear o5 b5
      rw [Hp.out, Option.isSome_none]
      go_wp2_with fail
      refine (skyFrom_any M w5 (by omega) (Ht.out.ext B5) (He.out.ext B5)).mono ?_
      rintro e w6 ⟨v6, rfl, o6, b6⟩
      obtain ⟨A6, c6, rfl⟩ := own_form o6
      have B6 := B5.trans (b6.mono B5.size)
      have extX := (hr1.below b6).more b6.size; clear hr1; have hr1 := extX; clear extX
      clear o6 b6
      rw [Hq.out, Option.isSome_none]
      go_wp2_with fail
      refine (skyValid_any A1 16 c1 x _ Hx16.out (by omega) hr1).mono ?_
      rintro e w7 ⟨rfl, rfl⟩
      rw [Hxv.out]
      go_wp2_with fail
      refine (skyText_any A1 16 c1 x _ Hx16.out (by omega) hr1 (Ht.out.ext B6)).mono ?_
      rintro e w8 ⟨rfl, b8⟩
      rw [Hxt.out]
      go_wp2_with fail
      go_ret
      exact ⟨rfl, B6.trans (b8.mono B6.size)⟩
  · have hnb : (1048576 : Int) < (n : Int) := by omega
    go_enter Tryd.func8, Tryd.ntmps8
    go_wp2_with fail
    go_ret
    exact ⟨rfl, Below.refl _ _⟩
end Go.Proofs.YtbadeopjfmafcaaDoor
