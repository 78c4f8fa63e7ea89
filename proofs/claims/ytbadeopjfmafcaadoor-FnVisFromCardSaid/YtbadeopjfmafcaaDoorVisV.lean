/- Visibilities in range: the program's VisValid and the reference's. -/
import Derived.Test.YtbadeopjfmafcaaDoorTxtV
import Derived.Test.YtbadeopjfmafcaaDoorA3
namespace Go.Proofs.YtbadeopjfmafcaaDoor
open Go.RowKit

theorem isPhase_any (a : Int) (w : World) : Calls Tryd.prog 86 #[.int .i64 a] w fun e w' => e = .returned (.bool (inR a 0 359)) ∧ w = w' := by
  by_cases h1 : 0 ≤ a
  · by_cases h2 : a < 360
    · rw [inR_iff.2 ⟨h1, by omega⟩]
      go_enter Tryd.func86, Tryd.ntmps86
      go_wp2_with fail
      go_ret
      exact ⟨rfl, rfl⟩
    · rw [inR_no.2 (by omega)]
      go_enter Tryd.func86, Tryd.ntmps86
      go_wp2_with fail
      go_ret
      exact ⟨rfl, rfl⟩
  · rw [inR_no.2 (by omega)]
    go_enter Tryd.func86, Tryd.ntmps86
    go_wp2_with fail
    go_ret
    exact ⟨rfl, rfl⟩

theorem all_take_succ {α : Type} (p : α → Bool) (l : List α) (k : Nat) (x : α) (hx : l[k]? = some x) (h : (l.take k).all p = true) (hp : p x = true) : (l.take (k + 1)).all p = true := by
  rw [List.take_add_one, hx, List.all_append, h]
  simp [hp]
theorem all_no {α : Type} (p : α → Bool) (l : List α) (k : Nat) (x : α) (hx : l[k]? = some x) (hp : p x = false) : l.all p = false := by
  rw [List.all_eq_false]
  exact ⟨x, List.mem_of_getElem? hx, by rw [hp]; simp⟩

set_option maxRecDepth 100000 in
set_option maxHeartbeats 1000000 in
theorem visInRange_any (A : Option Addr) (n cap : Nat) (vs : List (Int × Int)) (w : World) (hn : vs.length = n) (hm : n ≤ 1000000000) (hr : Rd w w.heap.size A (vs.flatMap pairCells)) :
    Calls Tryd.prog 72 #[.slice A n cap, .int .i64 1000000] w fun e w' => e = .returned (.bool (vs.all visOk)) ∧ Below w.heap.size w w' := by
  have Hn := Lib.hid hn; clear hn
  go_enter Tryd.func72, Tryd.ntmps72
  go_wp2_with fail
  go_loopw [9] (fun i wr => ∃ k : Nat, k ≤ n ∧ i = .int .i64 k ∧ (vs.take k).all visOk = true ∧ Below w.heap.size w wr) (fun i _ => n - (intOf i).toNat)
  case atStart => exact ⟨0, by omega, rfl, rfl, Below.refl _ _⟩
  case round =>
    obtain ⟨k, hk, rfl, hall, hbel⟩ := hrel
    have hbs := hbel.size
    have hr' := hr.below hbel
    have Hbel := Lib.hid hbel; clear hbel
    have Hall := Lib.hid hall; clear hall
    by_cases hlt : k < n
    · obtain ⟨g, hg⟩ : ∃ g, vs[k]? = some g := ⟨_, List.getElem?_eq_getElem (by rw [Hn.out]; exact hlt)⟩
      obtain ⟨b, off, rfl, hb, hc1, hc2⟩ := rd_pair hr' hg
      have hlt2 : b < wr.heap.size := by omega
      obtain ⟨a, p⟩ := g
      dsimp only at hc1 hc2
      have Hg := Lib.hid hg; clear hg
      clear hr' hr
      have HB := Lib.hid (Hbel.out.alloc hbs (.cells #[.int .i64 a, .int .i64 p] 70))
      by_cases h1 : a < 1
      · have hno : visOk (a, p) = false := by unfold visOk; rw [inR_no.2 (by omega)]; rfl
        go_wp2_with fail
        go_ret
        exact ⟨ret_bool (all_no visOk vs k _ Hg.out hno).symm, HB.out⟩
      · by_cases h2 : 1000000 < a
        · have hno : visOk (a, p) = false := by unfold visOk; rw [inR_no.2 (by omega)]; rfl
          go_wp2_with fail
          go_ret
          exact ⟨ret_bool (all_no visOk vs k _ Hg.out hno).symm, HB.out⟩
        · go_wp2_with fail
          refine (isPhase_any p _).mono ?_
          rintro e w1 ⟨rfl, rfl⟩
          have hok : visOk (a, p) = inR p 0 359 := by unfold visOk; rw [inR_iff.2 ⟨by omega, by omega⟩]; rfl
          cases hv : inR p 0 359
          · rw [hv] at hok
            have Hv := Lib.hid hv; clear hv
            have Hok := Lib.hid hok; clear hok
            go_wp2_with fail
            go_ret
            exact ⟨ret_bool (all_no visOk vs k _ Hg.out Hok.out).symm, HB.out⟩
          · rw [hv] at hok
            have Hv := Lib.hid hv; clear hv
            have Hok := Lib.hid hok; clear hok
            go_wp2_with fail
            go_roundw
            case measure => simp [intOf]; omega
            case rel => exact ⟨k + 1, by omega, by go_num, all_take_succ visOk vs k _ Hg.out Hall.out Hok.out, HB.out⟩
    · obtain rfl : k = n := by omega
      go_wp2_with fail
      go_ret
      refine ⟨ret_bool ?_, Hbel.out⟩
      rw [← Hall.out, List.take_of_length_le (by rw [Hn.out]; exact Nat.le_refl _)]
theorem visValid_any (n : Int) (A : Option Addr) (m cap : Nat) (vs : List (Int × Int)) (w : World) (hn : vs.length = m) (hm : m ≤ 1000000000) (hr : Rd w w.heap.size A (vs.flatMap pairCells)) :
    Calls Tryd.prog 39 #[.int .i64 n, .slice A m cap] w fun e w' => e = .returned (.bool (visV n vs)) ∧ Below w.heap.size w w' := by
  have Hn := Lib.hid hn; clear hn
  cases h1 : inR n 2 7
  · have H1 := Lib.hid h1; clear h1
    go_enter Tryd.func39, Tryd.ntmps39
    go_wp2_with fail
    refine (isMany_any _ _).mono ?_
    rintro e w' ⟨rfl, rfl⟩
    rw [H1.out]
    go_wp2_with fail
    go_ret
    exact ⟨ret_bool (by unfold visV; rw [H1.out]; rfl), Below.refl _ _⟩
  · have H1 := Lib.hid h1; clear h1
    by_cases h2 : (m : Int) = bm n
    · have hb : ((m : Int) == bm n) = true := beq_iff_eq.2 h2
      have H2 := Lib.hid h2; clear h2
      go_enter Tryd.func39, Tryd.ntmps39
      go_wp2_with fail
      refine (isMany_any _ _).mono ?_
      rintro e w' ⟨rfl, rfl⟩
      rw [H1.out]
      go_wp2_with fail
      refine (baseMany_any _ _).mono ?_
      rintro e w' ⟨rfl, rfl⟩
      go_wp2_with fail
      refine (visInRange_any A m cap vs _ Hn.out hm hr).mono ?_
      rintro e w1 ⟨rfl, hb1⟩
      go_wp2_with fail
      go_ret
      exact ⟨ret_bool (by unfold visV; rw [H1.out, Hn.out, decide_eq_true H2.out]; rfl), hb1⟩
    · have hb : ((m : Int) == bm n) = false := beq_eq_false_iff_ne.2 h2
      have H2 := Lib.hid h2; clear h2
      go_enter Tryd.func39, Tryd.ntmps39
      go_wp2_with fail
      refine (isMany_any _ _).mono ?_
      rintro e w' ⟨rfl, rfl⟩
      rw [H1.out]
      go_wp2_with fail
      refine (baseMany_any _ _).mono ?_
      rintro e w' ⟨rfl, rfl⟩
      go_wp2_with fail
      go_ret
      exact ⟨ret_bool (by unfold visV; rw [H1.out, Hn.out, decide_eq_false H2.out]; rfl), Below.refl _ _⟩

theorem l2Phase_any (a : Int) (w : World) : Calls Tryd.prog 77 #[.int .i64 a] w fun e w' => e = .returned (.bool (inR a 0 359)) ∧ w = w' := by
  go_enter Tryd.func77, Tryd.ntmps77
  go_wp2_with fail
  refine (l6In_any _ _ _ _).mono ?_
  rintro e w' ⟨rfl, rfl⟩
  go_wp2_with fail
  go_ret
  exact ⟨rfl, rfl⟩
theorem visV_no {n : Int} {vs : List (Int × Int)} (h : bm n = 0 ∨ (vs.length : Int) ≠ bm n) : visV n vs = false := by
  cases hv : visV n vs
  · rfl
  · obtain ⟨h1, h2, _⟩ := visV_iff.1 hv
    rcases h with h | h
    · rcases bm_cases n with h | h | h | h | h | h | h <;> omega
    · exact absurd h2 h
theorem visV_in {n : Int} {vs : List (Int × Int)} (h1 : bm n ≠ 0) (h2 : (vs.length : Int) = bm n) : visV n vs = vs.all visOk := by
  have : inR n 2 7 = true := inR_iff.2 (by rcases bm_cases n with h | h | h | h | h | h | h <;> omega)
  unfold visV
  rw [this, decide_eq_true h2]; rfl

set_option maxRecDepth 100000 in
set_option maxHeartbeats 1000000 in
theorem sVisValid_any (n : Int) (A : Option Addr) (m cap : Nat) (vs : List (Int × Int)) (w : World) (hn : vs.length = m) (hm : m ≤ 1000000000) (hr : Rd w w.heap.size A (vs.flatMap pairCells)) :
    Calls Tryd.prog 50 #[.int .i64 n, .slice A m cap] w fun e w' => e = .returned (.bool (visV n vs)) ∧ w = w' := by
  have Hn := Lib.hid hn; clear hn
  by_cases h1 : bm n = 0
  · have hb : (bm n == 0) = true := beq_iff_eq.2 h1
    have H1 := Lib.hid h1; clear h1
    go_enter Tryd.func50, Tryd.ntmps50
    go_wp2_with fail
    refine (sBaseMany_any _ _).mono ?_
    rintro e w' ⟨rfl, rfl⟩
    go_wp2_with fail
    go_ret
    exact ⟨ret_bool (visV_no (.inl H1.out)).symm, rfl⟩
  · have hb : (bm n == 0) = false := beq_eq_false_iff_ne.2 h1
    have H1 := Lib.hid h1; clear h1
    by_cases h2 : (m : Int) = bm n
    · have hb2 : ((m : Int) != bm n) = false := by rw [bne_eq_false_iff_eq]; exact h2
      have Hvv := Lib.hid (visV_in H1.out (by rw [Hn.out]; exact h2))
      have H2 := Lib.hid h2; clear h2
      go_enter Tryd.func50, Tryd.ntmps50
      go_wp2_with fail
      refine (sBaseMany_any _ _).mono ?_
      rintro e w' ⟨rfl, rfl⟩
      go_wp2_with fail
      refine (sBaseMany_any _ _).mono ?_
      rintro e w' ⟨rfl, rfl⟩
      go_wp2_with fail
      go_loopw [5] (fun i wr => ∃ k : Nat, k ≤ m ∧ i = .int .i64 k ∧ (vs.take k).all visOk = true ∧ w = wr) (fun i _ => m - (intOf i).toNat)
      case atStart => exact ⟨0, by omega, rfl, rfl, rfl⟩
      case round =>
        obtain ⟨k, hk, rfl, hall, rfl⟩ := hrel
        have Hall := Lib.hid hall; clear hall
        by_cases hlt : k < m
        · obtain ⟨g, hg⟩ : ∃ g, vs[k]? = some g := ⟨_, List.getElem?_eq_getElem (by rw [Hn.out]; exact hlt)⟩
          obtain ⟨b, off, rfl, hbb, hc1, hc2⟩ := rd_pair hr hg
          obtain ⟨a, p⟩ := g
          dsimp only at hc1 hc2
          have Hg := Lib.hid hg; clear hg
          have hok : visOk (a, p) = (inR a 1 1000000 && inR p 0 359) := rfl
          have Hok := Lib.hid hok; clear hok
          go_wp2_with fail
          refine (l6In_any _ _ _ _).mono ?_
          rintro e w' ⟨rfl, rfl⟩
          cases h1 : inR a 1 1000000
          · have Hx := Lib.hid h1; clear h1
            go_wp2_with fail
            go_ret
            exact ⟨ret_bool (by rw [Hvv.out]; exact (all_no visOk vs k _ Hg.out (by rw [Hok.out, Hx.out]; rfl)).symm), rfl⟩
          · have Hx := Lib.hid h1; clear h1
            go_wp2_with fail
            refine (l2Phase_any _ _).mono ?_
            rintro e w' ⟨rfl, rfl⟩
            cases h2 : inR p 0 359
            · have Hy := Lib.hid h2; clear h2
              go_wp2_with fail
              go_ret
              exact ⟨ret_bool (by rw [Hvv.out]; exact (all_no visOk vs k _ Hg.out (by rw [Hok.out, Hx.out, Hy.out]; rfl)).symm), rfl⟩
            · have Hy := Lib.hid h2; clear h2
              go_wp2_with fail
              go_roundw
              case measure => simp [intOf]; omega
              case rel => exact ⟨k + 1, by omega, by go_num, all_take_succ visOk vs k _ Hg.out Hall.out (by rw [Hok.out, Hx.out, Hy.out]; rfl), by first | rfl | trivial⟩
        · obtain rfl : k = m := by omega
          go_wp2_with fail
          go_ret
          refine ⟨ret_bool ?_, rfl⟩
          rw [Hvv.out, ← Hall.out, List.take_of_length_le (by rw [Hn.out]; exact Nat.le_refl _)]
    · have hb2 : ((m : Int) != bm n) = true := by rw [bne_iff_ne]; exact h2
      have H2 := Lib.hid h2; clear h2
      go_enter Tryd.func50, Tryd.ntmps50
      go_wp2_with fail
      refine (sBaseMany_any _ _).mono ?_
      rintro e w' ⟨rfl, rfl⟩
      go_wp2_with fail
      refine (sBaseMany_any _ _).mono ?_
      rintro e w' ⟨rfl, rfl⟩
      go_wp2_with fail
      go_ret
      exact ⟨ret_bool (visV_no (.inr (by rw [Hn.out]; exact H2.out))).symm, rfl⟩
end Go.Proofs.YtbadeopjfmafcaaDoor
