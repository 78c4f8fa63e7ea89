/- 'ObserveGrid' on both sides, at every input. -/
import Derived.Test.YtfandpgjlahnpaaGridI
namespace Go.Proofs.Ytfandpgjlahnpaa
open Go.RowKit

def gridR (ants seen : List (Int × Int)) : Option (List (Int × Int)) := if arrV ants && obsV ants.length seen then gridO ants seen else none
theorem gridR_no {ants seen : List (Int × Int)} (h : (arrV ants && obsV ants.length seen) = false) : gridR ants seen = none := by unfold gridR; rw [h]; rfl
theorem gridR_yes {ants seen : List (Int × Int)} (h1 : arrV ants = true) (h2 : obsV ants.length seen = true) : gridR ants seen = gridO ants seen := by unfold gridR; rw [h1, h2]; rfl
theorem gridR_is {ants seen g : List (Int × Int)} (h : gridR ants seen = some g) : arrV ants = true ∧ obsV ants.length seen = true ∧ gridO ants seen = some g := by
  unfold gridR at h
  split at h
  · rename_i hv
    rw [Bool.and_eq_true] at hv
    exact ⟨hv.1, hv.2, h⟩
  · cases h

/-- The result of a function that returns a grid and whether there is one. -/
def GridEnd (base : Nat) (r : Option (List (Int × Int))) (e : Ending) (w' : World) : Prop :=
  ∃ v, e = .returned (.tuple #[v, .bool r.isSome]) ∧ w'.ownsRow base 31 2 v (r.getD []).length ((r.getD []).flatMap pairCells)
theorem gridEnd_yes {base G : Nat} {g : List (Int × Int)} {w' : World} (hl : g.length = 16) (hG : base ≤ G) (h : Row w' G 31 (g.flatMap pairCells)) : GridEnd base (some g) (.returned (.tuple #[.slice (some ⟨G, 0, none⟩) 16 16, .bool true])) w' := by
  refine ⟨_, rfl, ?_⟩
  simp only [Option.getD_some]
  rw [hl]
  exact h.own hG (by rw [pairCells_len, hl]) (by unfold maxLen; omega)
theorem gridEnd_no {base E : Nat} {w' : World} (hG : base ≤ E) (h : Row w' E 31 []) : GridEnd base none (.returned (.tuple #[.slice (some ⟨E, 0, none⟩) 0 0, .bool false])) w' :=
  ⟨_, rfl, h.own hG rfl (by decide)⟩
theorem gridEnd_nil {base : Nat} {w' : World} : GridEnd base none (.returned (.tuple #[.slice none 0 0, .bool false])) w' := ⟨_, rfl, World.ownsRow_nil _ _ _ _⟩

set_option maxHeartbeats 1000000 in
theorem observeGrid_any (A B : Option Addr) (n ca m cb : Nat) (ants seen : List (Int × Int)) (w : World) (hn : ants.length = n) (hm : seen.length = m) (hk : n ≤ ca) (hnb : n ≤ 1048576) (hmb : m ≤ 1048576)
    (hr : Rd w w.heap.size A (ants.flatMap pairCells)) (hs : Rd w w.heap.size B (seen.flatMap pairCells)) :
    Calls Try.prog 35 #[.slice A n ca, .slice B m cb] w fun e w' => Below w.heap.size w w' ∧ GridEnd w.heap.size (gridR ants seen) e w' := by
  cases hA : arrV ants
  · rw [gridR_no (by rw [hA]; rfl)]
    have b0 : Below w.heap.size w ((((w.alloc (.cells #[.slice A n ca] 23)).alloc (.cells #[.slice B m cb] 55)).alloc (.cells #[.slice none 0 0] 55)).alloc (.cells #[.bool false] 4)) := bA3.alloc (by simp; omega) _
    have hr' := hr.ext b0
    have Hn := Lib.hid hn; clear hn
    have HA := Lib.hid hA; clear hA
    go_enter Try.func35, Try.ntmps35
    go_wp2_with fail
    have e4 := ((Boxed.new ((w.alloc (.cells #[.slice A n ca] 23)).alloc (.cells #[.slice B m cb] 55)) 55 (.slice none 0 0))).alloc (.cells #[.bool false] 4)
    have e5 := Boxed.new (((w.alloc (.cells #[.slice A n ca] 23)).alloc (.cells #[.slice B m cb] 55)).alloc (.cells #[.slice none 0 0] 55)) 4 (.bool false)
    simp only [World.size_alloc] at e4 e5
    refine (arrayValid_any A n ca ants _ Hn.out hk hnb hr').mono ?_
    rintro e w1 ⟨rfl, b1⟩
    rw [HA.out]
    have B1 := b0.trans (b1.mono b0.size)
    have e4 := boxed_ext e4 b1
    have e5 := boxed_ext e5 b1
    have c4 := e4.cell
    have c5 := e5.cell
    have d4 := e4.frozen
    have d5 := e5.frozen
    clear b1 b0
    go_wp2_with fail
    have p5 := (e5.kept (grownBy_setCell' w1 (w.heap.size + 1 + 1) (.slice none 0 0)) (by simp))
    have q5 := (p5.set (.bool false)).cell
    have q4 := ((e4.set (.slice none 0 0)).kept (grownBy_setCell' _ (w.heap.size + 1 + 1 + 1) (.bool false)) (by simp)).cell
    clear p5 e4 e5
    refine bodyPost_ret (v := .tuple #[.slice none 0 0, .bool false]) (by simp [results, Try.results35, go_sem, q4, q5]) rfl ⟨?_, gridEnd_nil⟩
    exact (B1.setCell (p := ⟨w.heap.size + 1 + 1, 0, none⟩) (by show w.heap.size ≤ w.heap.size + 1 + 1; omega) _).setCell (p := ⟨w.heap.size + 1 + 1 + 1, 0, none⟩) (by show w.heap.size ≤ w.heap.size + 1 + 1 + 1; omega) _
  · cases hO : obsV ants.length seen
    · rw [gridR_no (by rw [hA, hO]; rfl)]
      have b0 : Below w.heap.size w ((((w.alloc (.cells #[.slice A n ca] 23)).alloc (.cells #[.slice B m cb] 55)).alloc (.cells #[.slice none 0 0] 55)).alloc (.cells #[.bool false] 4)) := bA3.alloc (by simp; omega) _
      have hr' := hr.ext b0
      have hs' := hs.ext b0
      rw [hn] at hO
      have Hn := Lib.hid hn; clear hn
      have Hm := Lib.hid hm; clear hm
      have HA := Lib.hid hA; clear hA
      have HO := Lib.hid hO; clear hO
      go_enter Try.func35, Try.ntmps35
      go_wp2_with fail
      have e2 := (((Boxed.new w 23 (.slice A n ca)).alloc (.cells #[.slice B m cb] 55)).alloc (.cells #[.slice none 0 0] 55)).alloc (.cells #[.bool false] 4)
      have e3 := ((Boxed.new (w.alloc (.cells #[.slice A n ca] 23)) 55 (.slice B m cb)).alloc (.cells #[.slice none 0 0] 55)).alloc (.cells #[.bool false] 4)
      have e4 := ((Boxed.new ((w.alloc (.cells #[.slice A n ca] 23)).alloc (.cells #[.slice B m cb] 55)) 55 (.slice none 0 0))).alloc (.cells #[.bool false] 4)
      have e5 := Boxed.new (((w.alloc (.cells #[.slice A n ca] 23)).alloc (.cells #[.slice B m cb] 55)).alloc (.cells #[.slice none 0 0] 55)) 4 (.bool false)
      simp only [World.size_alloc] at e3 e4 e5
      refine (arrayValid_any A n ca ants _ Hn.out hk hnb hr').mono ?_
      rintro e w1 ⟨rfl, b1⟩
      rw [HA.out]
      have B1 := b0.trans (b1.mono b0.size)
      have extX := (hs'.below b1).more b1.size; clear hs'; have hs' := extX; clear extX
      have e2 := boxed_ext e2 b1
      have e3 := boxed_ext e3 b1
      have e4 := boxed_ext e4 b1
      have e5 := boxed_ext e5 b1
      have c2 := e2.cell
      have c3 := e3.cell
      clear b1 b0
      go_wp2_with fail
      refine (isObservation_any n B m cb seen _ Hm.out (by omega) hs').mono ?_
      rintro e w2 ⟨rfl, b2⟩
      rw [HO.out]
      have B2 := B1.trans (b2.mono B1.size)
      have e4 := boxed_ext e4 b2
      have e5 := boxed_ext e5 b2
      clear c2 c3
      have c4 := e4.cell
      have c5 := e5.cell
      have d4 := e4.frozen
      have d5 := e5.frozen
      clear b2
      go_wp2_with fail
      have p5 := (e5.kept (grownBy_setCell' w2 (w.heap.size + 1 + 1) (.slice none 0 0)) (by simp))
      have q5 := (p5.set (.bool false)).cell
      have q4 := ((e4.set (.slice none 0 0)).kept (grownBy_setCell' _ (w.heap.size + 1 + 1 + 1) (.bool false)) (by simp)).cell
      clear p5 e4 e5
      refine bodyPost_ret (v := .tuple #[.slice none 0 0, .bool false]) (by simp [results, Try.results35, go_sem, q4, q5]) rfl ⟨?_, gridEnd_nil⟩
      exact (B2.setCell (p := ⟨w.heap.size + 1 + 1, 0, none⟩) (by show w.heap.size ≤ w.heap.size + 1 + 1; omega) _).setCell (p := ⟨w.heap.size + 1 + 1 + 1, 0, none⟩) (by show w.heap.size ≤ w.heap.size + 1 + 1 + 1; omega) _
    · rw [gridR_yes hA hO]
      rw [hn] at hO
      refine (observeGrid_yes A B n ca m cb ants seen w hn hm hk hA hO hr hs).mono ?_
      rintro e w' ⟨hb, ⟨g, hg, G, rfl, hG, hrow⟩ | ⟨hno, rfl⟩⟩
      · rw [hg]
        exact ⟨hb, gridEnd_yes (gridO_is hg).1 hG hrow⟩
      · rw [hno]
        exact ⟨hb, gridEnd_nil⟩

set_option maxHeartbeats 1000000 in
theorem sObserveGrid_all (A B : Option Addr) (n ca m cb : Nat) (ants seen : List (Int × Int)) (w : World) (hn : ants.length = n) (hm : seen.length = m) (hnb : n ≤ 1048576) (hmb : m ≤ 1048576)
    (hr : Rd w w.heap.size A (ants.flatMap pairCells)) (hs : Rd w w.heap.size B (seen.flatMap pairCells)) :
    Calls Try.prog 32 #[.slice A n ca, .slice B m cb] w fun e w' => Below w.heap.size w w' ∧ GridEnd w.heap.size (gridR ants seen) e w' := by
  cases hA : arrV ants
  · rw [gridR_no (by rw [hA]; rfl)]
    have Hn := Lib.hid hn; clear hn
    have HA := Lib.hid hA; clear hA
    go_enter Try.func32, Try.ntmps32
    go_wp2_with fail
    refine (sArrayValid_any A n ca ants _ Hn.out hnb hr).mono ?_
    rintro e w1 ⟨rfl, b1⟩
    rw [HA.out]
    go_wp2_with fail
    refine bodyPost_ret (v := .tuple #[.slice (some ⟨w1.heap.size, 0, none⟩) 0 0, .bool false]) (by simp [results, Try.results32, go_sem]) rfl ⟨b1.alloc b1.size _, gridEnd_no b1.size (Row.new w1 _ [])⟩
  · cases hO : obsV ants.length seen
    · rw [gridR_no (by rw [hA, hO]; rfl)]
      rw [hn] at hO
      have Hn := Lib.hid hn; clear hn
      have Hm := Lib.hid hm; clear hm
      have HA := Lib.hid hA; clear hA
      have HO := Lib.hid hO; clear hO
      go_enter Try.func32, Try.ntmps32
      go_wp2_with fail
      refine (sArrayValid_any A n ca ants _ Hn.out hnb hr).mono ?_
      rintro e w1 ⟨rfl, b1⟩
      rw [HA.out]
      go_wp2_with fail
      refine (l43Ok_any n B m cb seen _ Hm.out (by omega) (hs.ext b1)).mono ?_
      rintro e w2 ⟨rfl, b2⟩
      rw [HO.out]
      have B2 := b1.trans (b2.mono b1.size)
      go_wp2_with fail
      refine bodyPost_ret (v := .tuple #[.slice (some ⟨w2.heap.size, 0, none⟩) 0 0, .bool false]) (by simp [results, Try.results32, go_sem]) rfl ⟨B2.alloc B2.size _, gridEnd_no B2.size (Row.new w2 _ [])⟩
    · rw [gridR_yes hA hO]
      rw [hn] at hO
      refine (sObserveGrid_any A B n ca m cb ants seen w hn hm hA hO hr hs).mono ?_
      rintro e w' ⟨hb, ⟨g, hg, G, rfl, hG, hrow⟩ | ⟨hno, E, rfl, hE, hrow⟩⟩
      · rw [hg]
        exact ⟨hb, gridEnd_yes (gridO_is hg).1 hG hrow⟩
      · rw [hno]
        exact ⟨hb, gridEnd_no hE hrow⟩
end Go.Proofs.Ytfandpgjlahnpaa
