/- 'impl.ObserveTurn' at every input. -/
import Derived.Test.YtcllkocmnohnkaaTurn
import Derived.Deep.Onto
namespace Go.Proofs.Ytcllkocmnohnkaa
open Go.RowKit

def allQ (q : List Int) : Bool := q.all fun x => inR x 0 3

theorem areQuarters_any (B : Option Addr) (n cap : Nat) (q : List Int) (w : World) (hn : q.length = n) (hm : n ≤ 1000000000) (hr : Rd w w.heap.size B (q.map (Value.int .i64))) :
    Calls Try.prog 135 #[.slice B n cap] w fun e w' => e = .returned (.bool (allQ q)) ∧ w = w' := by
  have Hn := Lib.hid hn; clear hn
  go_enter Try.func135, Try.ntmps135
  go_wp2_with fail
  go_loop [7] (fun i => ∃ k : Nat, k ≤ n ∧ i = .int .i64 k ∧ allQ (q.take k) = true) (fun i => n - (intOf i).toNat)
  case atStart => exact ⟨0, by omega, rfl, rfl⟩
  case round =>
    obtain ⟨k, hk, rfl, hall⟩ := hrel
    have Ha := Lib.hid hall; clear hall
    by_cases hlt : k < n
    · obtain ⟨x, hx⟩ : ∃ x, q[k]? = some x := ⟨_, List.getElem?_eq_getElem (by rw [Hn.out]; exact hlt)⟩
      obtain ⟨b, off, rfl, hb, hc⟩ := hr k (.int .i64 x) (by rw [List.getElem?_map, hx]; rfl)
      have Hx := Lib.hid hx; clear hx
      by_cases h0 : x < 0
      · have d0 : decide (x < 0) = true := decide_eq_true h0
        go_wp2_with fail
        go_ret
        refine ⟨ret_bool ?_, rfl⟩
        symm
        unfold allQ
        rw [List.all_eq_false]
        exact ⟨x, List.mem_of_getElem? Hx.out, by rw [inR_iff]; omega⟩
      · have d0 : decide (x < 0) = false := decide_eq_false h0
        by_cases h3 : x > 3
        · have d3 : decide (3 < x) = true := decide_eq_true h3
          go_wp2_with fail
          go_ret
          refine ⟨ret_bool ?_, rfl⟩
          symm
          unfold allQ
          rw [List.all_eq_false]
          exact ⟨x, List.mem_of_getElem? Hx.out, by rw [inR_iff]; omega⟩
        · have d3 : decide (3 < x) = false := decide_eq_false h3
          go_wp2_with fail
          go_round
          case measure => simp [intOf]; omega
          case rel =>
            refine ⟨k + 1, by omega, by go_num, ?_⟩
            rw [List.take_add_one, Hx.out]
            unfold allQ
            rw [List.all_append]
            have := Ha.out
            unfold allQ at this
            rw [this]
            simp [inR_iff]; omega
    · obtain rfl : k = n := by omega
      go_wp2_with fail
      go_ret
      refine ⟨ret_bool ?_, rfl⟩
      rw [← Ha.out, List.take_of_length_le (by rw [Hn.out]; exact Nat.le_refl _)]

/-- What can be turned, and what comes out. -/
def turnOK (n : Int) (gs : List (Int × Int)) (q : List Int) : Bool := obsV n gs && (decide ((q.length : Int) = n) && allQ q)
def turnR (n : Int) (gs : List (Int × Int)) (q : List Int) : List (Int × Int) := if turnOK n gs q then turnedOf gs q (pairsN n.toNat) else []
theorem obsV_of {n : Int} {gs : List (Int × Int)} (h : obsV n gs = true) : ∃ k : Nat, n = k ∧ 2 ≤ k ∧ k ≤ 7 ∧ gs.length = (pairsN k).length ∧ gs.length ≤ 21 ∧ allV gs = true := by
  unfold obsV at h
  rw [Bool.and_eq_true, Bool.and_eq_true, inR_iff, decide_eq_true_eq] at h
  obtain ⟨⟨h2, h7⟩, hl, hv⟩ := h
  refine ⟨n.toNat, by omega, by omega, by omega, ?_, ?_, hv⟩
  · have := bm_pairs n.toNat (by omega) (by omega)
    rw [show ((n.toNat : Nat) : Int) = n from by omega] at this
    omega
  · have := bm_le n; omega

theorem observeTurn_any (n : Int) (A B : Option Addr) (m capA k capB : Nat) (gs : List (Int × Int)) (q : List Int) (w : World) (hn : gs.length = m) (hk : q.length = k) (hm : m ≤ 1000000000) (hkm : k ≤ 1000000000)
    (hr : Rd w w.heap.size A (gs.flatMap pairCells)) (hr2 : Rd w w.heap.size B (q.map (Value.int .i64))) :
    Calls Try.prog 54 #[.int .i64 n, .slice A m capA, .slice B k capB] w fun e w' =>
      ∃ v, e = .returned (.tuple #[v, .bool (turnOK n gs q)]) ∧ w'.ownsRow w.heap.size 49 2 v (turnR n gs q).length ((turnR n gs q).flatMap pairCells) ∧ Below w.heap.size w w' := by
  have Hn := Lib.hid hn; clear hn
  have Hk := Lib.hid hk; clear hk
  cases h1 : obsV n gs
  · have H1 := Lib.hid h1; clear h1
    have e1 : turnOK n gs q = false := by unfold turnOK; rw [H1.out]; rfl
    have e2 : turnR n gs q = [] := by unfold turnR; rw [e1]; rfl
    rw [e1, e2]
    clear e1 e2
    go_enter Try.func54, Try.ntmps54
    go_wp2_with fail
    refine (isObservation_any n A m capA gs _ Hn.out hm hr).mono ?_
    rintro e w1 ⟨rfl, hb1⟩
    rw [H1.out]
    go_wp2_with fail
    refine bodyPost_ret (by simp [results, Try.results54, go_sem]; rfl) rfl ⟨_, rfl, ?_, hb1⟩
    exact World.ownsRow_nil _ _ _ _
  · have H1 := Lib.hid h1; clear h1
    by_cases h2 : (k : Int) = n
    · have hb : ((k : Int) != n) = false := by simp [h2]
      cases h3 : allQ q
      · have e1 : turnOK n gs q = false := by unfold turnOK; rw [h3]; simp
        have e2 : turnR n gs q = [] := by unfold turnR; rw [e1]; rfl
        rw [e1, e2]
        clear e1 e2
        have H3 := Lib.hid h3; clear h3
        have H2 := Lib.hid h2; clear h2
        go_enter Try.func54, Try.ntmps54
        go_wp2_with fail
        refine (isObservation_any n A m capA gs _ Hn.out hm hr).mono ?_
        rintro e w1 ⟨rfl, hb1⟩
        rw [H1.out]
        have hr2' := (hr2.below hb1).more hb1.size
        go_wp2_with fail
        refine (areQuarters_any B k capB q _ Hk.out hkm hr2').mono ?_
        rintro e w2 ⟨rfl, rfl⟩
        rw [H3.out]
        go_wp2_with fail
        refine bodyPost_ret (by simp [results, Try.results54, go_sem]; rfl) rfl ⟨_, rfl, ?_, hb1⟩
        exact World.ownsRow_nil _ _ _ _
      · obtain ⟨n', rfl, g2, g7, gl, g21, gv'⟩ := obsV_of H1.out
        obtain rfl : k = n' := by omega
        have e1 : turnOK k gs q = true := by unfold turnOK; rw [H1.out, h3, Hk.out]; simp
        have e2 : turnR k gs q = turnedOf gs q (pairsN k) := by unfold turnR; rw [e1]; rfl
        rw [e1, e2]
        clear e1 e2
        have hq3 : ∀ x ∈ q, 0 ≤ x ∧ x ≤ 3 := fun x hx => inR_iff.1 (List.all_eq_true.1 h3 x hx)
        have H3 := Lib.hid h3; clear h3
        have Gl := Lib.hid gl; clear gl
        have Gv := Lib.hid gv'; clear gv'
        have Hq3 := Lib.hid hq3; clear hq3
        go_enter Try.func54, Try.ntmps54
        go_wp2_with fail
        refine (isObservation_any k A m capA gs _ Hn.out hm hr).mono ?_
        rintro e w1 ⟨rfl, hb1⟩
        rw [H1.out]
        have hr' := (hr.below hb1).more hb1.size
        have hr2' := (hr2.below hb1).more hb1.size
        go_wp2_with fail
        refine (areQuarters_any B k capB q _ Hk.out hkm hr2').mono ?_
        rintro e w2 ⟨rfl, rfl⟩
        rw [H3.out]
        go_wp2_with fail
        refine (callsIn_wide.1 (quarterTurned_in k m capA capB g2 g7 A B gs q _ Hn.out (Hn.out ▸ Gl.out) (by rw [← Hn.out]; exact g21) Gv.out Hk.out Hq3.out hr' hr2')).mono ?_
        rintro e w3 ⟨v, rfl, hown, hb3⟩
        go_wp2_with fail
        refine bodyPost_ret (by simp [results, Try.results54, go_sem]; rfl) rfl ⟨_, rfl, ?_, hb1.trans (hb3.mono hb1.size)⟩
        rw [turnedOf_len, ← Gl.out, Hn.out]
        exact hown.mono hb1.size
    · have hb : ((k : Int) != n) = true := by simp [h2]
      have e1 : turnOK n gs q = false := by unfold turnOK; rw [Hk.out, decide_eq_false h2]; simp
      have e2 : turnR n gs q = [] := by unfold turnR; rw [e1]; rfl
      rw [e1, e2]
      clear e1 e2
      have H2 := Lib.hid h2; clear h2
      go_enter Try.func54, Try.ntmps54
      go_wp2_with fail
      refine (isObservation_any n A m capA gs _ Hn.out hm hr).mono ?_
      rintro e w1 ⟨rfl, hb1⟩
      rw [H1.out]
      go_wp2_with fail
      refine bodyPost_ret (by simp [results, Try.results54, go_sem]; rfl) rfl ⟨_, rfl, ?_, hb1⟩
      exact World.ownsRow_nil _ _ _ _
end Go.Proofs.Ytcllkocmnohnkaa
