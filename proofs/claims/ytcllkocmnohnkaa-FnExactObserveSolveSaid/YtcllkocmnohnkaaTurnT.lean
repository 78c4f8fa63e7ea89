/- 'spec.ObserveTurn' at every input. -/
import Derived.Test.YtcllkocmnohnkaaTurnS
namespace Go.Proofs.Ytcllkocmnohnkaa
open Go.RowKit

theorem sObserveTurn_any (n : Int) (A B : Option Addr) (m capA k capB : Nat) (gs : List (Int × Int)) (q : List Int) (w : World) (hn : gs.length = m) (hk : q.length = k) (hm : m ≤ 1000000000) (hkm : k ≤ 1000000000)
    (hr : Rd w w.heap.size A (gs.flatMap pairCells)) (hr2 : Rd w w.heap.size B (q.map (Value.int .i64))) :
    Calls Try.prog 131 #[.int .i64 n, .slice A m capA, .slice B k capB] w fun e w' =>
      ∃ v, e = .returned (.tuple #[v, .bool (turnOK n gs q)]) ∧ w'.ownsRow w.heap.size 49 2 v (turnR n gs q).length ((turnR n gs q).flatMap pairCells) ∧ Below w.heap.size w w' := by
  have Hn := Lib.hid hn; clear hn
  have Hk := Lib.hid hk; clear hk
  cases h1 : obsV n gs
  · have H1 := Lib.hid h1; clear h1
    have e1 : turnOK n gs q = false := by unfold turnOK; rw [H1.out]; rfl
    have e2 : turnR n gs q = [] := by unfold turnR; rw [e1]; rfl
    rw [e1, e2]
    clear e1 e2
    go_enter Try.func131, Try.ntmps131
    go_wp2_with fail
    refine (l43Ok_any n A m capA gs _ Hn.out hm hr).mono ?_
    rintro e w1 ⟨rfl, hb1⟩
    rw [H1.out]
    go_wp2_with fail
    refine bodyPost_ret (by simp [results, Try.results131, go_sem]; rfl) rfl ⟨_, rfl, ?_, hb1.alloc hb1.size _⟩
    exact (Row.new w1 49 []).own hb1.size rfl (by decide)
  · have H1 := Lib.hid h1; clear h1
    by_cases h2 : (k : Int) = n
    · have hb : ((k : Int) != n) = false := by simp [h2]
      obtain ⟨n', rfl, g2, g7, gl, g21, gv'⟩ := obsV_of H1.out
      obtain rfl : k = n' := by omega
      have Gl := Lib.hid gl; clear gl
      have Gv := Lib.hid gv'; clear gv'
      go_enter Try.func131, Try.ntmps131
      go_wp2_with fail
      refine (l43Ok_any k A m capA gs _ Hn.out hm hr).mono ?_
      rintro e w1 ⟨rfl, hb1⟩
      rw [H1.out]
      have hr' := (hr.below hb1).more hb1.size
      have hr2' := (hr2.below hb1).more hb1.size
      go_wp2_with fail
      go_loop [8] (fun i => ∃ j : Nat, j ≤ k ∧ i = .int .i64 j ∧ allQ (q.take j) = true) (fun i => k - (intOf i).toNat)
      case atStart => exact ⟨0, by omega, rfl, rfl⟩
      case round =>
        obtain ⟨j, hj, rfl, hall⟩ := hrel
        have Ha := Lib.hid hall; clear hall
        by_cases hlt : j < k
        · obtain ⟨x, hx⟩ : ∃ x, q[j]? = some x := ⟨_, List.getElem?_eq_getElem (by rw [Hk.out]; exact hlt)⟩
          obtain ⟨b, off, rfl, hbb, hc⟩ := hr2' j (.int .i64 x) (by rw [List.getElem?_map, hx]; rfl)
          have Hx := Lib.hid hx; clear hx
          go_wp2_with fail
          refine (l6In_any x 0 3 _).mono ?_
          rintro e w2 ⟨rfl, rfl⟩
          cases hi : inR x 0 3
          · have e0 : allQ q = false := by
              unfold allQ; rw [List.all_eq_false]
              exact ⟨x, List.mem_of_getElem? Hx.out, by rw [hi]; simp⟩
            have e1 : turnOK k gs q = false := by unfold turnOK; rw [e0]; simp
            have e2 : turnR k gs q = [] := by unfold turnR; rw [e1]; rfl
            have E1 := Lib.hid e1
            have E2 := Lib.hid e2
            clear e0 e1 e2 hi
            go_wp2_with fail
            refine bodyPost_ret (by simp [results, Try.results131, go_sem]; rfl) rfl ⟨_, by rw [E1.out], ?_, hb1.alloc hb1.size _⟩
            rw [E2.out]
            exact (Row.new w1 49 []).own hb1.size rfl (by decide)
          · have Hi := Lib.hid hi; clear hi
            go_wp2_with fail
            go_round
            case measure => simp [intOf]; omega
            case rel =>
              refine ⟨j + 1, by omega, by go_num, ?_⟩
              rw [List.take_add_one, Hx.out]
              unfold allQ
              rw [List.all_append]
              have := Ha.out
              unfold allQ at this
              rw [this]
              simpa using Hi.out
        · obtain rfl : j = k := by omega
          have e0 : allQ q = true := by rw [← Ha.out, List.take_of_length_le (by rw [Hk.out]; exact Nat.le_refl _)]
          have hq3 : ∀ x ∈ q, 0 ≤ x ∧ x ≤ 3 := fun x hx => inR_iff.1 (List.all_eq_true.1 e0 x hx)
          have E1 := Lib.hid (show turnOK j gs q = true by unfold turnOK; rw [H1.out, e0, Hk.out]; simp)
          have E2 := Lib.hid (show turnR j gs q = turnedOf gs q (pairsN j) by unfold turnR; rw [E1.out]; rfl)
          have Hq3 := Lib.hid hq3
          clear hq3 e0
          go_wp2_with fail
          refine (l43Turn_any j m capA capB g2 g7 A B gs q _ Hn.out (Hn.out ▸ Gl.out) (by rw [← Hn.out]; exact g21) Gv.out Hk.out Hq3.out hr' hr2').mono ?_
          rintro e w3 ⟨v, rfl, hown, hb3⟩
          go_wp2_with fail
          refine bodyPost_ret (by simp [results, Try.results131, go_sem]; rfl) rfl ⟨_, by rw [E1.out], ?_, hb1.trans (hb3.mono hb1.size)⟩
          rw [E2.out, turnedOf_len, ← Gl.out, Hn.out]
          exact hown.mono hb1.size
    · have hb : ((k : Int) != n) = true := by simp [h2]
      have e1 : turnOK n gs q = false := by unfold turnOK; rw [Hk.out, decide_eq_false h2]; simp
      have e2 : turnR n gs q = [] := by unfold turnR; rw [e1]; rfl
      rw [e1, e2]
      clear e1 e2
      have H2 := Lib.hid h2; clear h2
      go_enter Try.func131, Try.ntmps131
      go_wp2_with fail
      refine (l43Ok_any n A m capA gs _ Hn.out hm hr).mono ?_
      rintro e w1 ⟨rfl, hb1⟩
      rw [H1.out]
      go_wp2_with fail
      refine bodyPost_ret (by simp [results, Try.results131, go_sem]; rfl) rfl ⟨_, rfl, ?_, hb1.alloc hb1.size _⟩
      exact (Row.new w1 49 []).own hb1.size rfl (by decide)
end Go.Proofs.Ytcllkocmnohnkaa
