/- FnSolveTurnOnly returns true at every input, and leaves what was there. -/
import Derived.Test.YtklhjofhmcaflaaSolveI
import Derived.Test.YtklhjofhmcaflaaLawObserveTurnAll
namespace Go.Proofs.Ytklhjofhmcaflaa
open Go.RowKit

theorem lGauss_any (a b : Int) (w : World) :
    Calls Try.prog 46 #[.int .i64 a, .int .i64 b] w fun e w' => e = .returned (.agg #[.int .i64 a, .int .i64 b]) ∧ Below w.heap.size w w' := by
  go_enter Try.func46, Try.ntmps46
  go_wp2_with fail
  refine bodyPost_ret (v := .agg #[.int .i64 a, .int .i64 b]) (by simp [results, Try.results46, go_sem]) rfl ⟨rfl, ?_⟩
  first | exact bA1 | exact bA2

/-- A number of a slice of numbers, loaded at an index within. -/
theorem ld_int {w : World} {A : Option Addr} {q : List Int} (hr : Rd w w.heap.size A (q.map (Value.int .i64))) {k : Nat} (hk : k < q.length) :
    ∃ b off, A = some ⟨b, off, none⟩ ∧ ∀ w', Below w.heap.size w w' → (Instr.loadAt 3 (.pointer (some ⟨b, off + k * 1, none⟩))).run Try.prog w' = .ok (.int .i64 (q.getD k 0)) w' := by
  obtain ⟨b, off, rfl, hb, hc⟩ := hr k (.int .i64 (q.getD k 0)) (by rw [List.getElem?_map, List.getD_eq_getElem?_getD, List.getElem?_eq_getElem hk]; rfl)
  exact ⟨b, off, rfl, fun w' h => ld_one (by kernel_rfl) (by rw [Nat.mul_one]; exact (h.cell (p := ⟨b, off + k, none⟩) hb).trans hc)⟩

set_option maxRecDepth 100000 in
set_option maxHeartbeats 4000000 in
theorem FnSolveTurnOnly_walk (w : World) (A : Option Addr) (n cap : Nat) (bs : List Int) (hn : bs.length = n) (hm : n ≤ 9223372036854775807) (hr : Rd w w.heap.size A (bs.map (Value.int .u8))) (hw : ∀ x ∈ bs, (Lit.int .u8 x).wf = true) (hk : n ≤ cap) :
    Calls Try.prog 14 #[.slice A n cap] w fun e w' => e = .returned (.bool true) ∧ Below w.heap.size w w' := by
  have Hbs := Lib.hid (bytesOk_of hw); clear hw
  by_cases hb : n ≤ 1048576
  · have hnb : ¬ (1048576 : Int) < (n : Int) := by omega
    go_enter Try.func14, Try.ntmps14
    go_wp2_with fail
    refine (drawObserveTurn_any A n cap bs w hn hm hk Hbs.out hr).mono ?_
    rintro e w1 ⟨N, A1, k1, c1, gs, A2, k2, c2, q, rfl, hN2, hN6, hgs, hk1, hr1, hq, hk2, hr2, B1⟩
    have Hgs := Lib.hid hgs; clear hgs
    have Hq := Lib.hid hq; clear hq
    clear hr hn
    go_wp2_with fail
    refine (observeTurn_any N A1 A2 k1 c1 k2 c2 gs q _ Hgs.out Hq.out (by omega) (by omega) hr1 hr2).mono ?_
    rintro e w2 ⟨v6, rfl, o6, b2⟩
    have B2 := B1.trans (b2.mono B1.size)
    have extX := (hr1.below b2).more b2.size; clear hr1; have hr1 := extX; clear extX
    have extX := (hr2.below b2).more b2.size; clear hr2; have hr2 := extX; clear extX
    obtain ⟨A6, c6, rfl⟩ := own_form o6
    have hL := turnR_len N gs q
    obtain ⟨L, hLe⟩ : ∃ L, (turnR N gs q).length = L := ⟨_, rfl⟩
    obtain ⟨S, hS⟩ : ∃ S, turnR N gs q = S := ⟨_, rfl⟩
    obtain ⟨ok, hok⟩ : ∃ ok, turnOK N gs q = ok := ⟨_, rfl⟩
    have hLS : S.length = L := by rw [← hS]; exact hLe
    rw [hLe] at hL
    rw [hLe, hS] at o6
    have O6 := Lib.hid o6; clear o6 b2
    rw [hLe, hok]
    go_wp2_with fail
    refine (sObserveTurn_any N A1 A2 k1 c1 k2 c2 gs q _ Hgs.out Hq.out (by omega) (by omega) hr1 hr2).mono ?_
    rintro e w3 ⟨v8, rfl, o8, b3⟩
    have B3 := B2.trans (b3.mono B2.size)
    have extX := (hr1.below b3).more b3.size; clear hr1; have hr1 := extX; clear extX
    have extX := (hr2.below b3).more b3.size; clear hr2; have hr2 := extX; clear extX
    have extX := Lib.hid (own_ext O6.out b3); clear O6; have O6 := extX; clear extX
    obtain ⟨A8, c8, rfl⟩ := own_form o8
    rw [hLe, hS] at o8
    have O8 := Lib.hid o8; clear o8 b3
    have HLS := Lib.hid hLS; clear hLS
    have HLe := Lib.hid hLe
    have HS := Lib.hid hS
    have Hok := Lib.hid hok
    have hne : (ok != ok) = false := by simp
    rw [hLe, hok]
    clear hLe hS hok
    go_wp2_with fail
    refine (sameGrid_any A6 A8 L L c6 c8 S S _ HLS.out HLS.out (by omega) (Rd.of_own O6.out) (Rd.of_own O8.out)).mono ?_
    rintro e w4 ⟨rfl, b4⟩
    have B4 := B3.trans (b4.mono B3.size)
    have extX := (hr1.below b4).more b4.size; clear hr1; have hr1 := extX; clear extX
    have extX := (hr2.below b4).more b4.size; clear hr2; have hr2 := extX; clear extX
    have extX := Lib.hid (own_ext O6.out b4); clear O6; have O6 := extX; clear extX
    have extX := Lib.hid (own_ext O8.out b4); clear O8; have O8 := extX; clear extX
    clear b4
    rw [decide_eq_true (rfl : S = S)]
    cases ok
    · go_wp2_with fail
      refine (sameGrid_any A6 A8 L L c6 c8 S S _ HLS.out HLS.out (by omega) (Rd.of_own O6.out) (Rd.of_own O8.out)).mono ?_
      rintro e w5 ⟨rfl, b5⟩
      rw [decide_eq_true (rfl : S = S)]
      go_wp2_with fail
      go_ret
      exact ⟨rfl, B4.trans (b5.mono B4.size)⟩
    · obtain ⟨hobs, hqN, hq3⟩ := turnOK_of Hok.out
      obtain rfl : k2 = N := by rw [← hqN]; exact Hq.out.symm
      have Hq3 := Lib.hid hq3; clear hq3 hqN
      have Hobs := Lib.hid hobs; clear hobs
      have hLk : L = k1 := by
        obtain ⟨h1, h2, _⟩ := turnOK_of Hok.out
        obtain ⟨n', hn', _, _, hl, _, _⟩ := obsV_of h1
        obtain rfl : k2 = n' := by omega
        rw [← HLe.out, ← Hgs.out, hl]
        unfold turnR
        rw [Hok.out, if_pos rfl, turnedOf_len, Int.toNat_natCast]
      subst hLk
      go_wp2_with fail
      go_loopw [10] (fun i wr => ∃ k : Nat, k ≤ L ∧ i = .int .i64 k ∧ (0 < k → (k2 : Int) ≤ 5) ∧ (∀ j, j < k → gs.getD j (0, 0) ≠ (0, 0)) ∧ Below w4.heap.size w4 wr) (fun i _ => L - (intOf i).toNat)
      case atStart => exact ⟨0, by omega, rfl, fun h => absurd h (by omega), fun j hj => absurd hj (by omega), Below.refl _ _⟩
      case round =>
        obtain ⟨k, hkL, rfl, hk5, hnz, hbel⟩ := hrel
        have extX := (hr1.below hbel).more hbel.size; clear hr1; have hr1 := extX; clear extX
        have extX := (hr2.below hbel).more hbel.size; clear hr2; have hr2 := extX; clear extX
        have extX := Lib.hid (own_ext O6.out hbel); clear O6; have O6 := extX; clear extX
        have B5 := B4.trans (hbel.mono B4.size)
        have Hnz := Lib.hid hnz; clear hnz
        have Hbel := Lib.hid hbel; clear hbel
        have Hk5 := Lib.hid hk5; clear hk5
        by_cases hlt : k < L
        · by_cases h5 : (5 : Int) < k2
          · go_wp2_with fail
            refine wp_region_N [] [] (by kernel_rfl) (by kernel_rfl) ?_
            refine wpStill_go (v := .int .i64 k2) rfl rfl (stays_run fun w' h => ex_move rfl rfl) ?_
            simp only [Act.put, List.setIfInBounds_toArray, List.set_cons_succ, List.set_cons_zero]
            refine wpStill_go (v := .bool true) rfl rfl (stays_run fun w' h => by simp [go_sem, h5]) ?_
            simp only [Act.put, List.setIfInBounds_toArray, List.set_cons_succ, List.set_cons_zero]
            refine wpStill_go (v := .bool true) rfl rfl (stays_run fun w' h => ex_move rfl rfl) ?_
            simp only [Act.put, List.setIfInBounds_toArray, List.set_cons_succ, List.set_cons_zero]
            refine wpStill_off rfl rfl ?_
            simp only [Act.put, List.setIfInBounds_toArray, List.set_cons_succ, List.set_cons_zero]
            refine wpStill_off rfl rfl ?_
            simp only [Act.put, List.setIfInBounds_toArray, List.set_cons_succ, List.set_cons_zero]
            refine wpStill_off rfl rfl ?_
            simp only [Act.put, List.setIfInBounds_toArray, List.set_cons_succ, List.set_cons_zero]
            refine wpStill_off rfl rfl ?_
            simp only [Act.put, List.setIfInBounds_toArray, List.set_cons_succ, List.set_cons_zero]
            refine wpStill_off rfl rfl ?_
            simp only [Act.put, List.setIfInBounds_toArray, List.set_cons_succ, List.set_cons_zero]
            refine wpStill_off rfl rfl ?_
            simp only [Act.put, List.setIfInBounds_toArray, List.set_cons_succ, List.set_cons_zero]
            refine wpStill_go (v := .bool true) rfl rfl (stays_run fun w' h => by simp [go_sem]) ?_
            simp only [Act.put, List.setIfInBounds_toArray, List.set_cons_succ, List.set_cons_zero]
            refine wpStill_nil ?_
            repeat (refine wpMark_skip rfl ?_)
            refine wpMark_nil fun w11 h11 => ?_
            simp only [onlyN, Exit.then]
            have B6 := B5.trans (((Below.refl _ _).drew.trans h11).mono B5.size)
            go_wp2_with fail
            go_ret
            exact ⟨rfl, B6⟩
          · obtain ⟨b, off, rfl, L1⟩ := ld_pair hr1 (k := k) (by rw [Hgs.out]; exact hlt)
            generalize hx : gs.getD k (0, 0) = x at *
            by_cases hx0 : x = (0, 0)
            · subst hx0
              go_wp2_with fail
              refine wp_region_N [] [] (by kernel_rfl) (by kernel_rfl) ?_
              refine wpStill_go (v := .int .i64 k2) rfl rfl (stays_run fun w' h => ex_move rfl rfl) ?_
              simp only [Act.put, List.setIfInBounds_toArray, List.set_cons_succ, List.set_cons_zero]
              refine wpStill_go (v := .bool false) rfl rfl (stays_run fun w' h => by simp [go_sem, h5]) ?_
              simp only [Act.put, List.setIfInBounds_toArray, List.set_cons_succ, List.set_cons_zero]
              refine wpStill_go (v := .bool false) rfl rfl (stays_run fun w' h => ex_move rfl rfl) ?_
              simp only [Act.put, List.setIfInBounds_toArray, List.set_cons_succ, List.set_cons_zero]
              refine wpStill_go (v := .slice (some ⟨b, off, none⟩) L c1) rfl rfl (stays_run fun w' h => ex_move rfl rfl) ?_
              simp only [Act.put, List.setIfInBounds_toArray, List.set_cons_succ, List.set_cons_zero]
              refine wpStill_go (v := .int .i64 k) rfl rfl (stays_run fun w' h => ex_move rfl rfl) ?_
              simp only [Act.put, List.setIfInBounds_toArray, List.set_cons_succ, List.set_cons_zero]
              refine wpStill_go (v := .pointer (some ⟨b, off + k * 2, none⟩)) rfl rfl (stays_run fun w' h => ex_index rfl (by kernel_rfl) (by kernel_rfl) rfl rfl (hlt)) ?_
              simp only [Act.put, List.setIfInBounds_toArray, List.set_cons_succ, List.set_cons_zero]
              refine wpStill_go (v := .agg #[.int .i64 0, .int .i64 0]) rfl rfl (stays_run fun w' h => ex_load rfl rfl (L1 w' h)) ?_
              simp only [Act.put, List.setIfInBounds_toArray, List.set_cons_succ, List.set_cons_zero]
              refine wpStill_go (v := .agg #[.int .i64 0, .int .i64 0]) rfl rfl (stays_call (f := 46) (args := #[.int .i64 0, .int .i64 0]) (fun w' h => by simp [go_sem]) (fun w' _ => lGauss_any 0 0 w')) ?_
              simp only [Act.put, List.setIfInBounds_toArray, List.set_cons_succ, List.set_cons_zero]
              refine wpStill_go (v := .bool true) rfl rfl (stays_run fun w' h => by simp [go_sem]) ?_
              simp only [Act.put, List.setIfInBounds_toArray, List.set_cons_succ, List.set_cons_zero]
              refine wpStill_go (v := .bool true) rfl rfl (stays_run fun w' h => by simp [go_sem]) ?_
              simp only [Act.put, List.setIfInBounds_toArray, List.set_cons_succ, List.set_cons_zero]
              refine wpStill_nil ?_
              repeat (refine wpMark_skip rfl ?_)
              refine wpMark_nil fun w11 h11 => ?_
              simp only [onlyN, Exit.then]
              have B6 := B5.trans (((Below.refl _ _).drew.trans h11).mono B5.size)
              clear L1
              go_wp2_with fail
              go_ret
              exact ⟨rfl, B6⟩
            · have hxx : (x.1 == 0) = false ∨ (x.1 = 0 ∧ (x.2 == 0) = false) := by
                by_cases h1 : x.1 = 0
                · right
                  refine ⟨h1, beq_eq_false_iff_ne.2 fun h2 => hx0 (Prod.ext h1 h2)⟩
                · exact .inl (beq_eq_false_iff_ne.2 h1)
              have Hx := Lib.hid hx; clear hx
              have Hx0 := Lib.hid hx0; clear hx0
              rcases hxx with hh | hh
              all_goals
                have Hh := Lib.hid hh; clear hh
                go_wp2_with fail
                refine wp_region_N [] [] (by kernel_rfl) (by kernel_rfl) ?_
                refine wpStill_go (v := .int .i64 k2) rfl rfl (stays_run fun w' h => ex_move rfl rfl) ?_
                simp only [Act.put, List.setIfInBounds_toArray, List.set_cons_succ, List.set_cons_zero]
                refine wpStill_go (v := .bool false) rfl rfl (stays_run fun w' h => by simp [go_sem, h5]) ?_
                simp only [Act.put, List.setIfInBounds_toArray, List.set_cons_succ, List.set_cons_zero]
                refine wpStill_go (v := .bool false) rfl rfl (stays_run fun w' h => ex_move rfl rfl) ?_
                simp only [Act.put, List.setIfInBounds_toArray, List.set_cons_succ, List.set_cons_zero]
                refine wpStill_go (v := .slice (some ⟨b, off, none⟩) L c1) rfl rfl (stays_run fun w' h => ex_move rfl rfl) ?_
                simp only [Act.put, List.setIfInBounds_toArray, List.set_cons_succ, List.set_cons_zero]
                refine wpStill_go (v := .int .i64 k) rfl rfl (stays_run fun w' h => ex_move rfl rfl) ?_
                simp only [Act.put, List.setIfInBounds_toArray, List.set_cons_succ, List.set_cons_zero]
                refine wpStill_go (v := .pointer (some ⟨b, off + k * 2, none⟩)) rfl rfl (stays_run fun w' h => ex_index rfl (by kernel_rfl) (by kernel_rfl) rfl rfl (hlt)) ?_
                simp only [Act.put, List.setIfInBounds_toArray, List.set_cons_succ, List.set_cons_zero]
                refine wpStill_go (v := .agg #[.int .i64 x.1, .int .i64 x.2]) rfl rfl (stays_run fun w' h => ex_load rfl rfl (L1 w' h)) ?_
                simp only [Act.put, List.setIfInBounds_toArray, List.set_cons_succ, List.set_cons_zero]
                refine wpStill_go (v := .agg #[.int .i64 0, .int .i64 0]) rfl rfl (stays_call (f := 46) (args := #[.int .i64 0, .int .i64 0]) (fun w' h => by simp [go_sem]) (fun w' _ => lGauss_any 0 0 w')) ?_
                simp only [Act.put, List.setIfInBounds_toArray, List.set_cons_succ, List.set_cons_zero]
                refine wpStill_go (v := .bool false) rfl rfl (stays_run fun w' h => by first | (simp [go_sem, Hh.out]; done) | (simp [go_sem, Hh.out.1, Hh.out.2])) ?_
                simp only [Act.put, List.setIfInBounds_toArray, List.set_cons_succ, List.set_cons_zero]
                refine wpStill_go (v := .bool false) rfl rfl (stays_run fun w' h => by simp [go_sem]) ?_
                simp only [Act.put, List.setIfInBounds_toArray, List.set_cons_succ, List.set_cons_zero]
                refine wpStill_nil ?_
                repeat (refine wpMark_skip rfl ?_)
                refine wpMark_nil fun w11 h11 => ?_
                simp only [onlyN, Exit.then]
                have B6 := Hbel.out.trans (((Below.refl _ _).drew.trans h11).mono Hbel.out.size)
                clear L1
                go_wp2_with fail
                go_roundw
                case measure => simp [intOf]; omega
                case rel =>
                  refine ⟨k + 1, by omega, by go_num, fun _ => by omega, fun j hj => ?_, B6⟩
                  by_cases hjk : j = k
                  · rw [hjk, Hx.out]; exact Hx0.out
                  · exact Hnz.out j (by omega)
        · obtain rfl : k = L := by omega
          have hk5 : (k2 : Int) ≤ 5 := by
            refine Hk5.out ?_
            obtain ⟨h1, _, _⟩ := turnOK_of Hok.out
            obtain ⟨n', hn', e2, e7, hl, _, _⟩ := obsV_of h1
            obtain rfl : k2 = n' := by omega
            have := bm_pairs k2 e2 e7
            rw [← hl, Hgs.out] at this
            have := bm_cases (k2 : Int)
            omega
          obtain ⟨q', hs', hl', ht', hR', h0'⟩ := solve_turn Hok.out
          have hon := fun i hi => solve_only Hok.out ht' hR' h0' (fun j hj => Hnz.out j (by rw [← Hgs.out]; exact hj)) i hi
          rw [HS.out] at hs'
          have Hs' := Lib.hid hs'; clear hs'
          have Hl' := Lib.hid hl'; clear hl'
          have Ht' := Lib.hid ht'; clear ht'
          have HR' := Lib.hid hR'; clear hR'
          have H0' := Lib.hid h0'; clear h0'
          have Hon := Lib.hid hon; clear hon
          go_wp2_with fail
          refine (observeSolve_any k2 A6 A1 k k c6 c1 S gs _ HLS.out Hgs.out (by omega) (by omega) (Rd.of_own O6.out) hr1).mono ?_
          rintro e w5 ⟨v, rfl, o5, b5⟩
          rw [Hs'.out]
          rw [Hs'.out] at o5
          simp only [Option.getD_some, Option.isSome_some] at o5 ⊢
          rw [Hl'.out] at o5
          obtain ⟨A5, c5, rfl⟩ := own_form o5
          have B6 := B5.trans (b5.mono B5.size)
          have extX := (hr2.below b5).more b5.size; clear hr2; have hr2 := extX; clear extX
          have hr5 := Rd.of_own o5
          have Hq3' := Lib.hid Hq3.out
          clear o5 b5 hr1
          go_wp2_with fail
          go_loopw [13] (fun i wr => ∃ k : Nat, k ≤ k2 ∧ i = .int .i64 k ∧ Below w5.heap.size w5 wr) (fun i _ => k2 - (intOf i).toNat)
          case atStart => exact ⟨0, by omega, rfl, Below.refl _ _⟩
          case round =>
            obtain ⟨m, hmk, rfl, hbel⟩ := hrel
            have extX := (hr2.below hbel).more hbel.size; clear hr2; have hr2 := extX; clear extX
            have extX := (hr5.below hbel).more hbel.size; clear hr5; have hr5 := extX; clear extX
            have B7 := B6.trans (hbel.mono B6.size)
            have Hbel7 := Lib.hid hbel
            clear hbel
            by_cases hlt : m < k2
            · obtain ⟨b1, off1, rfl, L1⟩ := ld_int hr5 (k := m) (by rw [Hl'.out]; exact hlt)
              obtain ⟨b2, off2, rfl, L2⟩ := ld_int hr2 (k := m) (by rw [Hq.out]; exact hlt)
              obtain ⟨_, _, e2, L3⟩ := ld_int hr2 (k := 0) (by rw [Hq.out]; omega)
              cases e2
              have hom := Hon.out m hlt
              have hqm := Hq3.out (q.getD m 0) (by rw [List.getD_eq_getElem?_getD, List.getElem?_eq_getElem (by rw [Hq.out]; exact hlt)]; exact List.getElem_mem _)
              have hq0 := Hq3.out (q.getD 0 0) (by rw [List.getD_eq_getElem?_getD, List.getElem?_eq_getElem (by rw [Hq.out]; omega)]; exact List.getElem_mem _)
              generalize q.getD m 0 = x at *
              generalize q.getD 0 0 = x0 at *
              generalize q'.getD m 0 = y at *
              have hwr : IntKind.i64.wrap (x - x0) = x - x0 := IntWalk.i64_in _ (by omega)
              have Hom := Lib.hid hom; clear hom
              have Hwr := Lib.hid hwr; clear hwr
              go_wp2_with fail
              refine wp_region_N [] [] (by kernel_rfl) (by kernel_rfl) ?_
              refine wpStill_go (v := .slice (some ⟨b1, off1, none⟩) k2 c5) rfl rfl (stays_run fun w' h => ex_move rfl rfl) ?_
              simp only [Act.put, List.setIfInBounds_toArray, List.set_cons_succ, List.set_cons_zero]
              refine wpStill_go (v := .int .i64 k2) rfl rfl (stays_run fun w' h => ex_len rfl (by kernel_rfl) rfl) ?_
              simp only [Act.put, List.setIfInBounds_toArray, List.set_cons_succ, List.set_cons_zero]
              refine wpStill_go (v := .int .i64 k2) rfl rfl (stays_run fun w' h => ex_move rfl rfl) ?_
              simp only [Act.put, List.setIfInBounds_toArray, List.set_cons_succ, List.set_cons_zero]
              refine wpStill_go (v := .bool false) rfl rfl (stays_run fun w' h => by simp [go_sem]) ?_
              simp only [Act.put, List.setIfInBounds_toArray, List.set_cons_succ, List.set_cons_zero]
              refine wpStill_go (v := .bool false) rfl rfl (stays_run fun w' h => ex_move rfl rfl) ?_
              simp only [Act.put, List.setIfInBounds_toArray, List.set_cons_succ, List.set_cons_zero]
              refine wpStill_go (v := .slice (some ⟨b1, off1, none⟩) k2 c5) rfl rfl (stays_run fun w' h => ex_move rfl rfl) ?_
              simp only [Act.put, List.setIfInBounds_toArray, List.set_cons_succ, List.set_cons_zero]
              refine wpStill_go (v := .int .i64 m) rfl rfl (stays_run fun w' h => ex_move rfl rfl) ?_
              simp only [Act.put, List.setIfInBounds_toArray, List.set_cons_succ, List.set_cons_zero]
              refine wpStill_go (v := .pointer (some ⟨b1, off1 + m * 1, none⟩)) rfl rfl (stays_run fun w' h => ex_index rfl (by kernel_rfl) (by kernel_rfl) rfl rfl (hlt)) ?_
              simp only [Act.put, List.setIfInBounds_toArray, List.set_cons_succ, List.set_cons_zero]
              refine wpStill_go (v := .int .i64 y) rfl rfl (stays_run fun w' h => ex_load rfl rfl (L1 w' h)) ?_
              simp only [Act.put, List.setIfInBounds_toArray, List.set_cons_succ, List.set_cons_zero]
              refine wpStill_go (v := .slice (some ⟨b2, off2, none⟩) k2 c2) rfl rfl (stays_run fun w' h => ex_move rfl rfl) ?_
              simp only [Act.put, List.setIfInBounds_toArray, List.set_cons_succ, List.set_cons_zero]
              refine wpStill_go (v := .int .i64 m) rfl rfl (stays_run fun w' h => ex_move rfl rfl) ?_
              simp only [Act.put, List.setIfInBounds_toArray, List.set_cons_succ, List.set_cons_zero]
              refine wpStill_go (v := .pointer (some ⟨b2, off2 + m * 1, none⟩)) rfl rfl (stays_run fun w' h => ex_index rfl (by kernel_rfl) (by kernel_rfl) rfl rfl (hlt)) ?_
              simp only [Act.put, List.setIfInBounds_toArray, List.set_cons_succ, List.set_cons_zero]
              refine wpStill_go (v := .int .i64 x) rfl rfl (stays_run fun w' h => ex_load rfl rfl (L2 w' h)) ?_
              simp only [Act.put, List.setIfInBounds_toArray, List.set_cons_succ, List.set_cons_zero]
              refine wpStill_go (v := .slice (some ⟨b2, off2, none⟩) k2 c2) rfl rfl (stays_run fun w' h => ex_move rfl rfl) ?_
              simp only [Act.put, List.setIfInBounds_toArray, List.set_cons_succ, List.set_cons_zero]
              refine wpStill_go (v := .pointer (some ⟨b2, off2 + 0 * 1, none⟩)) rfl rfl (stays_run fun w' h => ex_index rfl (by kernel_rfl) (by kernel_rfl) rfl rfl ((by omega : 0 < k2))) ?_
              simp only [Act.put, List.setIfInBounds_toArray, List.set_cons_succ, List.set_cons_zero]
              refine wpStill_go (v := .int .i64 x0) rfl rfl (stays_run fun w' h => ex_load rfl rfl (L3 w' h)) ?_
              simp only [Act.put, List.setIfInBounds_toArray, List.set_cons_succ, List.set_cons_zero]
              refine wpStill_go (v := .int .i64 (x - x0)) rfl rfl (stays_run fun w' h => by simp [go_sem, Hwr.out]) ?_
              simp only [Act.put, List.setIfInBounds_toArray, List.set_cons_succ, List.set_cons_zero]
              refine wpStill_go (v := .int .i64 ((x - x0) % 4)) rfl rfl (stays_call (f := 47) (args := #[.int .i64 (x - x0), .int .i64 4]) (fun w' h => by simp [go_sem]) (fun w' _ => calls_below (lrest4_any _ w'))) ?_
              simp only [Act.put, List.setIfInBounds_toArray, List.set_cons_succ, List.set_cons_zero]
              refine wpStill_go (v := .bool false) rfl rfl (stays_run fun w' h => by simp [go_sem, Hom.out]) ?_
              simp only [Act.put, List.setIfInBounds_toArray, List.set_cons_succ, List.set_cons_zero]
              refine wpStill_go (v := .bool false) rfl rfl (stays_run fun w' h => by simp [go_sem]) ?_
              simp only [Act.put, List.setIfInBounds_toArray, List.set_cons_succ, List.set_cons_zero]
              refine wpStill_nil ?_
              repeat (refine wpMark_skip rfl ?_)
              refine wpMark_nil fun w11 h11 => ?_
              simp only [onlyN, Exit.then]
              have B8 := Hbel7.out.trans (((Below.refl _ _).drew.trans h11).mono Hbel7.out.size)
              clear L1 L2 L3
              go_wp2_with fail
              go_roundw
              case measure => simp [intOf]; omega
              case rel => exact ⟨m + 1, by omega, by go_num, B8⟩
            · go_wp2_with fail
              go_ret
              exact ⟨rfl, B7⟩
  · have hnb : (1048576 : Int) < (n : Int) := by omega
    go_enter Try.func14, Try.ntmps14
    go_wp2_with fail
    go_ret
    exact ⟨rfl, Below.refl _ _⟩
end Go.Proofs.Ytklhjofhmcaflaa
