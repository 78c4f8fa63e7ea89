/- 'impl.ObserveSolve' at every input. -/
import Derived.Test.YtcllkocmnohnkaaEqual
import Derived.Test.YtcllkocmnohnkaaSolveQ
import Derived.Test.YtcllkocmnohnkaaTurnI
import Derived.Test.YtcllkocmnohnkaaA3
namespace Go.Proofs.Ytcllkocmnohnkaa
open Go.RowKit

/-- The quarter gains number a of which k are laid. -/
def solveQk (n a k : Nat) : List Int := (List.range n).map fun i => if i < k then (solveQ n a).getD i 0 else 0
theorem solveQk_1 (n a : Nat) (_h : 1 ≤ n) : solveQk n a 1 = List.replicate n 0 := by
  refine List.ext_getElem (by simp [solveQk]) fun i h1 h2 => ?_
  simp [solveQk] at h1 ⊢
  intro h0
  subst h0
  have := solveQ_get n a 0 (by omega)
  rw [if_pos rfl] at this
  simpa using this
theorem solveQk_len (n a k : Nat) : (solveQk n a k).length = n := by simp [solveQk]
theorem solveQk_all (n a : Nat) : solveQk n a n = solveQ n a := by
  refine List.ext_getElem (by simp [solveQk, solveQ]) fun i h1 h2 => ?_
  have hi : i < n := by rw [solveQ_len] at h2; exact h2
  simp only [solveQk, List.getElem_map, List.getElem_range]
  rw [if_pos hi, List.getD_eq_getElem?_getD, List.getElem?_eq_getElem h2]; rfl
theorem solveQk_succ (n a k : Nat) (h1 : 1 ≤ k) (hk : k < n) : (solveQk n a k).set k ((a / 4 ^ (n - 1 - k) % 4 : Nat) : Int) = solveQk n a (k + 1) := by
  refine List.ext_getElem (by simp [solveQk]) fun i h2 h3 => ?_
  rw [List.getElem_set]
  simp only [solveQk, List.getElem_map, List.getElem_range]
  split
  · rename_i e
    subst e
    rw [if_pos (by omega), solveQ_get n a k hk, if_neg (by omega)]
  · by_cases hik : i < k
    · rw [if_pos hik, if_pos (by omega)]
    · rw [if_neg hik, if_neg (by omega)]
theorem shr_digit (a n i : Nat) : bits BinOp.and IntKind.i64 ((a : Int) / 2 ^ (2 * (n - 1 - i))) 3 = ((a / 4 ^ (n - 1 - i) % 4 : Nat) : Int) := by
  have p : (2 : Int) ^ (2 * (n - 1 - i)) = ((4 ^ (n - 1 - i) : Nat) : Int) := by
    rw [show (4 : Nat) = 2 ^ 2 from rfl, ← Nat.pow_mul, Int.natCast_pow]; rfl
  rw [and3, p]
  omega
theorem shl_wrap (n : Nat) (h2 : 2 ≤ n) (h : n ≤ 7) : wrap64 (2 ^ (2 * (n - 1))) = ((4 ^ (n - 1) : Nat) : Int) ∧ 4 ^ (n - 1) ≤ 4096 ∧ 1 ≤ 4 ^ (n - 1) := by
  have hn : n = 2 ∨ n = 3 ∨ n = 4 ∨ n = 5 ∨ n = 6 ∨ n = 7 := by omega
  rcases hn with rfl | rfl | rfl | rfl | rfl | rfl <;> decide +kernel

set_option maxRecDepth 100000 in
set_option maxHeartbeats 2000000 in
theorem observeSolve_any (n : Int) (A B : Option Addr) (m1 m2 capA capB : Nat) (seen model : List (Int × Int)) (w : World) (hn : seen.length = m1) (hn2 : model.length = m2) (hm : m1 ≤ 1000000000) (hm2 : m2 ≤ 1000000000)
    (hr : Rd w w.heap.size A (seen.flatMap pairCells)) (hr2 : Rd w w.heap.size B (model.flatMap pairCells)) :
    Calls Try.prog 40 #[.int .i64 n, .slice A m1 capA, .slice B m2 capB] w fun e w' =>
      ∃ v, e = .returned (.tuple #[v, .bool (solveV n seen model).isSome]) ∧ w'.ownsRow w.heap.size 3 1 v ((solveV n seen model).getD []).length (((solveV n seen model).getD []).map (Value.int .i64)) ∧ Below w.heap.size w w' := by
  have Hn := Lib.hid hn; clear hn
  have Hn2 := Lib.hid hn2; clear hn2
  cases h1 : obsV n seen
  · have hv := solveV_no (n := n) (seen := seen) (model := model) (by rw [h1]; rfl)
    rw [hv]
    have H1 := Lib.hid h1; clear h1
    clear hv
    go_enter Try.func40, Try.ntmps40
    go_wp2_with fail
    refine (isObservation_any n A m1 capA seen _ Hn.out hm hr).mono ?_
    rintro e w1 ⟨rfl, b1⟩
    rw [H1.out]
    go_wp2_with fail
    refine bodyPost_ret (v := .tuple #[.slice none 0 0, .bool false]) (by simp [results, Try.results40, go_sem]) rfl ⟨_, rfl, World.ownsRow_nil _ _ _ _, b1⟩
  · cases h2 : obsV n model
    · have hv := solveV_no (n := n) (seen := seen) (model := model) (by rw [h1, h2]; rfl)
      rw [hv]
      have H1 := Lib.hid h1; clear h1
      have H2 := Lib.hid h2; clear h2
      clear hv
      go_enter Try.func40, Try.ntmps40
      go_wp2_with fail
      refine (isObservation_any n A m1 capA seen _ Hn.out hm hr).mono ?_
      rintro e w1 ⟨rfl, b1⟩
      rw [H1.out]
      go_wp2_with fail
      refine (isObservation_any n B m2 capB model _ Hn2.out hm2 (hr2.ext b1)).mono ?_
      rintro e w2 ⟨rfl, b2⟩
      rw [H2.out]
      go_wp2_with fail
      refine bodyPost_ret (v := .tuple #[.slice none 0 0, .bool false]) (by simp [results, Try.results40, go_sem]) rfl ⟨_, rfl, World.ownsRow_nil _ _ _ _, b1.trans (b2.mono b1.size)⟩
    · obtain ⟨N, rfl, N2, N7, hl, hl21, hv⟩ := obsV_of h2
      have hmk := fun W => run_make1 (P := Try.prog) 25 3 (.int .i64 0) 8 Try.underlying25 (by kernel_rfl) rfl N (by omega) (by omega) W
      have H1 := Lib.hid h1; clear h1
      have H2 := Lib.hid h2; clear h2
      have Hl := Lib.hid hl; clear hl
      have Hv := Lib.hid hv; clear hv
      have Hmk := Lib.hid hmk; clear hmk
      go_enter Try.func40, Try.ntmps40
      go_wp2_with fail
      refine (isObservation_any N A m1 capA seen _ Hn.out hm hr).mono ?_
      rintro e w1 ⟨rfl, b1⟩
      rw [H1.out]
      go_wp2_with fail
      refine (isObservation_any N B m2 capB model _ Hn2.out hm2 (hr2.ext b1)).mono ?_
      rintro e w2 ⟨rfl, b2⟩
      rw [H2.out]
      have B2 := b1.trans (b2.mono b1.size)
      clear b1 b2
      go_wp2_with fail
      obtain ⟨M, hM⟩ : ∃ M, 4 ^ (N - 1) = M := ⟨_, rfl⟩
      obtain ⟨w1, w2', w3'⟩ := shl_wrap N N2 N7
      rw [w1]
      rw [hM] at w2' w3' ⊢
      have HM := Lib.hid hM
      clear w1 hM
      go_loopw [25] (fun i wr => ∃ a : Nat, a ≤ M ∧ i = .int .i64 a ∧ (∀ j, j < a → solveHit N seen model j = false) ∧ Below w.heap.size w wr) (fun i _ => M - (intOf i).toNat)
      case atStart => exact ⟨0, by omega, rfl, fun j hj => absurd hj (by omega), B2⟩
      case round =>
        obtain ⟨a, ha, rfl, hmiss, hbel⟩ := hrel
        have hr1 := hr.ext hbel
        have hr3 := hr2.ext hbel
        have Hmiss := Lib.hid hmiss; clear hmiss
        have Hbel := Lib.hid hbel; clear hbel
        by_cases hlt : a < M
        · have hmk := Hmk.out wr
          go_wp2_with fail
          have rg := Row.new wr 3 (List.replicate N (.int .i64 0))
          clear hmk
          go_loopw [10] (fun i wr2 => ∃ k : Nat, 1 ≤ k ∧ k ≤ N ∧ i = .int .i64 k ∧ Row wr2 wr.heap.size 3 ((solveQk N a k).map (Value.int .i64)) ∧ Below wr.heap.size wr wr2) (fun i _ => N - (intOf i).toNat)
          case atStart =>
            refine ⟨1, by omega, by omega, rfl, ?_, (Below.refl _ _).alloc (Nat.le_refl _) _⟩
            rw [solveQk_1 N a (by omega), List.map_replicate]
            exact rg
          case round =>
            obtain ⟨k, hk1, hkN, rfl, hrow, hbel2⟩ := hrel
            by_cases hlt2 : k < N
            · have hck := hrow.cell k
              have hfk := hrow.frozen k
              obtain ⟨u, hu⟩ : ∃ u, (solveQk N a k)[k]? = some u := ⟨_, List.getElem?_eq_getElem (by rw [solveQk_len]; exact hlt2)⟩
              rw [List.getElem?_map, hu] at hck
              simp only [Option.map_some] at hck
              have Hu := Lib.hid hu; clear hu
              have Hrow := Lib.hid hrow; clear hrow
              have Hbel2 := Lib.hid hbel2; clear hbel2
              go_wp2_with fail
              go_roundw
              case measure => simp [intOf]; omega
              case rel =>
                refine ⟨k + 1, by omega, by omega, by go_num, ?_, Hbel2.out.setCell (p := ⟨_, k, none⟩) (Nat.le_refl _) _⟩
                rw [← solveQk_succ N a k hk1 hlt2, List.map_set, ← shr_digit]
                exact Hrow.out.set_ k _
            · obtain rfl : k = N := by omega
              rw [solveQk_all] at hrow
              have B3 := Hbel.out.trans (hbel2.mono Hbel.out.size)
              have hr4 := hr3.ext hbel2
              have hr5 := hr1.ext hbel2
              have ql := solveQ_len k a
              have q3 := solveQ_3 k a
              obtain ⟨q, hq⟩ : ∃ q, solveQ k a = q := ⟨_, rfl⟩
              rw [hq] at hrow ql q3
              obtain ⟨T, hT⟩ : ∃ T, turnedOf model q (pairsN k) = T := ⟨_, rfl⟩
              have hTl : T.length = m2 := by rw [← hT, turnedOf_len, ← Hl.out, Hn2.out]
              obtain ⟨hit, hhit⟩ : ∃ hit, solveHit k seen model a = hit := ⟨_, rfl⟩
              have hhit2 : decide (T = seen) = hit := by rw [← hhit, ← hT, ← hq]; rfl
              have hb21 : m2 ≤ 1048576 := by rw [← Hn2.out]; omega
              have hm21 : m2 ≤ 21 := by rw [← Hn2.out]; exact hl21
              have rq := hrow.rd
              have Hq := Lib.hid hq; clear hq
              have HT := Lib.hid hT; clear hT
              have HTl := Lib.hid hTl; clear hTl
              have Hhit := Lib.hid hhit; clear hhit
              have Hhit2 := Lib.hid hhit2; clear hhit2
              have Ql := Lib.hid ql; clear ql
              have Q3 := Lib.hid q3; clear q3
              have Hrow := Lib.hid hrow; clear hrow
              clear hr hr2 hr1 hr3 hbel2
              go_wp2_with fail
              refine (callsIn_wide.1 (quarterTurned_in k m2 capB k N2 N7 B _ model q _ Hn2.out (Hn2.out ▸ Hl.out) hm21 Hv.out Ql.out Q3.out hr4 rq)).mono ?_
              rintro e w6 ⟨v, rfl, hown, b6⟩
              rw [HT.out] at hown
              obtain ⟨A6, c6, rfl⟩ := own_form hown
              have hr6 := hr5.ext b6
              have hrow6 := Hrow.out.kept b6
              have B6 := B3.trans (b6.mono B3.size)
              have Hown := Lib.hid hown
              clear hown b6 hr4 hr5 rq
              go_wp2_with fail
              refine (slicesEqualG_any A6 A m2 m1 c6 capA T seen _ HTl.out Hn.out hb21 (Rd.of_own Hown.out) hr6).mono ?_
              rintro e w7 ⟨rfl, b7⟩
              rw [Hhit2.out]
              have hrow7 := hrow6.kept b7
              have B7 := B6.trans (b7.mono B6.size)
              clear b7 hrow6 hr6
              cases hit
              · have Hrow7 := Lib.hid hrow7
                clear hrow7 Hrow
                go_wp2_with fail
                go_roundw
                case measure => simp [intOf]; omega
                case rel =>
                  refine ⟨a + 1, by omega, by go_num, fun j hj => ?_, B7⟩
                  by_cases hja : j = a
                  · rw [hja]; exact Hhit.out
                  · exact Hmiss.out j (by omega)
              · have Hhv := Lib.hid (solveV_hit H1.out H2.out (by rw [HM.out]; exact hlt) Hhit.out Hmiss.out)
                go_wp2_with fail
                refine bodyPost_ret (v := .tuple #[.slice (some ⟨_, 0, none⟩) k k, .bool true]) (by simp [results, Try.results40, go_sem]; rfl) rfl ⟨_, by rw [Hhv.out]; rfl, ?_, B7⟩
                rw [Hhv.out]
                simp only [Option.getD_some]
                rw [Hq.out, Ql.out]
                exact hrow7.own Hbel.out.size (by rw [List.length_map, Ql.out, Nat.mul_one]) (by unfold maxLen; omega)
        · obtain rfl : a = M := by omega
          have Hmv := Lib.hid (solveV_miss H1.out H2.out (fun j hj => Hmiss.out j (by rw [HM.out] at hj; exact hj)))
          go_wp2_with fail
          refine bodyPost_ret (v := .tuple #[.slice none 0 0, .bool false]) (by simp [results, Try.results40, go_sem]) rfl ⟨_, by rw [Hmv.out]; rfl, ?_, Hbel.out⟩
          rw [Hmv.out]
          exact World.ownsRow_nil _ _ _ _
end Go.Proofs.Ytcllkocmnohnkaa
