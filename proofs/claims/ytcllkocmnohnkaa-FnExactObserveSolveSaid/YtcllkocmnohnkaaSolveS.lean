/- 'spec.ObserveSolve'. -/
import Derived.Test.YtcllkocmnohnkaaSolveI
import Derived.Test.YtcllkocmnohnkaaTurnT
namespace Go.Proofs.Ytcllkocmnohnkaa
open Go.RowKit

theorem pair_ne2 {a b : Int × Int} (h : a ≠ b) : (a.1 == b.1) = false ∨ (a.1 = b.1 ∧ (a.2 == b.2) = false) := by
  by_cases h1 : a.1 = b.1
  · exact .inr ⟨h1, beq_eq_false_iff_ne.2 fun h2 => h (Prod.ext h1 h2)⟩
  · exact .inl (beq_eq_false_iff_ne.2 h1)
theorem l43Power_any (n M : Nat) (h : n ≤ 6) (hM : 4 ^ n = M) (w : World) : Calls Try.prog 108 #[.int .i64 n] w fun e w' => e = .returned (.int .i64 (M : Int)) ∧ w = w' := by
  have HM := Lib.hid hM
  clear hM
  go_enter Try.func108, Try.ntmps108
  go_wp2_with fail
  go_loop [3, 4] (fun m i => ∃ k : Nat, k ≤ n ∧ i = .int .i64 k ∧ m = .int .i64 ((4 ^ k : Nat) : Int)) (fun _ i => n - (intOf i).toNat)
  case atStart => exact ⟨0, by omega, rfl, rfl⟩
  case round =>
    obtain ⟨k, hk, rfl, rfl⟩ := hrel
    have hp : (4 ^ k : Nat) ≤ 4096 := by
      have : k ≤ 6 := by omega
      exact Nat.le_trans (Nat.pow_le_pow_right (by omega) this) (by decide : 4 ^ 6 ≤ 4096)
    have hs : (4 ^ (k + 1) : Nat) = 4 ^ k * 4 := Nat.pow_succ ..
    obtain ⟨m, hm⟩ : ∃ m, (4 ^ k : Nat) = m := ⟨_, rfl⟩
    rw [hm] at hp hs ⊢
    by_cases hlt : k < n
    · have Hs := Lib.hid hs; clear hs
      have Hm := Lib.hid hm; clear hm
      go_wp2_with fail
      go_round
      case measure => simp [intOf]; omega
      case rel => exact ⟨k + 1, by omega, by go_num, by rw [Hs.out]; go_num⟩
    · obtain rfl : k = n := by omega
      obtain rfl : m = M := hm.symm.trans HM.out
      have Hs := Lib.hid hs; clear hs
      have Hm := Lib.hid hm; clear hm
      go_wp2_with fail
      go_ret
      exact ⟨rfl, rfl⟩

/-- The digits found after so many steps, the last antenna first. -/
def sqD (n k d : Nat) : List Int := (List.range n).map fun j => if n - 1 - d < j then ((k / 4 ^ (n - 1 - j) % 4 : Nat) : Int) else 0
theorem sqD_len (n k d : Nat) : (sqD n k d).length = n := by simp [sqD]
theorem sqD_0 (n k : Nat) : sqD n k 0 = List.replicate n 0 := by
  apply List.ext_getElem (by simp [sqD])
  intro i h1 h2
  simp [sqD] at h1 ⊢
  intro h
  omega
theorem sqD_all (n k : Nat) (_h : 1 ≤ n) : sqD n k (n - 1) = solveQ n k := by
  apply List.ext_getElem (by simp [sqD, solveQ])
  intro i h1 h2
  simp [sqD, solveQ] at h1 ⊢
  by_cases hi : i = 0
  · subst hi; simp
  · rw [if_pos (by omega), if_neg hi]
theorem sqD_succ (n k d : Nat) (h : d < n - 1) : (sqD n k d).set (n - 1 - d) ((k / 4 ^ d % 4 : Nat) : Int) = sqD n k (d + 1) := by
  apply List.ext_getElem (by simp [sqD])
  intro i h1 h2
  rw [List.getElem_set]
  simp [sqD] at h1 ⊢
  by_cases hi : n - 1 - d = i
  · subst hi
    rw [if_pos rfl, if_pos (by omega), show n - 1 - (n - 1 - d) = d from by omega]
  · rw [if_neg hi]
    by_cases h3 : n - 1 - d < i
    · rw [if_pos h3, if_pos (by omega)]
    · rw [if_neg h3, if_neg (by omega)]

theorem l43Quarters_any (n k : Nat) (h2 : 2 ≤ n) (h7 : n ≤ 7) (hk : k < 4096) (w : World) :
    Calls Try.prog 109 #[.int .i64 n, .int .i64 k] w fun e w' => e = .returned (.slice (some ⟨w.heap.size, 0, none⟩) n n) ∧ Row w' w.heap.size 3 ((solveQ n k).map (Value.int .i64)) ∧ Below w.heap.size w w' := by
  have hmk := run_make1 (P := Try.prog) 25 3 (.int .i64 0) 8 Try.underlying25 (by kernel_rfl) rfl n (by omega) (by omega) w
  have r0 := Row.new w 3 (List.replicate n (.int .i64 0))
  have e0 : List.replicate n (Value.int .i64 0) = (sqD n k 0).map (Value.int .i64) := by rw [sqD_0, List.map_replicate]
  have E0 := Lib.hid e0
  clear e0
  go_enter Try.func109, Try.ntmps109
  go_wp2_with fail
  clear hmk
  go_loopw [1, 6] (fun m i wr => ∃ d : Nat, d ≤ n - 1 ∧ i = .int .i64 ((n - 1 - d : Nat) : Int) ∧ m = .int .i64 ((k / 4 ^ d : Nat) : Int) ∧ Row wr w.heap.size 3 ((sqD n k d).map (Value.int .i64)) ∧ Below w.heap.size w wr) (fun _ i _ => (intOf i).toNat)
  case atStart => exact ⟨0, by omega, by congr 1; omega, by simp, by rw [← E0.out]; exact r0, bA1⟩
  case round =>
    clear r0
    obtain ⟨d, hd, rfl, rfl, hrow, hbel⟩ := hrel
    have hdiv : k / 4 ^ (d + 1) = k / 4 ^ d / 4 := by rw [Nat.pow_succ, Nat.div_div_eq_div_mul]
    have hle : k / 4 ^ d ≤ k := Nat.div_le_self _ _
    have hset := sqD_succ n k d
    obtain ⟨q, hq⟩ : ∃ q, k / 4 ^ d = q := ⟨_, rfl⟩
    rw [hq] at hdiv hle hset ⊢
    by_cases hlt : d < n - 1
    · have hset := hset hlt
      obtain ⟨i, hi⟩ : ∃ i, n - 1 - d = i := ⟨_, rfl⟩
      rw [hi] at hset ⊢
      have hi0 : 0 < i := by omega
      have hin : i < n := by omega
      have hck := hrow.cell i
      have hfk := hrow.frozen i
      obtain ⟨u, hu⟩ : ∃ u, (sqD n k d)[i]? = some u := ⟨_, List.getElem?_eq_getElem (by rw [sqD_len]; exact hin)⟩
      rw [List.getElem?_map, hu] at hck
      simp only [Option.map_some] at hck
      have r2 := hrow.set_ i (.int .i64 ((q % 4 : Nat) : Int))
      rw [← List.map_set, hset] at r2
      have B2 := hbel.setCell (p := ⟨w.heap.size, i, none⟩) (Nat.le_refl _) (.int .i64 ((q % 4 : Nat) : Int))
      have hcast : (q : Int) % 4 = ((q % 4 : Nat) : Int) := (Int.natCast_emod q 4).symm
      have Hu := Lib.hid hu; clear hu
      have Hset := Lib.hid hset; clear hset
      have Hdiv := Lib.hid hdiv; clear hdiv
      have Hq := Lib.hid hq; clear hq
      have R2 := Lib.hid r2; clear r2
      have hidX := Lib.hid B2; clear B2; have B2 := hidX; clear hidX
      have Hi := Lib.hid hi; clear hi
      have Hcast := Lib.hid hcast; clear hcast
      clear hrow hbel
      go_wp2_with fail
      rw [Hcast.out]
      go_roundw
      case measure => simp [intOf]; omega
      case rel =>
        refine ⟨d + 1, by omega, ?_, ?_, R2.out, B2.out⟩
        · have := Hi.out; congr 1; omega
        · rw [Hdiv.out]; congr 1
    · obtain rfl : d = n - 1 := by omega
      rw [sqD_all n k (by omega)] at hrow
      rw [show n - 1 - (n - 1) = 0 from by omega]
      have Hrow := Lib.hid hrow; clear hrow
      have Hset := Lib.hid hset; clear hset
      have Hdiv := Lib.hid hdiv; clear hdiv
      have Hq := Lib.hid hq; clear hq
      go_wp2_with fail
      go_ret
      exact ⟨rfl, Hrow.out, hbel⟩

theorem l43Same_any (A B : Option Addr) (n ca cb : Nat) (xs ys : List (Int × Int)) (w : World) (hn : xs.length = n) (hm : ys.length = n) (hb : n ≤ 1048576)
    (hr : Rd w w.heap.size A (xs.flatMap pairCells)) (hr2 : Rd w w.heap.size B (ys.flatMap pairCells)) :
    Calls Try.prog 110 #[.slice A n ca, .slice B n cb] w fun e w' => e = .returned (.bool (decide (xs = ys))) ∧ Below w.heap.size w w' := by
  have Hn := Lib.hid hn; clear hn
  have Hm := Lib.hid hm; clear hm
  go_enter Try.func110, Try.ntmps110
  go_wp2_with fail
  go_loopw [5] (fun i wr => ∃ k : Nat, k ≤ n ∧ i = .int .i64 k ∧ xs.take k = ys.take k ∧ Below w.heap.size w wr) (fun i _ => n - (intOf i).toNat)
  case atStart => exact ⟨0, by omega, rfl, rfl, Below.refl _ _⟩
  case round =>
    obtain ⟨k, hk, rfl, heq, hbel⟩ := hrel
    have hr' := hr.below hbel
    have hr2' := hr2.below hbel
    have Hbel := Lib.hid hbel; clear hbel
    have Heq := Lib.hid heq; clear heq
    by_cases hlt : k < n
    · have hx := getD_of (gs := xs) (k := k) (by rw [Hn.out]; exact hlt)
      have hy := getD_of (gs := ys) (k := k) (by rw [Hm.out]; exact hlt)
      obtain ⟨b, off, rfl, hb2, hc1, hc1'⟩ := rd_pair hr' hx
      obtain ⟨b', off', rfl, hb2', hc2, hc2'⟩ := rd_pair hr2' hy
      generalize xs.getD k (0, 0) = x at *
      generalize ys.getD k (0, 0) = y at *
      have Hx := Lib.hid hx; clear hx
      have Hy := Lib.hid hy; clear hy
      by_cases hxy : x = y
      · subst hxy
        go_wp2_with fail
        go_quiet (fail)
        go_wp2_with fail
        go_roundw
        case measure => simp [intOf]; omega
        case rel =>
          refine ⟨k + 1, by omega, by go_num, ?_, below_drewN Hbel.out _⟩
          rw [List.take_add_one, List.take_add_one, Heq.out, Hx.out, Hy.out]
      · have Hxy := Lib.hid hxy
        have hf : ∀ W, Below w.heap.size w W → (Ending.returned (.bool false) = .returned (.bool (decide (xs = ys))) ∧ Below w.heap.size w W) := fun W h => by
          refine ⟨?_, h⟩
          rw [decide_eq_false]
          rintro rfl
          exact Hxy.out (by simpa using Hx.out.symm.trans Hy.out)
        have Hf := Lib.hid hf
        clear hf
        rcases pair_ne2 hxy with h1 | ⟨h1, h2⟩
        · clear hxy
          go_wp2_with fail
          go_quiet (fail)
          go_wp2_with fail
          go_ret
          exact Hf.out _ (below_drewN Hbel.out _)
        · clear hxy
          go_wp2_with fail
          go_quiet (fail)
          go_wp2_with fail
          go_ret
          exact Hf.out _ (below_drewN Hbel.out _)
    · obtain rfl : k = n := by omega
      go_wp2_with fail
      go_ret
      have := Heq.out
      rw [List.take_of_length_le (by rw [Hn.out]; exact Nat.le_refl _), List.take_of_length_le (by rw [Hm.out]; exact Nat.le_refl _)] at this
      exact ⟨by rw [decide_eq_true this]; rfl, Hbel.out⟩

set_option maxRecDepth 100000 in
set_option maxHeartbeats 1000000 in
theorem sObserveSolve_any (n : Int) (A B : Option Addr) (m1 m2 capA capB : Nat) (seen model : List (Int × Int)) (w : World) (hn : seen.length = m1) (hn2 : model.length = m2) (hm : m1 ≤ 1000000000) (hm2 : m2 ≤ 1000000000)
    (hr : Rd w w.heap.size A (seen.flatMap pairCells)) (hr2 : Rd w w.heap.size B (model.flatMap pairCells)) :
    Calls Try.prog 38 #[.int .i64 n, .slice A m1 capA, .slice B m2 capB] w fun e w' =>
      ∃ v, e = .returned (.tuple #[v, .bool (solveV n seen model).isSome]) ∧ w'.ownsRow w.heap.size 3 1 v ((solveV n seen model).getD []).length (((solveV n seen model).getD []).map (Value.int .i64)) ∧ Below w.heap.size w w' := by
  have Hn := Lib.hid hn; clear hn
  have Hn2 := Lib.hid hn2; clear hn2
  cases h1 : obsV n seen
  · have hv := solveV_no (n := n) (seen := seen) (model := model) (by rw [h1]; rfl)
    rw [hv]
    have H1 := Lib.hid h1; clear h1
    clear hv
    go_enter Try.func38, Try.ntmps38
    go_wp2_with fail
    refine (l43Ok_any n A m1 capA seen _ Hn.out hm hr).mono ?_
    rintro e w1 ⟨rfl, b1⟩
    rw [H1.out]
    have r1 := Row.new w1 3 []
    have B1 := b1.alloc b1.size (.cells #[] 3)
    have hs := b1.size
    go_wp2_with fail
    refine bodyPost_ret (v := .tuple #[.slice (some ⟨w1.heap.size, 0, none⟩) 0 0, .bool false]) (by simp [results, Try.results38, go_sem]) rfl ⟨_, rfl, r1.own hs rfl (by decide), B1⟩
  · cases h2 : obsV n model
    · have hv := solveV_no (n := n) (seen := seen) (model := model) (by rw [h1, h2]; rfl)
      rw [hv]
      have H1 := Lib.hid h1; clear h1
      have H2 := Lib.hid h2; clear h2
      clear hv
      go_enter Try.func38, Try.ntmps38
      go_wp2_with fail
      refine (l43Ok_any n A m1 capA seen _ Hn.out hm hr).mono ?_
      rintro e w1 ⟨rfl, b1⟩
      rw [H1.out]
      go_wp2_with fail
      refine (l43Ok_any n B m2 capB model _ Hn2.out hm2 (hr2.ext b1)).mono ?_
      rintro e w2 ⟨rfl, b2⟩
      rw [H2.out]
      have b3 := b1.trans (b2.mono b1.size)
      have r1 := Row.new w2 3 []
      have B1 := b3.alloc b3.size (.cells #[] 3)
      have hs := b3.size
      go_wp2_with fail
      refine bodyPost_ret (v := .tuple #[.slice (some ⟨w2.heap.size, 0, none⟩) 0 0, .bool false]) (by simp [results, Try.results38, go_sem]) rfl ⟨_, rfl, r1.own hs rfl (by decide), B1⟩
    · obtain ⟨N, rfl, N2, N7, hl, hl21, hv⟩ := obsV_of h2
      have hls : seen.length = (pairsN N).length := by
        obtain ⟨N', e, _, _, hl', _, _⟩ := obsV_of h1
        obtain rfl : N' = N := by omega
        exact hl'
      obtain ⟨M, hM⟩ : ∃ M, 4 ^ (N - 1) = M := ⟨_, rfl⟩
      have hM4 : M ≤ 4096 := by rw [← hM]; exact (shl_wrap N N2 N7).2.1
      have hpw := fun w => l43Power_any (N - 1) M (by omega) hM w
      rw [show ((N - 1 : Nat) : Int) = (N : Int) - 1 from by omega] at hpw
      have hm12 : m1 = m2 := by rw [← Hn.out, ← Hn2.out, hls, hl]
      subst hm12
      have H1 := Lib.hid h1; clear h1
      have H2 := Lib.hid h2; clear h2
      have Hl := Lib.hid hl; clear hl
      have Hv := Lib.hid hv; clear hv
      have Hpw := Lib.hid hpw; clear hpw
      have Hls := Lib.hid hls; clear hls
      have HM := Lib.hid hM; clear hM
      go_enter Try.func38, Try.ntmps38
      go_wp2_with fail
      refine (l43Ok_any N A m1 capA seen _ Hn.out hm hr).mono ?_
      rintro e w1 ⟨rfl, b1⟩
      rw [H1.out]
      go_wp2_with fail
      refine (l43Ok_any N B m1 capB model _ Hn2.out hm (hr2.ext b1)).mono ?_
      rintro e w2 ⟨rfl, b2⟩
      rw [H2.out]
      have B2 := b1.trans (b2.mono b1.size)
      clear b1 b2
      go_wp2_with fail
      go_loopw [8] (fun i wr => ∃ a : Nat, a ≤ M ∧ i = .int .i64 a ∧ (∀ j, j < a → solveHit N seen model j = false) ∧ Below w.heap.size w wr) (fun i _ => M - (intOf i).toNat)
      case atStart => exact ⟨0, by omega, rfl, fun j hj => absurd hj (by omega), B2⟩
      case round =>
        obtain ⟨a, ha, rfl, hmiss, hbel⟩ := hrel
        have hr1 := hr.ext hbel
        have hr3 := hr2.ext hbel
        have hbs := hbel.size
        have Hmiss := Lib.hid hmiss; clear hmiss
        have Hbel := Lib.hid hbel; clear hbel
        by_cases hlt : a < M
        · have haM : (a : Int) < M := by omega
          go_wp2_with fail
          refine (Hpw.out _).mono ?_
          rintro e w3 ⟨rfl, rfl⟩
          go_wp2_with fail
          refine (l43Quarters_any N a N2 N7 (by omega) _).mono ?_
          rintro e w4 ⟨rfl, r4, b4⟩
          have B4 := Hbel.out.trans (b4.mono hbs)
          have hr14 := hr1.ext b4
          have hr34 := hr3.ext b4
          have ql := solveQ_len N a
          have q3 := solveQ_3 N a
          obtain ⟨q, hq⟩ : ∃ q, solveQ N a = q := ⟨_, rfl⟩
          rw [hq] at r4 ql q3
          obtain ⟨T, hT⟩ : ∃ T, turnedOf model q (pairsN N) = T := ⟨_, rfl⟩
          have hTl : T.length = m1 := by rw [← hT, turnedOf_len, ← Hl.out, Hn2.out]
          obtain ⟨hit, hhit⟩ : ∃ hit, solveHit N seen model a = hit := ⟨_, rfl⟩
          have hhit2 : decide (T = seen) = hit := by rw [← hhit, ← hT, ← hq]; rfl
          have hm21 : m1 ≤ 21 := by rw [← Hn2.out]; exact hl21
          have rq := r4.rd
          have Hq := Lib.hid hq; clear hq
          have HT := Lib.hid hT; clear hT
          have HTl := Lib.hid hTl; clear hTl
          have Hhit := Lib.hid hhit; clear hhit
          have Hhit2 := Lib.hid hhit2; clear hhit2
          have Ql := Lib.hid ql; clear ql
          have Q3 := Lib.hid q3; clear q3
          clear hr hr2 hr1 hr3 b4
          go_wp2_with fail
          refine (l43Turn_any N m1 capB N N2 N7 B _ model q _ Hn2.out (Hn2.out ▸ Hl.out) hm21 Hv.out Ql.out Q3.out hr34 rq).mono ?_
          rintro e w6 ⟨v, rfl, hown, b6⟩
          rw [HT.out] at hown
          obtain ⟨A6, c6, rfl⟩ := own_form hown
          have hr6 := hr14.ext b6
          have r6 := r4.kept b6
          have B6 := B4.trans (b6.mono B4.size)
          have Hown := Lib.hid hown
          clear hown b6 hr14 hr34 rq r4
          go_wp2_with fail
          refine (l43Same_any A6 A m1 c6 capA T seen _ HTl.out Hn.out (by omega) (Rd.of_own Hown.out) hr6).mono ?_
          rintro e w7 ⟨rfl, b7⟩
          rw [Hhit2.out]
          have r7 := r6.kept b7
          have B7 := B6.trans (b7.mono B6.size)
          clear b7 r6 hr6
          cases hit
          · have Hr7 := Lib.hid r7
            clear r7
            go_wp2_with fail
            go_roundw
            case measure => simp [intOf]; omega
            case rel =>
              refine ⟨a + 1, by omega, by go_num, fun j hj => ?_, B7⟩
              by_cases hja : j = a
              · rw [hja]; exact Hhit.out
              · exact Hmiss.out j (by omega)
          · have Hhv := Lib.hid (solveV_hit H1.out H2.out (by rw [HM.out]; exact hlt) Hhit.out Hmiss.out)
            go_wp2_with fail
            refine bodyPost_ret (v := .tuple #[.slice (some ⟨_, 0, none⟩) N N, .bool true]) (by simp [results, Try.results38, go_sem]; rfl) rfl ⟨_, by rw [Hhv.out]; rfl, ?_, B7⟩
            rw [Hhv.out]
            simp only [Option.getD_some]
            rw [Hq.out, Ql.out]
            exact r7.own hbs (by rw [List.length_map, Ql.out, Nat.mul_one]) (by unfold maxLen; omega)
        · obtain rfl : a = M := by omega
          have Hmv := Lib.hid (solveV_miss H1.out H2.out (fun j hj => Hmiss.out j (by rw [HM.out] at hj; exact hj)))
          go_wp2_with fail
          refine (Hpw.out _).mono ?_
          rintro e w3 ⟨rfl, rfl⟩
          have r1 := Row.new wr 3 []
          have B1 := Hbel.out.alloc hbs (.cells #[] 3)
          go_wp2_with fail
          refine bodyPost_ret (v := .tuple #[.slice (some ⟨wr.heap.size, 0, none⟩) 0 0, .bool false]) (by simp [results, Try.results38, go_sem]) rfl ?_
          rw [Hmv.out]
          exact ⟨_, rfl, r1.own hbs rfl (by decide), B1⟩
end Go.Proofs.Ytcllkocmnohnkaa
