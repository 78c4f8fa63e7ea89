/- 'WeightNatural' on both sides, at every input. -/
import Derived.Test.YtfandpgjlahnpaaNatI
import Derived.Test.YtfandpgjlahnpaaDrawA
namespace Go.Proofs.Ytfandpgjlahnpaa
open Go.RowKit

def natR (ants : List (Int × Int)) : List Int := if arrV ants then natL ants else []
theorem natR_yes {ants : List (Int × Int)} (h : arrV ants = true) : natR ants = natL ants := by unfold natR; rw [h]; rfl
theorem natR_no {ants : List (Int × Int)} (h : arrV ants = false) : natR ants = [] := by unfold natR; rw [h]; rfl
theorem weightNatural_any (A : Option Addr) (n ca : Nat) (ants : List (Int × Int)) (w : World) (hn : ants.length = n) (hk : n ≤ ca) (hnb : n ≤ 1048576) (hr : Rd w w.heap.size A (ants.flatMap pairCells)) :
    Calls Try.prog 15 #[.slice A n ca] w fun e w' => ∃ v, e = .returned (.tuple #[v, .bool (arrV ants)]) ∧ w'.ownsRow w.heap.size 3 1 v (natR ants).length ((natR ants).map (Value.int .i64)) ∧ Below w.heap.size w w' := by
  cases hA : arrV ants
  · rw [natR_no hA]
    have bA := Boxed.new w 23 (.slice A n ca)
    have hr' := hr.ext (bA1 (o := .cells #[.slice A n ca] 23))
    have cA := bA.cell
    have Hn := Lib.hid hn; clear hn
    have HA := Lib.hid hA; clear hA
    go_enter Try.func15, Try.ntmps15
    go_wp2_with fail
    refine (arrayValid_any A n ca ants _ Hn.out hk hnb hr').mono ?_
    rintro e w1 ⟨rfl, b1⟩
    rw [HA.out]
    have B1 := bA1.trans (b1.mono bA1.size)
    clear b1
    go_wp2_with fail
    refine bodyPost_ret (v := .tuple #[.slice none 0 0, .bool false]) (by simp [results, Try.results15, go_sem]) rfl ⟨_, rfl, World.ownsRow_nil _ _ _ _, B1⟩
  · rw [natR_yes hA, natL_len]
    refine (callsIn_wide.1 (weightNatural_in A n ca ants w hn hk hA hr)).mono ?_
    rintro e w' ⟨g, rfl, hg, hrow, hb⟩
    exact ⟨_, rfl, hrow.own hg (by rw [List.length_map, natL_len]) (by unfold maxLen; omega), hb⟩

set_option maxRecDepth 100000 in
set_option maxHeartbeats 1000000 in
theorem sWeightNatural_any (A : Option Addr) (n ca : Nat) (ants : List (Int × Int)) (w : World) (hn : ants.length = n) (hnb : n ≤ 1048576) (hr : Rd w w.heap.size A (ants.flatMap pairCells)) :
    Calls Try.prog 16 #[.slice A n ca] w fun e w' => ∃ v, e = .returned (.tuple #[v, .bool (arrV ants)]) ∧ w'.ownsRow w.heap.size 3 1 v (natR ants).length ((natR ants).map (Value.int .i64)) ∧ Below w.heap.size w w' := by
  cases hA : arrV ants
  · rw [natR_no hA]
    have Hn := Lib.hid hn; clear hn
    have HA := Lib.hid hA; clear hA
    go_enter Try.func16, Try.ntmps16
    go_wp2_with fail
    refine (sArrayValid_any A n ca ants _ Hn.out hnb hr).mono ?_
    rintro e w1 ⟨rfl, b1⟩
    rw [HA.out]
    have hbs := b1.size
    have r1 := Row.new w1 3 []
    have b2 := b1.alloc hbs (.cells #[] 3)
    go_wp2_with fail
    refine bodyPost_ret (v := .tuple #[.slice (some ⟨w1.heap.size, 0, none⟩) 0 0, .bool false]) (by simp [results, Try.results16, go_sem]) rfl ⟨_, rfl, r1.own hbs rfl (by decide), b2⟩
  · rw [natR_yes hA]
    obtain ⟨Z, hZ⟩ : ∃ Z, List.replicate 16 (Value.int .i64 0) = Z := ⟨_, rfl⟩
    have hmk : ∀ W : World, (Instr.makeSlice 25 (.int .i64 16) (.int .i64 16)).run Try.prog W = .ok (.slice (some ⟨W.heap.size, 0, none⟩) 16 16) (W.alloc (.cells Z.toArray 3)) := fun W => by
      rw [← hZ]; exact run_make1 (P := Try.prog) 25 3 (.int .i64 0) 8 Try.underlying25 (by kernel_rfl) rfl 16 (by omega) (by omega) W
    have hz2 : Z = (natV ants n 0 0).map (Value.int .i64) := by rw [← hZ, natV_zero, List.map_replicate]
    have hl := arrV_len hA
    have hgl := arrV_gLe hA
    have h2 : 2 ≤ n := by omega
    have h7 : n ≤ 7 := by omega
    have hend : natV ants n n 0 = natL ants := by rw [← hn]; exact natV_all ants hl.1 hl.2
    have Hz2 := Lib.hid hz2
    clear hl hZ hz2
    obtain ⟨bS, oS, rfl⟩ : ∃ b o, A = some ⟨b, o, none⟩ := by
      obtain ⟨b, o, rfl, _⟩ := rd_pair hr (getD_of (gs := ants) (k := 0) (by omega))
      exact ⟨b, o, rfl⟩
    have Hn := Lib.hid hn; clear hn
    have HA := Lib.hid hA; clear hA
    have Hgl := Lib.hid hgl; clear hgl
    have Hend := Lib.hid hend; clear hend
    go_enter Try.func16, Try.ntmps16
    go_wp2_with fail
    refine (sArrayValid_any _ n ca ants _ Hn.out hnb hr).mono ?_
    rintro e w1 ⟨rfl, b1⟩
    rw [HA.out]
    have hr1 := hr.ext b1
    go_wp2_with (go_at_call 73; refine (l21Cells_any _).mono ?_; rintro e w' ⟨rfl, rfl⟩)
    clear hmk
    have g0 := Row.new w1 3 Z
    have hb0 := bA1 (w := w1) (o := .cells Z.toArray 3)
    rw [Hz2.out] at g0 hb0 ⊢
    have hr2 := hr1.ext hb0
    obtain ⟨W0, hW0⟩ : ∃ W0, w1.alloc (.cells ((natV ants n 0 0).map (Value.int .i64)).toArray 3) = W0 := ⟨_, rfl⟩
    obtain ⟨g, hg⟩ : ∃ g, w1.heap.size = g := ⟨_, rfl⟩
    rw [hW0] at g0 hb0 hr2 ⊢
    simp only [hg] at g0 ⊢
    have hB0 := b1.trans (hb0.mono b1.size)
    have hgw : w.heap.size ≤ g := by rw [← hg]; exact b1.size
    have hgW : g < W0.heap.size := g0.lt
    have hsb : ∀ (b o : Nat) (xs : List Value), Rd w1 w1.heap.size (some ⟨b, o, none⟩) xs → ∀ i u, xs[i]? = some u → b < g := fun b o xs h i u hu => by
      obtain ⟨_, _, e, hb, _⟩ := h i u hu
      cases e
      rw [← hg]; exact hb
    have hbg : bS < g := by
      obtain ⟨_, _, e, hb, _⟩ := rd_pair hr1 (getD_of (gs := ants) (k := 0) (by rw [Hn.out]; omega))
      cases e
      rw [← hg]; exact hb
    clear hW0 hg hsb hb0 b1 hr hr1
    go_loopw [5] (fun p wr => ∃ i : Nat, i ≤ n ∧ p = .int .i64 i ∧ Row wr g 3 ((natV ants n i 0).map (Value.int .i64)) ∧ W0.grownBy wr (some g)) (fun p _ => n - (intOf p).toNat)
    case atStart => exact ⟨0, by omega, rfl, g0, grown_refl _ _⟩
    case round =>
      clear g0
      obtain ⟨i, hi, rfl, hrow, hgr⟩ := hrel
      by_cases hlt : i < n
      · go_wp2_with fail
        go_loopw [6] (fun p wr2 => ∃ j : Nat, j ≤ n ∧ p = .int .i64 j ∧ Row wr2 g 3 ((natV ants n i j).map (Value.int .i64)) ∧ W0.grownBy wr2 (some g)) (fun p _ => n - (intOf p).toNat)
        case atStart => exact ⟨0, by omega, rfl, hrow, hgr⟩
        case round =>
          clear hrow hgr
          obtain ⟨j, hj, rfl, hrow, hgr⟩ := hrel
          by_cases hltj : j < n
          · by_cases hij : i = j
            · obtain rfl : i = j := hij
              have hne : ((i : Int) != (i : Int)) = false := by simp
              rw [← natV_same] at hrow
              go_wp2_with fail
              go_roundw
              case rel => exact ⟨i + 1, by omega, by go_num, hrow, hgr⟩
              case measure => simp [intOf]; omega
            · have hne : ((i : Int) != (j : Int)) = true := by rw [bne_iff_ne]; omega
              have hrw := hr2.over hgr (fun b off e => .inl (by cases e; omega))
              obtain ⟨_, _, e, hbw, i0, i1⟩ := rd_pair hrw (getD_of (gs := ants) (k := i) (by rw [Hn.out]; exact hlt))
              cases e
              obtain ⟨_, _, e, _, j0, j1⟩ := rd_pair hrw (getD_of (gs := ants) (k := j) (by rw [Hn.out]; exact hltj))
              cases e
              have hvb := vec_bd Hgl.out i j
              have e1 : vecX ants i j = (ants.getD j (0, 0)).1 - (ants.getD i (0, 0)).1 := rfl
              have e2 : vecY ants i j = (ants.getD j (0, 0)).2 - (ants.getD i (0, 0)).2 := rfl
              obtain ⟨c, hc⟩ : ∃ c, vecC ants i j = c := ⟨_, rfl⟩
              have hc16 : c < 16 := by rw [← hc]; exact vecC_lt _ _ _
              have hcI : cellI (vecX ants i j) (vecY ants i j) = (c : Int) := by rw [← hc]; exact cellN_cast _ _
              have hst := natV_step ants n i j hij
              rw [hc] at hst
              rw [e1, e2] at hvb hcI
              have hVb := natV_bd ants n i j c (by omega) (by omega) h7
              have hVl := natV_len ants n i j
              obtain ⟨P, hP⟩ : ∃ P, natV ants n i j = P := ⟨_, rfl⟩
              rw [hP] at hrow hst hVb hVl
              obtain ⟨y, hy⟩ : ∃ y, P.getD c 0 = y := ⟨_, rfl⟩
              rw [hy] at hVb
              have py := ints_at (l := P) (c := c) (by rw [hVl]; exact hc16)
              rw [hy] at py
              have hinc := incL_map P c
              rw [hy] at hinc
              clear e1 e2 hc hrw
              generalize ants.getD i (0, 0) = u at *
              generalize ants.getD j (0, 0) = v at *
              have k1 : IntKind.i64.wrap (v.1 - u.1) = v.1 - u.1 := IntWalk.i64_in _ (by omega)
              have k2 : IntKind.i64.wrap (v.2 - u.2) = v.2 - u.2 := IntWalk.i64_in _ (by omega)
              have I0 : ∀ w', Below wr.heap.size wr w' → w'.cell? ⟨bS, oS + i * 2, none⟩ = some (.int .i64 u.1) := fun w' h => (bcl h hbw _).trans i0
              have I1 : ∀ w', Below wr.heap.size wr w' → w'.cell? ⟨bS, oS + i * 2 + 1, none⟩ = some (.int .i64 u.2) := fun w' h => (bcl h hbw _).trans i1
              have J0 : ∀ w', Below wr.heap.size wr w' → w'.cell? ⟨bS, oS + j * 2, none⟩ = some (.int .i64 v.1) := fun w' h => (bcl h hbw _).trans j0
              have J1 : ∀ w', Below wr.heap.size wr w' → w'.cell? ⟨bS, oS + j * 2 + 1, none⟩ = some (.int .i64 v.2) := fun w' h => (bcl h hbw _).trans j1
              have Hst := Lib.hid hst; clear hst
              have HP := Lib.hid hP; clear hP
              have Hy := Lib.hid hy; clear hy
              have Hinc := Lib.hid hinc; clear hinc
              have K1 := Lib.hid k1; clear k1
              have K2 := Lib.hid k2; clear k2
              have Py := Lib.hid py; clear py
              clear i0 i1 j0 j1
              go_wp2_with fail
              refine wp_region_N [] [] (by kernel_rfl) (by kernel_rfl) ?_
              refine wpStill_go (v := .slice (some ⟨bS, oS, none⟩) n ca) rfl rfl (stays_run fun w' h => ex_move rfl rfl) ?_
              simp only [Act.put, List.setIfInBounds_toArray, List.set_cons_succ, List.set_cons_zero, Nat.reduceAdd]
              refine wpStill_go (v := .int .i64 j) rfl rfl (stays_run fun w' h => ex_move rfl rfl) ?_
              simp only [Act.put, List.setIfInBounds_toArray, List.set_cons_succ, List.set_cons_zero, Nat.reduceAdd]
              refine wpStill_go (v := .pointer (some ⟨bS, oS + j * 2, none⟩)) rfl rfl (stays_run fun w' h => ex_index rfl (by kernel_rfl) (by kernel_rfl) rfl rfl (hltj)) ?_
              simp only [Act.put, List.setIfInBounds_toArray, List.set_cons_succ, List.set_cons_zero, Nat.reduceAdd]
              refine wpStill_go (v := .pointer (some ⟨bS, oS + j * 2, none⟩)) rfl rfl (stays_run fun w' h => by simp [go_sem]) ?_
              simp only [Act.put, List.setIfInBounds_toArray, List.set_cons_succ, List.set_cons_zero, Nat.reduceAdd]
              refine wpStill_go (v := .int .i64 v.1) rfl rfl (stays_run fun w' h => ex_load rfl rfl (ld_one (by kernel_rfl) (J0 w' h))) ?_
              simp only [Act.put, List.setIfInBounds_toArray, List.set_cons_succ, List.set_cons_zero, Nat.reduceAdd]
              refine wpStill_go (v := .slice (some ⟨bS, oS, none⟩) n ca) rfl rfl (stays_run fun w' h => ex_move rfl rfl) ?_
              simp only [Act.put, List.setIfInBounds_toArray, List.set_cons_succ, List.set_cons_zero, Nat.reduceAdd]
              refine wpStill_go (v := .int .i64 i) rfl rfl (stays_run fun w' h => ex_move rfl rfl) ?_
              simp only [Act.put, List.setIfInBounds_toArray, List.set_cons_succ, List.set_cons_zero, Nat.reduceAdd]
              refine wpStill_go (v := .pointer (some ⟨bS, oS + i * 2, none⟩)) rfl rfl (stays_run fun w' h => ex_index rfl (by kernel_rfl) (by kernel_rfl) rfl rfl (hlt)) ?_
              simp only [Act.put, List.setIfInBounds_toArray, List.set_cons_succ, List.set_cons_zero, Nat.reduceAdd]
              refine wpStill_go (v := .pointer (some ⟨bS, oS + i * 2, none⟩)) rfl rfl (stays_run fun w' h => by simp [go_sem]) ?_
              simp only [Act.put, List.setIfInBounds_toArray, List.set_cons_succ, List.set_cons_zero, Nat.reduceAdd]
              refine wpStill_go (v := .int .i64 u.1) rfl rfl (stays_run fun w' h => ex_load rfl rfl (ld_one (by kernel_rfl) (I0 w' h))) ?_
              simp only [Act.put, List.setIfInBounds_toArray, List.set_cons_succ, List.set_cons_zero, Nat.reduceAdd]
              refine wpStill_go (v := .int .i64 (v.1 - u.1)) rfl rfl (stays_run fun w' h => by simp [go_sem, K1.out]) ?_
              simp only [Act.put, List.setIfInBounds_toArray, List.set_cons_succ, List.set_cons_zero, Nat.reduceAdd]
              refine wpStill_go (v := .slice (some ⟨bS, oS, none⟩) n ca) rfl rfl (stays_run fun w' h => ex_move rfl rfl) ?_
              simp only [Act.put, List.setIfInBounds_toArray, List.set_cons_succ, List.set_cons_zero, Nat.reduceAdd]
              refine wpStill_go (v := .int .i64 j) rfl rfl (stays_run fun w' h => ex_move rfl rfl) ?_
              simp only [Act.put, List.setIfInBounds_toArray, List.set_cons_succ, List.set_cons_zero, Nat.reduceAdd]
              refine wpStill_go (v := .pointer (some ⟨bS, oS + j * 2, none⟩)) rfl rfl (stays_run fun w' h => ex_index rfl (by kernel_rfl) (by kernel_rfl) rfl rfl (hltj)) ?_
              simp only [Act.put, List.setIfInBounds_toArray, List.set_cons_succ, List.set_cons_zero, Nat.reduceAdd]
              refine wpStill_go (v := .pointer (some ⟨bS, oS + j * 2 + 1, none⟩)) rfl rfl (stays_run fun w' h => by simp [go_sem]) ?_
              simp only [Act.put, List.setIfInBounds_toArray, List.set_cons_succ, List.set_cons_zero, Nat.reduceAdd]
              refine wpStill_go (v := .int .i64 v.2) rfl rfl (stays_run fun w' h => ex_load rfl rfl (ld_one (by kernel_rfl) (J1 w' h))) ?_
              simp only [Act.put, List.setIfInBounds_toArray, List.set_cons_succ, List.set_cons_zero, Nat.reduceAdd]
              refine wpStill_go (v := .slice (some ⟨bS, oS, none⟩) n ca) rfl rfl (stays_run fun w' h => ex_move rfl rfl) ?_
              simp only [Act.put, List.setIfInBounds_toArray, List.set_cons_succ, List.set_cons_zero, Nat.reduceAdd]
              refine wpStill_go (v := .int .i64 i) rfl rfl (stays_run fun w' h => ex_move rfl rfl) ?_
              simp only [Act.put, List.setIfInBounds_toArray, List.set_cons_succ, List.set_cons_zero, Nat.reduceAdd]
              refine wpStill_go (v := .pointer (some ⟨bS, oS + i * 2, none⟩)) rfl rfl (stays_run fun w' h => ex_index rfl (by kernel_rfl) (by kernel_rfl) rfl rfl (hlt)) ?_
              simp only [Act.put, List.setIfInBounds_toArray, List.set_cons_succ, List.set_cons_zero, Nat.reduceAdd]
              refine wpStill_go (v := .pointer (some ⟨bS, oS + i * 2 + 1, none⟩)) rfl rfl (stays_run fun w' h => by simp [go_sem]) ?_
              simp only [Act.put, List.setIfInBounds_toArray, List.set_cons_succ, List.set_cons_zero, Nat.reduceAdd]
              refine wpStill_go (v := .int .i64 u.2) rfl rfl (stays_run fun w' h => ex_load rfl rfl (ld_one (by kernel_rfl) (I1 w' h))) ?_
              simp only [Act.put, List.setIfInBounds_toArray, List.set_cons_succ, List.set_cons_zero, Nat.reduceAdd]
              refine wpStill_go (v := .int .i64 (v.2 - u.2)) rfl rfl (stays_run fun w' h => by simp [go_sem, K2.out]) ?_
              simp only [Act.put, List.setIfInBounds_toArray, List.set_cons_succ, List.set_cons_zero, Nat.reduceAdd]
              refine wpStill_go (v := .int .i64 (c : Nat)) rfl rfl (stays_call (f := 74) (args := #[.int .i64 (v.1 - u.1), .int .i64 (v.2 - u.2)]) (fun w' h => by simp [go_sem]) (fun w' _ => by rw [← hcI]; exact (l21At_any _ _ w').mono fun e w'' ⟨h, h2⟩ => ⟨h, h2 ▸ Below.refl _ _⟩)) ?_
              simp only [Act.put, List.setIfInBounds_toArray, List.set_cons_succ, List.set_cons_zero, Nat.reduceAdd]
              refine wpStill_go (v := .int .i64 (c : Nat)) rfl rfl (stays_run fun w' h => by simp [go_sem]) ?_
              simp only [Act.put, List.setIfInBounds_toArray, List.set_cons_succ, List.set_cons_zero, Nat.reduceAdd]
              refine wpStill_nil ?_
              repeat (refine wpMark_skip rfl ?_)
              refine wpMark_nil fun V hV => ?_
              have hV := (Below.refl _ _).drew.trans hV
              simp only [onlyN, Exit.then]
              have rV := hrow.kept hV
              have ck := (rV.cell c).trans Py.out
              have fk := rV.frozen c
              have rS := rV.set_ c (.int .i64 (y + 1))
              rw [Hinc.out, ← Hst.out] at rS
              have gV := grown_trans (grown_trans hgr (below_grown hV g)) (grown_set V g c (.int .i64 (y + 1)))
              have hcI2 : (c : Int) < 16 := by omega
              clear I0 I1 J0 J1 hV hrow hgr rV hcI
              have RS := Lib.hid rS
              clear rS
              go_wp2_with fail
              go_roundw
              case rel => exact ⟨j + 1, by omega, by go_num, RS.out, gV⟩
              case measure => simp [intOf]; omega
          · obtain rfl : j = n := by omega
            rw [natV_row] at hrow
            go_wp2_with fail
            go_roundw
            case rel => exact ⟨i + 1, by omega, by go_num, hrow, hgr⟩
            case measure => simp [intOf]; omega
      · obtain rfl : i = n := by omega
        rw [Hend.out] at hrow
        go_wp2_with fail
        refine bodyPost_ret (v := .tuple #[.slice (some ⟨g, 0, none⟩) 16 16, .bool true]) (by simp [results, Try.results16, go_sem]) rfl ⟨_, rfl, by rw [natL_len]; exact hrow.own hgw (by rw [List.length_map, natL_len]) (by decide), hB0.grown hgr hB0.size fun j e => by cases e; exact hgw⟩
end Go.Proofs.Ytfandpgjlahnpaa
