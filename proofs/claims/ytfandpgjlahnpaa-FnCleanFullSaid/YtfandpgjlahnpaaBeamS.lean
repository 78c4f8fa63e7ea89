/- 'impl.BeamOf' and 'spec.BeamOf' at every coverage; 'CoverMany'. -/
import Derived.Test.YtfandpgjlahnpaaBeam
namespace Go.Proofs.Ytfandpgjlahnpaa
open Go.RowKit

def beamR (c : List Bool) : List Int := if covV c then beamL c else []
theorem beamR_yes {c : List Bool} (h : covV c = true) : beamR c = beamL c := by unfold beamR; rw [h]; rfl
theorem beamR_no {c : List Bool} (h : covV c = false) : beamR c = [] := by unfold beamR; rw [h]; rfl

theorem beamOf_any (A : Option Addr) (n cap : Nat) (c : List Bool) (w : World) (hn : c.length = n) (hr : Rd w w.heap.size A (c.map Value.bool)) :
    Calls Try.prog 23 #[.slice A n cap] w fun e w' => ∃ v, e = .returned (.tuple #[v, .bool (covV c)]) ∧ w'.ownsRow w.heap.size 3 1 v (beamR c).length ((beamR c).map (Value.int .i64)) ∧ Below w.heap.size w w' := by
  cases hv : covV c
  · rw [beamR_no hv]
    have Hv := Lib.hid hv
    have no : ∀ w, Rd w w.heap.size A (c.map Value.bool) → Calls Try.prog 82 #[.slice A n cap] w fun e w' => e = .returned (.tuple #[.slice none 0 0, .bool false]) ∧ w = w' := fun w hr => by
      clear hv
      go_enter Try.func82, Try.ntmps82
      go_wp2_with fail
      refine (coverValid_any A n cap c _ w.heap.size hn hr).mono ?_
      rintro e w' ⟨rfl, rfl⟩
      rw [Hv.out]
      clear hn
      go_wp2_with fail
      refine bodyPost_ret (v := .tuple #[.slice none 0 0, .bool false]) (by simp [results, Try.results82, go_sem]) rfl ⟨rfl, rfl⟩
    clear hv hn
    go_enter Try.func23, Try.ntmps23
    go_wp2_with fail
    refine (no _ hr).mono ?_
    rintro e w1 ⟨rfl, rfl⟩
    go_wp2_with fail
    refine bodyPost_ret (v := .tuple #[.slice none 0 0, .bool false]) (by simp [results, Try.results23, go_sem]) rfl ⟨_, rfl, World.ownsRow_nil _ _ _ _, Below.refl _ _⟩
  · have hl := covV_len hv
    obtain rfl : n = 16 := by omega
    rw [beamR_yes hv, beamL_len]
    exact beamOf_yes A cap c w hv hr

theorem field_re (x y : Int) (w : World) : (Instr.field 31 (.agg #[.int .i64 x, .int .i64 y]) 0).run Try.prog w = .ok (.int .i64 x) w := by
  simp [Instr.field, go_sem, asAgg]
theorem ph_cast (k l : Nat) : ((k : Int) % 4 * ((l : Int) % 4) + (k : Int) / 4 * ((l : Int) / 4)) = ph k l := by
  unfold ph
  push_cast
  rfl
theorem prod4 (a b : Nat) (ha : a < 16) (hb : b < 16) : (0 ≤ (a : Int) % 4 * ((b : Int) % 4) ∧ (a : Int) % 4 * ((b : Int) % 4) ≤ 9) ∧ 0 ≤ (a : Int) / 4 * ((b : Int) / 4) ∧ (a : Int) / 4 * ((b : Int) / 4) ≤ 9 := by
  have h1 : a % 4 * (b % 4) ≤ 3 * 3 := Nat.mul_le_mul (by omega) (by omega)
  have h2 : a / 4 * (b / 4) ≤ 3 * 3 := Nat.mul_le_mul (by omega) (by omega)
  have e1 : (a : Int) % 4 * ((b : Int) % 4) = ((a % 4 * (b % 4) : Nat) : Int) := by push_cast; rfl
  have e2 : (a : Int) / 4 * ((b : Int) / 4) = ((a / 4 * (b / 4) : Nat) : Int) := by push_cast; rfl
  rw [e1, e2]
  omega

set_option maxRecDepth 100000 in
set_option maxHeartbeats 2000000 in
theorem sBeamOf_any (A : Option Addr) (n cap : Nat) (c : List Bool) (w : World) (hn : c.length = n) (hr : Rd w w.heap.size A (c.map Value.bool)) :
    Calls Try.prog 24 #[.slice A n cap] w fun e w' => ∃ v, e = .returned (.tuple #[v, .bool (covV c)]) ∧ w'.ownsRow w.heap.size 3 1 v (beamR c).length ((beamR c).map (Value.int .i64)) ∧ Below w.heap.size w w' := by
  obtain ⟨i0, hi, hz0, hz1, hz2⟩ := info_parts intInfo
  have r0 := Row.new w 3 []
  have hr' := hr.ext (bA1 (o := .cells #[] 3))
  cases hv : covV c
  · rw [beamR_no hv]
    have Hv := Lib.hid hv
    have Hn := Lib.hid hn; clear hn
    clear hv
    go_enter Try.func24, Try.ntmps24
    go_wp2_with fail
    refine (sCoverValid_any A n cap c _ Hn.out hr').mono ?_
    rintro e w1 ⟨rfl, b1⟩
    rw [Hv.out]
    have r1 := r0.kept b1
    have b2 := (bA1 (w := w)).trans (b1.mono bA1.size)
    clear b1 r0 hr'
    go_wp2_with fail
    refine bodyPost_ret (v := .tuple #[.slice (some ⟨w.heap.size, 0, none⟩) 0 0, .bool false]) (by simp [results, Try.results24, go_sem]) rfl ⟨_, rfl, r1.own (Nat.le_refl _) rfl (by decide), b2⟩
  · have hl := covV_len hv
    obtain rfl : n = 16 := by omega
    rw [beamR_yes hv, beamL_len]
    have Hv := Lib.hid hv
    have Hn := Lib.hid hn; clear hn
    have Hl := Lib.hid hl; clear hl
    clear hv
    go_enter Try.func24, Try.ntmps24
    go_wp2_with fail
    refine (sCoverValid_any A 16 cap c _ Hn.out hr').mono ?_
    rintro e w1 ⟨rfl, b1⟩
    rw [Hv.out]
    have r1 := r0.kept b1
    have b2 := (bA1 (w := w)).trans (b1.mono bA1.size)
    have o1 := r1.own (base := w.heap.size) (n := 0) (size := 1) (Nat.le_refl _) rfl (by decide)
    clear b1 r0 hr'
    go_wp2_with fail
    go_loopw [4, 5] (fun v i wr => ∃ k : Nat, k ≤ 16 ∧ i = .int .i64 k ∧ wr.ownsRow w.heap.size 3 1 v k (((beamL c).take k).map (Value.int .i64)) ∧ Below w.heap.size w wr) (fun _ i _ => 16 - (intOf i).toNat)
    case atStart => exact ⟨0, by omega, rfl, o1, b2⟩
    case round =>
      clear o1 b2 r1
      obtain ⟨k, hk, rfl, hrow, hbel⟩ := hrel
      have hr2 := (hr.below hbel)
      by_cases hlt : k < 16
      · have hk16 : (k : Int) < 16 := by omega
        go_wp2_with fail
        refine (l21Cells_any _).mono ?_
        rintro e w' ⟨rfl, rfl⟩
        go_wp2_with fail
        go_loopw [6, 7] (fun m i wr2 => ∃ l : Nat, l ≤ 16 ∧ i = .int .i64 l ∧ m = .int .i64 (beamSum c k l) ∧ wr2.ownsRow w.heap.size 3 1 u4 k (((beamL c).take k).map (Value.int .i64)) ∧ Below w.heap.size w wr2) (fun _ i _ => 16 - (intOf i).toNat)
        case atStart => exact ⟨0, by omega, rfl, rfl, hrow, hbel⟩
        case round =>
          clear hrow hbel hr2
          obtain ⟨l, hll, rfl, rfl, hrow, hbel⟩ := hrel
          have hr2 := (hr.below hbel)
          have hbs := hbel.size
          have Hrow := Lib.hid hrow; clear hrow
          have Hbel := Lib.hid hbel; clear hbel
          have hbd := beamSum_bd c k l
          by_cases hlt2 : l < 16
          · have hl16 : (l : Int) < 16 := by omega
            go_wp2_with fail
            refine (l21Cells_any _).mono ?_
            rintro e w' ⟨rfl, rfl⟩
            obtain ⟨b, off, rfl, hb, hc⟩ := hr2 l _ (bools_get (by rw [Hn.out]; exact hlt2))
            have hs := beamSum_succ c k l
            unfold beamTerm at hs
            generalize beamSum c k l = m at *
            cases hx : c.getD l false
            · rw [hx] at hc hs
              simp only [Bool.false_eq_true, if_false, Int.add_zero] at hs
              have Hx := Lib.hid hx; clear hx
              have Hs := Lib.hid hs; clear hs
              go_wp2_with fail
              go_roundw
              case measure => simp [intOf]; omega
              case rel => exact ⟨l + 1, by omega, by go_num, by rw [Hs.out], Hrow.out, Hbel.out⟩
            · rw [hx] at hc hs
              simp only [if_true] at hs
              have hp := prod4 k l hlt hlt2
              have hpc := ph_cast k l
              have hub := unit_bd (ph k l)
              unfold GB at hub
              obtain ⟨⟨ua, ub⟩, uc, ud⟩ := hub
              generalize hux : (unit (ph k l)).1 = ux at *
              generalize huy : (unit (ph k l)).2 = uy at *
              have Hx := Lib.hid hx; clear hx
              have Hs := Lib.hid hs; clear hs
              have Hpc := Lib.hid hpc; clear hpc
              have Hux := Lib.hid hux; clear hux
              have Huy := Lib.hid huy; clear huy
              go_wp2_with fail
              refine (sGaussUnit_any _ _).mono ?_
              rw [Hpc.out, Hux.out, Huy.out]
              rintro e w3 ⟨rfl, b3⟩
              have Hrow := Lib.hid (own_ext Hrow.out b3)
              have Hbel := Lib.hid (Hbel.out.trans (b3.mono hbs))
              clear b3
              have hfl := fun w => field_re ux uy w
              go_wp2_with fail
              go_roundw
              case measure => simp [intOf]; omega
              case rel => exact ⟨l + 1, by omega, by go_num, by rw [Hs.out], Hrow.out, Hbel.out⟩
          · obtain rfl : l = 16 := by omega
            go_wp2_with fail
            refine (l21Cells_any _).mono ?_
            rintro e w' ⟨rfl, rfl⟩
            have hts := take_succ_getD (l := beamL c) (d := 0) (k := k) (by rw [beamL_len]; exact hlt)
            rw [beamL_get c k hlt] at hts
            generalize beamSum c k 16 = m at *
            have Hts := Lib.hid hts; clear hts
            go_wp2_with (at_builtin; refine wpList_append_own _ rfl _ _ 25 rfl w.heap.size 3 i0 (.int .i64 0) 1 8 (by kernel_rfl) hi hz0 hz1 hz2 rfl (by decide) _ k _ rfl (Hrow.out.alloc _) ⟨wr.heap.size, 0, none⟩ 1 1 [.int .i64 (m)] rfl rfl (cell_one_new _ _ _) (by simp [Value.oneCell']) (by unfold maxLen; omega) (by omega) (by simp; omega) ?_; intro v' w7 hown' hgrow _; obtain ⟨g', cap', rfl⟩ := ownsRow_succ hown')
            have hb7 := (Hbel.out.alloc hbs _).grown hgrow (by simp; omega) fun j hj => (own_lt Hrow.out hj).1
            have Hb7 := Lib.hid hb7; clear hb7
            have Hown' := Lib.hid hown'; clear hown'
            clear hgrow
            go_wp2_with fail
            go_roundw
            case measure => simp [intOf]; omega
            case rel =>
              refine ⟨k + 1, by omega, by go_num, ?_, Hb7.out⟩
              rw [Hts.out, List.map_append]
              exact Hown'.out
      · go_wp2_with fail
        refine (l21Cells_any _).mono ?_
        rintro e w' ⟨rfl, rfl⟩
        obtain rfl : k = 16 := by omega
        rw [List.take_of_length_le (by rw [beamL_len]; exact Nat.le_refl _)] at hrow
        have Hrow := Lib.hid hrow; clear hrow
        go_wp2_with fail
        refine bodyPost_ret (v := .tuple #[u4, .bool true]) (by simp [results, Try.results24, go_sem]) rfl ⟨_, rfl, Hrow.out, hbel⟩
end Go.Proofs.Ytfandpgjlahnpaa
