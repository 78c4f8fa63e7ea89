/- Point sources: the program's VisPoint and VisPhases. -/
import Derived.Test.YtipgpafgampfbaaGreatDoorB4
import Derived.Test.YtipgpafgampfbaaGreatDoorB2
import Derived.OwnWalkIn
namespace Go.Proofs.YtipgpafgampfbaaGreatDoor
open Go.RowKit
attribute [local go_sem] Oper.semAt_some

set_option maxRecDepth 100000 in
set_option maxHeartbeats 1000000 in
theorem visPhases_yes (n : Int) (A : Option Addr) (m cap : Nat) (vs : List (Int × Int)) (w : World) (hv : visV n vs = true) (hn : vs.length = m) (hr : Rd w w.heap.size A (vs.flatMap pairCells)) :
    Calls Tryz.prog 96 #[.int .i64 n, .slice A m cap] w fun e w' => ∃ v, e = .returned v ∧ w'.ownsRow w.heap.size 3 1 v m ((vs.map (·.2)).map (Value.int .i64)) ∧ Below w.heap.size w w' := by
  obtain ⟨i0, hi, hz0, hz1, hz2⟩ := info_parts intInfo
  obtain ⟨v1, v2, v3⟩ := visV_iff.1 hv
  have hm21 : m ≤ 21 := by have := bm_le n; omega
  have Hn := Lib.hid hn; clear hn
  have Hv := Lib.hid hv; clear hv
  have V2 := Lib.hid v2; clear v2
  have V3 := Lib.hid v3; clear v3
  go_enter Tryz.func96, Tryz.ntmps96
  go_wp2_with fail
  refine (visValid_any n A m cap vs _ Hn.out (by omega) hr).mono ?_
  rintro e w1 ⟨rfl, b1⟩
  rw [Hv.out]
  have hr1 := hr.below b1
  have hs1 := b1.size
  go_wp2_with fail
  go_loopw [5, 14] (fun o i wr => ∃ k : Nat, k ≤ m ∧ i = .int .i64 k ∧ wr.ownsRow w.heap.size 3 1 o k (((vs.take k).map (·.2)).map (Value.int .i64)) ∧ Below w.heap.size w wr) (fun _ i _ => m - (intOf i).toNat)
  case atStart => exact ⟨0, by omega, rfl, World.ownsRow_nil _ _ _ _, b1⟩
  case round =>
    obtain ⟨k, hk, rfl, hown, hbel⟩ := hrel
    obtain ⟨Ao, co, rfl⟩ := own_form hown
    have hr' := hr.below hbel
    have hsz := hbel.size
    by_cases hlt : k < m
    · have hg : vs[k]? = some (vs.getD k (0, 0)) := getD_of (by rw [Hn.out]; exact hlt)
      have hts := take_succ_getD (d := (0, 0)) (show k < vs.length by rw [Hn.out]; exact hlt)
      generalize vs.getD k (0, 0) = g at *
      obtain ⟨b, off, rfl, hb, hc1, hc2⟩ := rd_pair hr' hg
      obtain ⟨a, p⟩ := g
      dsimp only at hc1 hc2
      have Hown := Lib.hid hown; clear hown
      have Hts := Lib.hid hts; clear hts
      have Hg := Lib.hid hg; clear hg
      clear hr'
      go_wp2_with (at_builtin; go_loud (refine wpList_append_own _ rfl _ _ 32 rfl w.heap.size 3 i0 (.int .i64 0) 1 8 (by kernel_rfl) hi hz0 hz1 hz2 rfl (by decide) _ k _ rfl ((Hown.out.alloc _).alloc _) ⟨wr.heap.size + 1, 0, none⟩ 1 1 [.int .i64 p] rfl rfl (cell_one_new1 _ _ _ _) (by simp [Value.oneCell']) (by unfold maxLen; omega) (by omega) (by simp; omega) ?_); intro v' w7 hown' hgrow _; obtain ⟨g', cap', rfl⟩ := ownsRow_succ hown')
      have hb7 := (((hbel.alloc hsz _).alloc (by simp; omega) (.cells #[.int .i64 p] 3)).grown hgrow (by simp; omega) fun j hj => (own_lt Hown.out hj).1)
      have Hown' := Lib.hid hown'; clear hown'
      have Hb7 := Lib.hid hb7; clear hb7
      clear hgrow
      go_wp2_with fail
      go_roundw
      case measure => simp [intOf]; omega
      case rel =>
        refine ⟨k + 1, by omega, by go_num, ?_, Hb7.out⟩
        rw [Hts.out, List.map_append, List.map_append]
        exact Hown'.out
    · obtain rfl : k = m := by omega
      rw [List.take_of_length_le (by rw [Hn.out]; exact Nat.le_refl _)] at hown
      have Hown := Lib.hid hown; clear hown
      go_wp2_with fail
      go_ret
      exact ⟨_, rfl, Hown.out, hbel⟩
theorem visPhases_no (n : Int) (A : Option Addr) (m cap : Nat) (vs : List (Int × Int)) (w : World) (hv : visV n vs = false) (hn : vs.length = m) (hm : m ≤ 1000000000) (hr : Rd w w.heap.size A (vs.flatMap pairCells)) :
    Calls Tryz.prog 96 #[.int .i64 n, .slice A m cap] w fun e w' => e = .returned (.slice none 0 0) ∧ Below w.heap.size w w' := by
  have Hn := Lib.hid hn; clear hn
  have Hv := Lib.hid hv; clear hv
  go_enter Tryz.func96, Tryz.ntmps96
  go_wp2_with fail
  refine (visValid_any n A m cap vs _ Hn.out hm hr).mono ?_
  rintro e w1 ⟨rfl, b1⟩
  rw [Hv.out]
  go_wp2_with fail
  go_ret
  exact ⟨rfl, b1⟩

/-- What holds between the rounds. -/
def VpI (n cap : Nat) (A : Option Addr) (xs : List (Int × Int)) (d1 d2 amp : Int) (w : World) (b : Nat) (pre : List (BP n)) (W : World) : Prop :=
  BoxRow b b 53 58 2 pre.length ((ptL xs (d1, d2) amp (pre.map (·.1))).flatMap pairCells) W ∧ Boxed W w.heap.size 26 (.slice A n cap) ∧ Row W (w.heap.size + 1) 50 [.int .i64 d1, .int .i64 d2] ∧
    Boxed W (w.heap.size + 1 + 1) 3 (.int .i64 amp) ∧ Boxed W (b + 1) 3 (.int .i64 n) ∧ Below w.heap.size w W
theorem VpI_own (n cap : Nat) (A : Option Addr) (xs : List (Int × Int)) (d1 d2 amp : Int) (w : World) (b N : Nat) (hN : w.heap.size ≤ N) : OwnFrom N (VpI n cap A xs d1 d2 amp w b) := by
  intro s W W' row hs hg hr
  obtain ⟨h1, h2, h3, h5, h6, h4⟩ := hs
  have hr2 := fun r e => (hr r e).2
  exact ⟨h1.kept hg hr2, Boxed.keptI h2 hg hr2, row_keptI h3 hg hr2, Boxed.keptI h5 hg hr2, Boxed.keptI h6 hg hr2, ownFrom_below (β := Unit) (Nat.le_refl _) hN () W W' row h4 hg hr⟩

set_option maxRecDepth 100000 in
set_option maxHeartbeats 1000000 in
theorem visPoint_in (A : Option Addr) (n cap : Nat) (xs : List (Int × Int)) (d1 d2 amp : Int) (w : World) (hn : xs.length = n) (hk : n ≤ cap) (hv : ptV xs (d1, d2) amp = true) (hr : Rd w w.heap.size A (xs.flatMap pairCells)) :
    CallsIn Fence.wide 9 Tryz.prog 39 #[.slice A n cap, .agg #[.int .i64 d1, .int .i64 d2], .int .i64 amp] w fun e w' =>
      ∃ v, e = .returned (.tuple #[v, .bool true]) ∧ w'.ownsRow w.heap.size 58 2 v (pairsN n).length ((ptL xs (d1, d2) amp (pairsN n)).flatMap pairCells) ∧ Below w.heap.size w w' := by
  obtain ⟨i0, hi, hz0, hz1, hz2⟩ := info_parts visInfo2
  unfold ptV at hv
  rw [Bool.and_eq_true, Bool.and_eq_true] at hv
  obtain ⟨v1, v2, v3⟩ := hv
  have hl := arrV_len v1
  have h2 : 2 ≤ n := by omega
  have h7 : n ≤ 7 := by omega
  have hab := inR_iff.1 v3
  have q1 : ¬ amp < 1 := by omega
  have q2 : ¬ 1000000 < amp := by omega
  have hpl := bm_pairs n h2 h7
  have hp21 : (pairsN n).length ≤ 21 := by have := bm_le (n : Int); omega
  have hDP := fun i j W (hi : i < n) (hj : j < n) (h : Below w.heap.size w W) => delayPhase_yes A n cap xs i j (d1, d2) W hn hk v1 hi hj v2 (hr.ext h)
  dsimp only at hDP
  refine callsIn_of_wp_marks Tryz.func39 rfl trivial ?_ rfl
  simp only [Tryz.ntmps39, List.size_toArray, List.length_cons, List.length_nil, Nat.reduceAdd, Nat.reduceSub, Array.replicate_succ, Array.replicate_zero, List.push_toArray, List.append_toArray, List.nil_append, List.cons_append]
  have x0 := ((Boxed.new w 26 (.slice A n cap)).alloc (.cells #[.int .i64 d1, .int .i64 d2] 50)).alloc (.cells #[.int .i64 amp] 3)
  have x1 := (Row.new1 w (.cells #[.slice A n cap] 26) 50 [.int .i64 d1, .int .i64 d2]).alloc (.cells #[.int .i64 amp] 3)
  have x2 := Boxed.new ((w.alloc (.cells #[.slice A n cap] 26)).alloc (.cells #[.int .i64 d1, .int .i64 d2] 50)) 3 (.int .i64 amp)
  rw [World.size_alloc, World.size_alloc] at x2
  have hr0 := hr.ext (bA3 (o := .cells #[.slice A n cap] 26) (o' := .cells #[.int .i64 d1, .int .i64 d2] 50) (o2 := .cells #[.int .i64 amp] 3))
  obtain ⟨W0, hW0⟩ : ∃ W0, (((w.alloc (.cells #[.slice A n cap] 26)).alloc (.cells #[.int .i64 d1, .int .i64 d2] 50)).alloc (.cells #[.int .i64 amp] 3)) = W0 := ⟨_, rfl⟩
  have B0 : Below w.heap.size w W0 := by rw [← hW0]; exact bA3
  have hs0 : W0.heap.size = w.heap.size + 3 := by rw [← hW0]; simp
  have y0 := x0.cell
  have y1 : (((w.alloc (.cells #[.slice A n cap] 26)).alloc (.cells #[.int .i64 d1, .int .i64 d2] 50)).alloc (.cells #[.int .i64 amp] 3)).cell? ⟨w.heap.size + 1, 0, none⟩ = some (.int .i64 d1) := x1.cell 0
  have y2 : (((w.alloc (.cells #[.slice A n cap] 26)).alloc (.cells #[.int .i64 d1, .int .i64 d2] 50)).alloc (.cells #[.int .i64 amp] 3)).cell? ⟨w.heap.size + 1, 1, none⟩ = some (.int .i64 d2) := x1.cell 1
  have y3 := x2.cell
  rw [hW0] at x0 x1 x2 hr0 y0 y1 y2 y3
  have Hn := Lib.hid hn; clear hn
  have V1 := Lib.hid v1; clear v1
  have V2 := Lib.hid v2; clear v2
  have V3 := Lib.hid v3; clear v3
  have HDP := Lib.hid hDP; clear hDP
  have Hpl := Lib.hid hpl; clear hpl
  gi_wp2_with fail
  clear hW0
  refine ⟨trivial, (callsIn_wide.2 (arrayValid_any A n cap xs W0 Hn.out hk (by omega) hr0)).mono ?_⟩
  rintro e w1 ⟨rfl, b1⟩
  rw [V1.out]
  have B1 := B0.trans (b1.mono B0.size)
  have x0 := boxed_ext x0 b1
  have x1 := x1.kept b1
  have x2 := boxed_ext x2 b1
  have y1 : w1.cell? ⟨w.heap.size + 1, 0, none⟩ = some (.int .i64 d1) := x1.cell 0
  have y2 : w1.cell? ⟨w.heap.size + 1, 1, none⟩ = some (.int .i64 d2) := x1.cell 1
  have hs1 := b1.size
  clear b1 y0 y3 hr0
  gi_wp2_with fail
  refine ⟨trivial, (callsIn_wide.2 (isPlace_any (d1, d2) w1)).mono ?_⟩
  rintro e w2 ⟨rfl, b2⟩
  rw [V2.out]
  have B2 := B1.trans (b2.mono B1.size)
  have x0 := boxed_ext x0 b2
  have x1 := x1.kept b2
  have x2 := boxed_ext x2 b2
  have y0 := (x0.alloc (.cells #[.slice none 0 0] 53)).cell
  have y3 := x2.cell
  have hs2 := b2.size
  clear b2 y1 y2
  gi_wp2_with fail
  refine ⟨trivial, (callsIn_wide.2 (bases_any _ _)).mono ?_⟩
  rintro e w' ⟨rfl, rfl⟩
  gi_wp2_with fail
  have bO := (Boxed.new w2 53 (.slice none 0 0)).alloc (.cells #[.int .i64 n] 3)
  have bN := Boxed.new (w2.alloc (.cells #[.slice none 0 0] 53)) 3 (.int .i64 n)
  rw [World.size_alloc] at bN
  have x0 := (x0.alloc (.cells #[.slice none 0 0] 53)).alloc (.cells #[.int .i64 n] 3)
  have x1 := (x1.alloc (.cells #[.slice none 0 0] 53)).alloc (.cells #[.int .i64 n] 3)
  have x2 := (x2.alloc (.cells #[.slice none 0 0] 53)).alloc (.cells #[.int .i64 n] 3)
  have B3 : Below w.heap.size w ((w2.alloc (.cells #[.slice none 0 0] 53)).alloc (.cells #[.int .i64 n] 3)) := (B2.alloc B2.size _).alloc (by have := B2.size; simp; omega) _
  obtain ⟨b, hb⟩ : ∃ b, w2.heap.size = b := ⟨_, rfl⟩
  have hsz : ((w2.alloc (.cells #[.slice none 0 0] 53)).alloc (.cells #[.int .i64 n] 3)).heap.size = b + 2 := by simp [hb]
  have hwb : w.heap.size + 3 ≤ b := by omega
  rw [hb] at bO bN
  obtain ⟨W2, hW2⟩ : ∃ W2, ((w2.alloc (.cells #[.slice none 0 0] 53)).alloc (.cells #[.int .i64 n] 3)) = W2 := ⟨_, rfl⟩
  rw [hW2] at bO bN x0 x1 x2 B3 hsz ⊢
  rw [hb]
  refine wpIn_rangeFunc_ownG rfl (by omega) (gf := 117) (lb := #[.pointer (some ⟨b + 1, 0, none⟩)]) rfl trivial (enters_of Tryz.func117 (by kernel_rfl) rfl)
    (bases_stops 8 n (by omega) (by omega) (b + 1) _ bN.cell (by omega)) KC_t (fun W l o o' _ h1 h2 _ => KC_b W l o o' h1 h2) (Below.refl _ _) (fun _ => rfl)
    (VpI n cap A xs d1 d2 amp w b)
    (fun _ _ _ => False)
    (VpI_own n cap A xs d1 d2 amp w b _ (by omega))
    (fun _ _ _ _ _ hs _ _ => hs)
    ⟨⟨_, bO, World.ownsRow_nil _ _ _ _⟩, x0, x1, x2, bN, B3⟩
    (fun x => { tmps := #[.slice A n cap, .agg #[.int .i64 d1, .int .i64 d2], .int .i64 amp, .pointer (some ⟨w.heap.size, 0, none⟩), .pointer (some ⟨w.heap.size + 1, 0, none⟩), .pointer (some ⟨w.heap.size + 1 + 1, 0, none⟩), .slice none 0 0, .bool false, .pointer (some ⟨b, 0, none⟩), .int .i64 (x.1.1 : Nat), .int .i64 (x.1.2 : Nat), undef, undef, .slice A n cap, .bool true, .bool false, .bool false, .agg #[.int .i64 d1, .int .i64 d2], .bool true, .bool false, .bool false, .bool false, .int .i64 amp, .bool (decide (amp < 1)), .bool (decide (amp < 1)), .bool (decide (amp < 1)), .int .i64 amp, .bool (decide (1000000 < amp)), .bool (decide (amp < 1) || decide (1000000 < amp)), .slice A n cap, .int .i64 n, .func (.func 117) #[] #[.pointer (some ⟨b + 1, 0, none⟩)], .int .i64 (x.1.1 : Nat), .int .i64 (x.1.2 : Nat), undef, undef, undef, undef, undef, undef, undef, undef, undef, undef, undef, undef, undef, undef, undef], defers := [] }) ?assign ?body ?done ?stop
  case assign =>
    intro l x W K hK
    gi_wp2
    exact hK
  case body =>
    rintro l pre x W ⟨⟨v, hv, hrow⟩, hA, hD, hM, hN, hbel⟩ hlt
    obtain ⟨Ao, co, rfl⟩ := own_form hrow
    obtain ⟨xl, xr⟩ : x.1.1 < x.1.2 ∧ x.1.2 < n := x.2
    have hsn := ptL_snoc xs (d1, d2) amp (pre.map (·.1)) x.1
    have hdp := HDP.out x.1.1 x.1.2 W (by omega) xr hbel
    obtain ⟨ph, hph⟩ : ∃ ph, (dlyV xs x.1.2 (d1, d2) - dlyV xs x.1.1 (d1, d2)) % 360 = ph := ⟨_, rfl⟩
    rw [hph] at hdp hsn
    have y0 := hA.cell
    have y1 : W.cell? ⟨w.heap.size + 1, 0, none⟩ = some (.int .i64 d1) := hD.cell 0
    have y2 : W.cell? ⟨w.heap.size + 1, 1, none⟩ = some (.int .i64 d2) := hD.cell 1
    have hsW := hbel.size
    have hbW := hv.lt
    have Hdp := Lib.hid hdp; clear hdp
    have Hsn := Lib.hid hsn; clear hsn
    have Hph := Lib.hid hph; clear hph
    refine wpIn_block ?_
    gi_wp2_with fail
    refine ⟨trivial, ((callsIn_wide.2 Hdp.out).inRound l).mono ?_⟩
    rintro e w4 ⟨rfl, b4⟩
    have hv4 := boxed_ext hv b4
    have hr4 := own_ext hrow b4
    have z0 := hv4.cell
    have z1 := (boxed_ext hM b4).cell
    have hs4 := b4.size
    clear y0 y1 y2
    have Hr4 := Lib.hid hr4; clear hr4
    gi_wp2_with (gi_at_builtin; go_loud (refine wpListIn_append_own _ rfl _ _ 53 rfl b 58 i0 (.agg #[.int .i64 0, .int .i64 0]) 2 16 (by kernel_rfl) hi hz0 hz1 hz2 rfl (by decide) _ pre.length _ rfl (Hr4.out.alloc _) ⟨w4.heap.size, 0, none⟩ 1 1 [.int .i64 amp, .int .i64 ph] rfl rfl (cell_two_new _ _ _ _) (by simp [Value.oneCell']) (by unfold maxLen; omega) (by omega) (by simp; omega) ?_); intro v' w7 hown' hgrow _; obtain ⟨g', cap', rfl⟩ := ownsRow_succ hown'; have hv7 := (hv4.alloc (.cells #[.int .i64 amp, .int .i64 ph] 58)).kept hgrow (Boxed.not_row (hv4.alloc (.cells #[.int .i64 amp, .int .i64 ph] 58)) (by decide) (Hr4.out.alloc (.cells #[.int .i64 amp, .int .i64 ph] 58))); have q7 := hv7.cell; have z7 := hv7.frozen)
    have hE : Below W.heap.size W (w4.alloc (.cells #[.int .i64 amp, .int .i64 ph] 58)) := b4.alloc hs4 _
    have G := grew_of hv (by decide) hrow (by omega) (Nat.le_refl _) hE hown' hgrow (Below.refl _ _) (Below.refl _ _)
    have kA := G.rest _ hA.lt (by omega) (hA.not_row (by decide) hrow)
    have kM := G.rest _ hM.lt (by omega) (hM.not_row (by decide) hrow)
    have kN := G.rest _ hN.lt (by omega) (hN.not_row (by decide) hrow)
    have kD := G.rest _ hD.lt (by omega) fun e => by
      have := (own_lt hrow e.symm).1
      omega
    refine ⟨G.keeps.from _, fun _ => Boxed.cell (kN.trans hN), ⟨_, G.box, ?_⟩, kA.trans hA, kD.trans hD, kM.trans hM, kN.trans hN, hbel.trans (G.below.mono (by omega))⟩
    rw [List.map_append, List.map_singleton, Hsn.out, List.flatMap_append, List.length_append, List.length_singleton]
    exact G.own
  case done =>
    rintro D ys W hDD rfl ⟨⟨v, hv, hrow⟩, hA, hD, hM, hN, hbel⟩ hK
    have z0 := hv.cell
    gi_wp2_with fail
    refine ⟨by simp, .inl ⟨_, _, rfl, run_takeDeferred hK, ?_⟩⟩
    have hbel2 : Below w.heap.size W (W.putObj D (.deferred none)) := belowK_b (w := w) (Nat.le_refl _) W D _ _ (by omega) hK rfl rfl
    refine ⟨_, results_tmp2 rfl _ _ _, _, rfl, ?_, hbel.trans hbel2⟩
    have := own_base (B' := w.heap.size) (ownsRow_putObj hrow (.deferred none) hK rfl) (by omega)
    rw [pairsB_map, show (pairsB n).length = (pairsN n).length by rw [← pairsB_map, List.length_map]] at this
    exact this
  case stop =>
    rintro D c pre W _ _ h _
    exact h.elim
theorem visPoint_yes (A : Option Addr) (n cap : Nat) (xs : List (Int × Int)) (d1 d2 amp : Int) (w : World) (hn : xs.length = n) (hk : n ≤ cap) (hv : ptV xs (d1, d2) amp = true) (hr : Rd w w.heap.size A (xs.flatMap pairCells)) :
    Calls Tryz.prog 39 #[.slice A n cap, .agg #[.int .i64 d1, .int .i64 d2], .int .i64 amp] w fun e w' =>
      ∃ v, e = .returned (.tuple #[v, .bool true]) ∧ w'.ownsRow w.heap.size 58 2 v (pairsN n).length ((ptL xs (d1, d2) amp (pairsN n)).flatMap pairCells) ∧ Below w.heap.size w w' := callsIn_wide.1 (visPoint_in A n cap xs d1 d2 amp w hn hk hv hr)

set_option maxRecDepth 100000 in
set_option maxHeartbeats 1000000 in
theorem visPoint_no (A : Option Addr) (n cap : Nat) (xs : List (Int × Int)) (d1 d2 amp : Int) (w : World) (hn : xs.length = n) (hk : n ≤ cap) (hb : n ≤ 1048576) (hv : ptV xs (d1, d2) amp = false) (hr : Rd w w.heap.size A (xs.flatMap pairCells)) :
    Calls Tryz.prog 39 #[.slice A n cap, .agg #[.int .i64 d1, .int .i64 d2], .int .i64 amp] w fun e w' => e = .returned (.tuple #[.slice none 0 0, .bool false]) ∧ Below w.heap.size w w' := by
  have x0 := ((Boxed.new w 26 (.slice A n cap)).alloc (.cells #[.int .i64 d1, .int .i64 d2] 50)).alloc (.cells #[.int .i64 amp] 3)
  have x1 := (Row.new1 w (.cells #[.slice A n cap] 26) 50 [.int .i64 d1, .int .i64 d2]).alloc (.cells #[.int .i64 amp] 3)
  have x2 := Boxed.new ((w.alloc (.cells #[.slice A n cap] 26)).alloc (.cells #[.int .i64 d1, .int .i64 d2] 50)) 3 (.int .i64 amp)
  rw [World.size_alloc, World.size_alloc] at x2
  have hr0 := hr.ext (bA3 (o := .cells #[.slice A n cap] 26) (o' := .cells #[.int .i64 d1, .int .i64 d2] 50) (o2 := .cells #[.int .i64 amp] 3))
  obtain ⟨W0, hW0⟩ : ∃ W0, (((w.alloc (.cells #[.slice A n cap] 26)).alloc (.cells #[.int .i64 d1, .int .i64 d2] 50)).alloc (.cells #[.int .i64 amp] 3)) = W0 := ⟨_, rfl⟩
  have B0 : Below w.heap.size w W0 := by rw [← hW0]; exact bA3
  have y0 := x0.cell
  rw [hW0] at x0 x1 x2 hr0 y0
  unfold ptV at hv
  have Hn := Lib.hid hn; clear hn
  cases v1 : arrV xs
  · clear hv
    have V1 := Lib.hid v1; clear v1
    go_enter Tryz.func39, Tryz.ntmps39
    go_wp2_with fail
    refine (arrayValid_any A n cap xs W0 Hn.out hk hb hr0).mono ?_
    rintro e w1 ⟨rfl, b1⟩
    rw [V1.out]
    go_wp2_with fail
    go_ret2
    exact ⟨rfl, B0.trans (b1.mono B0.size)⟩
  · cases v2 : antOk (d1, d2)
    · clear hv
      have V1 := Lib.hid v1; clear v1
      have V2 := Lib.hid v2; clear v2
      go_enter Tryz.func39, Tryz.ntmps39
      go_wp2_with fail
      refine (arrayValid_any A n cap xs W0 Hn.out hk hb hr0).mono ?_
      rintro e w1 ⟨rfl, b1⟩
      rw [V1.out]
      have x1 := x1.kept b1
      have y1 : w1.cell? ⟨w.heap.size + 1, 0, none⟩ = some (.int .i64 d1) := x1.cell 0
      have y2 : w1.cell? ⟨w.heap.size + 1, 1, none⟩ = some (.int .i64 d2) := x1.cell 1
      have B1 := B0.trans (b1.mono B0.size)
      clear b1 y0 hW0
      go_wp2_with fail
      refine (isPlace_any (d1, d2) w1).mono ?_
      rintro e w2 ⟨rfl, b2⟩
      rw [V2.out]
      go_wp2_with fail
      go_ret2
      exact ⟨rfl, B1.trans (b2.mono B1.size)⟩
    · have v3 : inR amp 1 1000000 = false := by rw [v1, v2] at hv; simpa using hv
      clear hv
      have v3' : amp < 1 ∨ 1000000 < amp := by
        by_cases h : 1 ≤ amp ∧ amp ≤ 1000000
        · rw [inR_iff.2 h] at v3; cases v3
        · omega
      have V1 := Lib.hid v1; clear v1
      have V2 := Lib.hid v2; clear v2
      have V3 := Lib.hid v3; clear v3
      rcases v3' with q | q
      · go_enter Tryz.func39, Tryz.ntmps39
        go_wp2_with fail
        refine (arrayValid_any A n cap xs W0 Hn.out hk hb hr0).mono ?_
        rintro e w1 ⟨rfl, b1⟩
        rw [V1.out]
        have x1 := x1.kept b1
        have x2 := boxed_ext x2 b1
        have y1 : w1.cell? ⟨w.heap.size + 1, 0, none⟩ = some (.int .i64 d1) := x1.cell 0
        have y2 : w1.cell? ⟨w.heap.size + 1, 1, none⟩ = some (.int .i64 d2) := x1.cell 1
        have B1 := B0.trans (b1.mono B0.size)
        clear b1 y0 hW0
        go_wp2_with fail
        refine (isPlace_any (d1, d2) w1).mono ?_
        rintro e w2 ⟨rfl, b2⟩
        rw [V2.out]
        have y3 := (boxed_ext x2 b2).cell
        go_wp2_with fail
        go_ret2
        exact ⟨rfl, B1.trans (b2.mono B1.size)⟩
      · have q' : ¬ amp < 1 := by omega
        go_enter Tryz.func39, Tryz.ntmps39
        go_wp2_with fail
        refine (arrayValid_any A n cap xs W0 Hn.out hk hb hr0).mono ?_
        rintro e w1 ⟨rfl, b1⟩
        rw [V1.out]
        have x1 := x1.kept b1
        have x2 := boxed_ext x2 b1
        have y1 : w1.cell? ⟨w.heap.size + 1, 0, none⟩ = some (.int .i64 d1) := x1.cell 0
        have y2 : w1.cell? ⟨w.heap.size + 1, 1, none⟩ = some (.int .i64 d2) := x1.cell 1
        have B1 := B0.trans (b1.mono B0.size)
        clear b1 y0 hW0
        go_wp2_with fail
        refine (isPlace_any (d1, d2) w1).mono ?_
        rintro e w2 ⟨rfl, b2⟩
        rw [V2.out]
        have y3 := (boxed_ext x2 b2).cell
        go_wp2_with fail
        go_ret2
        exact ⟨rfl, B1.trans (b2.mono B1.size)⟩
end Go.Proofs.YtipgpafgampfbaaGreatDoor
