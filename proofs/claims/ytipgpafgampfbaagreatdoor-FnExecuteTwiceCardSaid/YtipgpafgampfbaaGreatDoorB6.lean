/- Redundant baselines: the reference. · '(impl.Ant).opposite' and '(impl.Gauss).conj'. · Redundant baselines: the program. · The map of a script's first words. · A line of the script: unknown lines. · A line of the script: its numbers. · The script's struct in memory. -/
import Derived.Test.YtipgpafgampfbaaGreatDoorB3
import Derived.Test.YtipgpafgampfbaaGreatDoorA3
import Derived.Test.YtipgpafgampfbaaGreatDoorB2
import Derived.Maps.OwnIn
import Derived.DeepKeys4
import Derived.OwnWalkIn
import Derived.Test.YtipgpafgampfbaaGreatDoorB5
import Derived.Test.YtipgpafgampfbaaGreatDoorB4
import Derived.Maps.OwnSet
import Derived.StringKeys
namespace Go.Proofs.YtipgpafgampfbaaGreatDoor
open Go.RowKit

theorem l17Sign_any (u v : Int × Int) (w : World) (hv : (-2000 ≤ v.1 ∧ v.1 ≤ 2000) ∧ -2000 ≤ v.2 ∧ v.2 ≤ 2000) :
    Calls Tryz.prog 124 #[.agg #[.int .i64 u.1, .int .i64 u.2], .agg #[.int .i64 v.1, .int .i64 v.2]] w fun e w' => ∃ s : Int, e = .returned (.int .i64 s) ∧ ((s == 0) = !like u v) ∧ Below w.heap.size w w' := by
  have r0 := (Row.new w 50 [.int .i64 u.1, .int .i64 u.2]).alloc (.cells #[.int .i64 v.1, .int .i64 v.2] 50)
  have r1 := Row.new1 w (.cells #[.int .i64 u.1, .int .i64 u.2] 50) 50 [.int .i64 v.1, .int .i64 v.2]
  obtain ⟨a0, a1, _, _⟩ := r0.two
  obtain ⟨b0, b1, _, _⟩ := r1.two
  have B2 : Below w.heap.size w ((w.alloc (.cells #[.int .i64 u.1, .int .i64 u.2] 50)).alloc (.cells #[.int .i64 v.1, .int .i64 v.2] 50)) := bA2
  obtain ⟨u1, u2⟩ := u
  obtain ⟨v1, v2⟩ := v
  dsimp only at *
  have i1 : IntKind.i64.wrap (0 - v1) = -v1 := by rw [IntWalk.i64_in _ (by omega)]; omega
  have i2 : IntKind.i64.wrap (0 - v2) = -v2 := by rw [IntWalk.i64_in _ (by omega)]; omega
  clear r0 r1
  have hidX := Lib.hid B2; clear B2; have B2 := hidX; clear hidX
  by_cases h : (u1, u2) = (v1, v2)
  · obtain ⟨rfl, rfl⟩ := Prod.mk.inj h
    have hl := like_refl (u1, u2)
    clear h
    have Hl := Lib.hid hl; clear hl
    go_enter Tryz.func124, Tryz.ntmps124
    go_wp2_with fail
    go_ret
    exact ⟨1, rfl, by rw [Hl.out]; rfl, B2.out⟩
  · have hne : (u1 == v1) = false ∨ (u1 = v1 ∧ (u2 == v2) = false) := pair_bne h
    by_cases h2 : u1 = -v1 ∧ u2 = -v2
    · have hl : like (u1, u2) (v1, v2) = true := like_iff.2 (.inr h2)
      obtain ⟨rfl, rfl⟩ := h2
      have Hl := Lib.hid hl; clear hl
      clear h
      rcases hne with hne | ⟨he, hne⟩
      · go_enter Tryz.func124, Tryz.ntmps124
        go_wp2_with fail
        go_ret
        exact ⟨-1, rfl, by rw [Hl.out]; rfl, B2.out⟩
      · obtain rfl : v1 = 0 := by omega
        clear he
        go_enter Tryz.func124, Tryz.ntmps124
        go_wp2_with fail
        go_ret
        exact ⟨-1, rfl, by rw [Hl.out]; rfl, B2.out⟩
    · have hl : like (u1, u2) (v1, v2) = false := by
        cases e : like (u1, u2) (v1, v2)
        · rfl
        · rcases like_iff.1 e with e | e
          · exact absurd e h
          · exact absurd e h2
      have hne2 : (u1 == -v1) = false ∨ (u1 = -v1 ∧ (u2 == -v2) = false) := by
        by_cases e : u1 = -v1
        · exact .inr ⟨e, by rw [beq_eq_false_iff_ne]; exact fun e2 => h2 ⟨e, e2⟩⟩
        · exact .inl (by rw [beq_eq_false_iff_ne]; exact e)
      have Hl := Lib.hid hl; clear hl
      clear h h2
      rcases hne with hne | ⟨rfl, hne⟩
      · rcases hne2 with hn2 | ⟨rfl, hn2⟩
        · go_enter Tryz.func124, Tryz.ntmps124
          go_wp2_with fail
          go_ret
          exact ⟨0, rfl, by rw [Hl.out]; rfl, B2.out⟩
        · go_enter Tryz.func124, Tryz.ntmps124
          go_wp2_with fail
          go_ret
          exact ⟨0, rfl, by rw [Hl.out]; rfl, B2.out⟩
      · rcases hne2 with hn2 | ⟨he, hn2⟩
        · go_enter Tryz.func124, Tryz.ntmps124
          go_wp2_with fail
          go_ret
          exact ⟨0, rfl, by rw [Hl.out]; rfl, B2.out⟩
        · obtain rfl : u1 = 0 := by omega
          clear he
          go_enter Tryz.func124, Tryz.ntmps124
          go_wp2_with fail
          go_ret
          exact ⟨0, rfl, by rw [Hl.out]; rfl, B2.out⟩

set_option maxRecDepth 100000 in
set_option maxHeartbeats 1000000 in
theorem sRedundantGroups_yes (A : Option Addr) (n cap : Nat) (xs : List (Int × Int)) (w : World) (hn : xs.length = n) (hv : arrV xs = true) (hr : Rd w w.heap.size A (xs.flatMap pairCells)) :
    Calls Tryz.prog 85 #[.slice A n cap] w fun e w' => ∃ v, e = .returned v ∧ w'.ownsRow w.heap.size 3 1 v (pairsN n).length ((grpL (vL xs) (pairsN n).length).map (Value.int .i64)) ∧ Below w.heap.size w w' := by
  obtain ⟨i0, hi, hz0, hz1, hz2⟩ := info_parts intInfo
  have hl := arrV_len hv
  have hgl := arrV_gLe hv
  have h2 : 2 ≤ n := by omega
  have h7 : n ≤ 7 := by omega
  have hpl := bm_pairs n h2 h7
  obtain ⟨M, hM⟩ : ∃ M, (pairsN n).length = M := ⟨_, rfl⟩
  have hM21 : M ≤ 21 := by have := bm_le (n : Int); omega
  have hV := fun k (hk : k < M) => vL_get (xs := xs) hn (show k < (pairsN n).length by rw [hM]; exact hk)
  have hVb : ∀ k, k < M → (-2000 ≤ ((vL xs).getD k (0, 0)).1 ∧ ((vL xs).getD k (0, 0)).1 ≤ 2000) ∧ -2000 ≤ ((vL xs).getD k (0, 0)).2 ∧ ((vL xs).getD k (0, 0)).2 ≤ 2000 := fun k hk => by
    rw [hV k hk]
    have := vec_bd hgl (pairAt n k).1 (pairAt n k).2
    exact ⟨by omega, by omega⟩
  have hvec : ∀ k W, k < M → Below w.heap.size w W → Calls Tryz.prog 125 #[.slice A n cap, .int .i64 k] W fun e w' => e = .returned (.agg #[.int .i64 ((vL xs).getD k (0, 0)).1, .int .i64 ((vL xs).getD k (0, 0)).2]) ∧ Below W.heap.size W w' := fun k W hk hW => by
    rw [hV k hk]
    exact l17Vector_any A n cap xs k W hn hv (by rw [hM]; exact hk) (hr.ext hW)
  rw [hM] at hpl ⊢
  have hr1 := hr.ext (bA1 (o := .cells #[] 3))
  generalize vL xs = V at *
  have Hn := Lib.hid hn; clear hn
  have Hv := Lib.hid hv; clear hv
  have HM := Lib.hid hM; clear hM
  have HV := Lib.hid hV; clear hV
  have HVb := Lib.hid hVb; clear hVb
  have Hvec := Lib.hid hvec; clear hvec
  have Hpl := Lib.hid hpl; clear hpl
  go_enter Tryz.func85, Tryz.ntmps85
  go_wp2_with fail
  refine (sArrayValid_any A n cap xs _ Hn.out (by omega) hr1).mono ?_
  rintro e w1 ⟨rfl, b1⟩
  rw [Hv.out]
  have r0 := own_ext ((Row.new w 3 []).own (base := w.heap.size) (size := 1) (n := 0) (Nat.le_refl _) rfl (by unfold maxLen; omega)) b1
  have B1 := bA1.trans (b1.mono bA1.size)
  clear b1 hr1
  go_wp2_with fail
  go_loopw [3, 4] (fun o i wr => ∃ k : Nat, k ≤ M ∧ i = .int .i64 k ∧ wr.ownsRow w.heap.size 3 1 o k ((grpL V k).map (Value.int .i64)) ∧ Below w.heap.size w wr) (fun _ i _ => M - (intOf i).toNat)
  case atStart => exact ⟨0, by omega, rfl, r0, B1⟩
  case round =>
    obtain ⟨k, hk, rfl, hown, hbel⟩ := hrel
    have hsz := hbel.size
    by_cases hlt : k < M
    · obtain ⟨Av, cv, rfl⟩ := own_form hown
      obtain ⟨hF, hFk⟩ := grp_first V k
      have hgs := grpL_succ V k
      obtain ⟨G, hG⟩ : ∃ G, grp V k = G := ⟨_, rfl⟩
      rw [hG] at hF hFk hgs
      have Hown := Lib.hid hown; clear hown
      have Hbel := Lib.hid hbel; clear hbel
      have HF := Lib.hid hF; clear hF
      have Hgs := Lib.hid hgs; clear hgs
      have HG := Lib.hid hG; clear hG
      go_wp2_with fail
      refine (sBaseMany_any _ _).mono ?_
      rintro e w' ⟨rfl, rfl⟩
      rw [Hpl.out]
      go_wp2_with fail
      go_loopw [5] (fun i wi => ∃ j : Nat, j ≤ G ∧ i = .int .i64 j ∧ Below wr.heap.size wr wi) (fun i _ => G - (intOf i).toNat)
      case atStart => exact ⟨0, by omega, rfl, Below.refl _ _⟩
      case round =>
        obtain ⟨j, hj, rfl, hbi⟩ := hrel
        have hBj := Hbel.out.trans (hbi.mono hsz)
        have Hbi := Lib.hid hbi; clear hbi
        have HBj := Lib.hid hBj; clear hBj
        go_wp2_with fail
        refine (Hvec.out j _ (by omega) HBj.out).mono ?_
        rintro e w2 ⟨rfl, b2⟩
        have hB2 := HBj.out.trans (b2.mono HBj.out.size)
        have hbi2 := Hbi.out.trans (b2.mono Hbi.out.size)
        clear b2
        have HB2 := Lib.hid hB2; clear hB2
        have Hbi2 := Lib.hid hbi2; clear hbi2
        go_wp2_with fail
        refine (Hvec.out k _ hlt HB2.out).mono ?_
        rintro e w3 ⟨rfl, b3⟩
        have hbi3 := Hbi2.out.trans (b3.mono Hbi2.out.size)
        clear b3
        have Hbi3 := Lib.hid hbi3; clear hbi3
        go_wp2_with fail
        refine (l17Sign_any (V.getD j (0, 0)) (V.getD k (0, 0)) _ (HVb.out k hlt)).mono ?_
        rintro e w4 ⟨s, rfl, hs, b4⟩
        have hbi4 := Hbi3.out.trans (b4.mono Hbi3.out.size)
        clear b4
        have Hbi4 := Lib.hid hbi4; clear hbi4
        by_cases hjG : j < G
        · rw [HF.out.2 j hjG] at hs
          have hs' : (s == 0) = true := hs
          clear hs
          go_wp2_with fail
          go_roundw
          case measure => simp [intOf]; omega
          case rel => exact ⟨j + 1, by omega, by go_num, Hbi4.out⟩
        · obtain rfl : j = G := by omega
          rw [HF.out.1] at hs
          have hs' : (s == 0) = false := hs
          clear hs
          have hown4 := own_ext Hown.out Hbi4.out
          have hB4 := Hbel.out.trans (Hbi4.out.mono hsz)
          have hsz4 := hB4.size
          have Hown4 := Lib.hid hown4; clear hown4
          have HB4 := Lib.hid hB4; clear hB4
          go_wp2_with (at_builtin; refine wpList_append_own _ rfl _ _ 32 rfl w.heap.size 3 i0 (.int .i64 0) 1 8 (by kernel_rfl) hi hz0 hz1 hz2 rfl (by decide) _ k _ rfl (Hown4.out.alloc _) ⟨w4.heap.size, 0, none⟩ 1 1 [.int .i64 j] rfl rfl (cell_one_new _ _ _) (by simp [Value.oneCell']) (by unfold maxLen; omega) (by omega) (by simp; omega) ?_; intro v' w7 hown' hgrow _; obtain ⟨g', cap', rfl⟩ := ownsRow_succ hown')
          have hb7 := (HB4.out.alloc hsz4 _).grown hgrow (by simp; omega) fun j hj => (own_lt Hown4.out hj).1
          have Hb7 := Lib.hid hb7; clear hb7
          have Hown' := Lib.hid hown'; clear hown'
          clear hgrow
          go_wp2_with fail
          go_roundw
          case measure => simp [intOf]; omega
          case rel =>
            refine ⟨k + 1, by omega, by go_num, ?_, Hb7.out⟩
            rw [Hgs.out, List.map_append]
            exact Hown'.out
    · obtain rfl : k = M := by omega
      have Hown := Lib.hid hown; clear hown
      go_wp2_with fail
      refine (sBaseMany_any _ _).mono ?_
      rintro e w' ⟨rfl, rfl⟩
      rw [Hpl.out]
      go_wp2_with fail
      go_ret
      exact ⟨_, rfl, Hown.out, hbel⟩

set_option maxRecDepth 100000 in
set_option maxHeartbeats 1000000 in
theorem sRedundantMany_any (A : Option Addr) (n cap : Nat) (xs : List (Int × Int)) (w : World) (hn : xs.length = n) (hb : n ≤ 1048576) (hr : Rd w w.heap.size A (xs.flatMap pairCells)) :
    Calls Tryz.prog 44 #[.slice A n cap] w fun e w' => e = .returned (.int .i64 (redM xs)) ∧ Below w.heap.size w w' := by
  cases hv : arrV xs
  · rw [redM_no hv]
    have Hn := Lib.hid hn; clear hn
    have Hv := Lib.hid hv; clear hv
    go_enter Tryz.func44, Tryz.ntmps44
    go_wp2_with fail
    refine (sArrayValid_any A n cap xs _ Hn.out hb hr).mono ?_
    rintro e w1 ⟨rfl, b1⟩
    rw [Hv.out]
    go_wp2_with fail
    go_ret
    exact ⟨rfl, b1⟩
  · rw [redM_yes hv, hn]
    have hl := arrV_len hv
    have hpl := bm_pairs n (by omega) (by omega)
    have hM21 : (pairsN n).length ≤ 21 := by have := bm_le (n : Int); omega
    have hG := fun W (h : Below w.heap.size w W) => sRedundantGroups_yes A n cap xs W hn hv (hr.ext h)
    clear hpl
    generalize (pairsN n).length = M at *
    generalize vL xs = V at *
    have Hn := Lib.hid hn; clear hn
    have Hv := Lib.hid hv; clear hv
    have HG := Lib.hid hG; clear hG
    go_enter Tryz.func44, Tryz.ntmps44
    go_wp2_with fail
    refine (sArrayValid_any A n cap xs _ Hn.out hb hr).mono ?_
    rintro e w1 ⟨rfl, b1⟩
    rw [Hv.out]
    go_wp2_with fail
    refine (HG.out _ b1).mono ?_
    rintro e w2 ⟨v, rfl, o2, b2⟩
    have B2 := b1.trans (b2.mono b1.size)
    obtain ⟨A2, c2, rfl⟩ := own_form o2
    have hr2 := Rd.of_own o2
    clear b1 b2 o2
    go_wp2_with fail
    go_loop [3, 5] (fun m i => ∃ k : Nat, k ≤ M ∧ i = .int .i64 k ∧ m = .int .i64 (redN V k)) (fun _ i => M - (intOf i).toNat)
    case atStart => exact ⟨0, by omega, rfl, rfl⟩
    case round =>
      obtain ⟨k, hk, rfl, rfl⟩ := hrel
      have hle := redN_le V k
      by_cases hlt : k < M
      · have hg : ((grpL V M).map (Value.int .i64))[k]? = some (.int .i64 (grp V k)) := by rw [List.getElem?_map, grpL_get V hlt]; rfl
        obtain ⟨b, off, rfl, hb2, hc⟩ := hr2 k _ hg
        have hs := redN_succ V k
        obtain ⟨G, hG2⟩ : ∃ G, grp V k = G := ⟨_, rfl⟩
        rw [hG2] at hc hs
        clear hg
        obtain ⟨r, hr0⟩ : ∃ r, redN V k = r := ⟨_, rfl⟩
        rw [hr0] at hs hle ⊢
        have HG2 := Lib.hid hG2; clear hG2
        have Hr0 := Lib.hid hr0; clear hr0
        have Hs := Lib.hid hs; clear hs
        by_cases e : G = k
        · subst e
          go_wp2_with fail
          go_round
          case measure => simp [intOf]; omega
          case rel => exact ⟨G + 1, by omega, by go_num, by rw [Hs.out]; simp⟩
        · have e' : ((G : Int) == (k : Int)) = false := by rw [beq_eq_false_iff_ne]; omega
          have E := Lib.hid e; clear e
          go_wp2_with fail
          go_round
          case measure => simp [intOf]; omega
          case rel => exact ⟨k + 1, by omega, by go_num, by rw [Hs.out, if_neg E.out]; simp⟩
      · obtain rfl : k = M := by omega
        go_wp2_with fail
        go_ret
        exact ⟨rfl, B2⟩
end Go.Proofs.YtipgpafgampfbaaGreatDoor

namespace Go.Proofs.YtipgpafgampfbaaGreatDoor
open Go.RowKit
set_option maxHeartbeats 400000 in
theorem antOpp_any (X Y : Int) (w : World) (hX : -1000000 ≤ X ∧ X ≤ 1000000) (hY : -1000000 ≤ Y ∧ Y ≤ 1000000) :
    Calls Tryz.prog 122 #[.agg #[.int .i64 X, .int .i64 Y]] w fun e w' => e = .returned (.agg #[.int .i64 (-X), .int .i64 (-Y)]) ∧ Below w.heap.size w w' := by
  go_enter Tryz.func122, Tryz.ntmps122
  go_wp2
  exact bodyPost_ret (v := .agg #[.int .i64 (-X), .int .i64 (-Y)]) (by simp [results, Tryz.results122, go_sem]) rfl ⟨rfl, bA2⟩
end Go.Proofs.YtipgpafgampfbaaGreatDoor

namespace Go.Proofs.YtipgpafgampfbaaGreatDoor
open Go.RowKit Go.Maps
attribute [local go_sem] Oper.semAt_some

theorem antKeyed : Keyed Tryz.prog 50 := Keyed.of_law (deep_law_laid (m := 3) (by kernel_rfl) (by decide) (by decide +kernel) (by kernel_rfl) (by kernel_rfl))
/-- What a place reads as, as a key. -/
def antK (u : Int × Int) : Lit := .string (keyBytes [.int .i64 u.1, .int .i64 u.2])
theorem antK_of {u : Int × Int} (h1 : (Lit.int .i64 u.1).wf = true) (h2 : (Lit.int .i64 u.2).wf = true) : keyOf Tryz.prog 50 (.agg #[.int .i64 u.1, .int .i64 u.2]) = some (antK u) := by
  have e : keyOf Tryz.prog 50 (.agg #[.int .i64 u.1, .int .i64 u.2]) =
      ((do let x ← (if IntKind.i64 = IntKind.i64 ∧ (Lit.int .i64 u.1).wf = true then some [Lit.int .i64 u.1] else none)
           let y ← (if IntKind.i64 = IntKind.i64 ∧ (Lit.int .i64 u.2).wf = true then some [Lit.int .i64 u.2] else none)
           pure [x, y] : Option (List (List Lit))).map List.flatten).map fun ls => .string (keyBytes ls) := by
    kernel_rfl
  rw [e, if_pos ⟨rfl, h1⟩, if_pos ⟨rfl, h2⟩]; rfl

/-- The places of which the map speaks. -/
def smallV (u : Int × Int) : Prop := (-2000 ≤ u.1 ∧ u.1 ≤ 2000) ∧ -2000 ≤ u.2 ∧ u.2 ≤ 2000
theorem smallV.opp {u : Int × Int} (h : smallV u) : smallV (oppV u) := by unfold smallV oppV at *; dsimp only; omega
theorem smallV.key {u : Int × Int} (h : smallV u) : keyOf Tryz.prog 50 (.agg #[.int .i64 u.1, .int .i64 u.2]) = some (antK u) := by
  obtain ⟨h1, h2⟩ := h
  exact antK_of (WalkArith.wf_i64 (by omega)) (WalkArith.wf_i64 (by omega))
def aggOf : Value → List Value
  | .agg cs => cs.toList
  | _ => []
theorem antK_inj {u v : Int × Int} (hu : smallV u) (hv : smallV v) (h : antK u = antK v) : u = v := by
  have h1 := hu.key
  rw [h] at h1
  have e := congrArg aggOf (antKeyed.inj h1 hv.key)
  simp only [aggOf, List.cons.injEq, Value.int.injEq, true_and, and_true] at e
  exact Prod.ext e.1 e.2
/-- What the map of the least baselines reads as. -/
def MapIs (U : List (Int × Int)) (D : DataW Unit) : Prop := IsMap D ∧ ∀ u, smallV u →
  (∃ j, j < U.length ∧ First U u j ∧ Maps.has D (antK u) = true ∧ D.atKey (antK u) (.lit (.int .i64 0)) = .lit (.int .i64 j)) ∨
    ((∀ j, j < U.length → like (U.getD j (0, 0)) u = false) ∧ Maps.has D (antK u) = false)
theorem mapIs_nil : MapIs [] (.map []) := ⟨isMap_empty, fun _ _ => .inr ⟨fun _ h => absurd h (by simp), rfl⟩⟩
theorem MapIs.old {U : List (Int × Int)} {D : DataW Unit} {v : Int × Int} {k : Nat} (h : MapIs U D) (_hv : smallV v) (hk : k < U.length) (hf : First U v k) : MapIs (U ++ [v]) D := by
  refine ⟨h.1, fun u hu => ?_⟩
  rcases h.2 u hu with ⟨j, h1, h2, h3, h4⟩ | ⟨h1, h2⟩
  · exact .inl ⟨j, by simp; omega, (First.app h1).2 h2, h3, h4⟩
  · refine .inr ⟨fun j hj => ?_, h2⟩
    by_cases e : j < U.length
    · rw [getD_app e]; exact h1 j e
    · obtain rfl : j = U.length := by simp at hj; omega
      rw [getD_last]
      cases hl : like v u
      · rfl
      · have := like_trans hf.1 hl
        rw [h1 k hk] at this; cases this
theorem MapIs.new {U : List (Int × Int)} {D : DataW Unit} {v : Int × Int} (h : MapIs U D) (hv : smallV v) (hno : ∀ j, j < U.length → like (U.getD j (0, 0)) v = false) :
    MapIs (U ++ [v]) ((D.put (antK v) (.lit (.int .i64 U.length))).put (antK (oppV v)) (.lit (.int .i64 U.length))) := by
  refine ⟨(h.1.put _ _).put _ _, fun u hu => ?_⟩
  have hkv := antKeyed.key hv.key
  have hko := antKeyed.key hv.opp.key
  cases hl : like v u
  · have n1 : antK u ≠ antK v := fun e => by
      have := antK_inj hu hv e
      rw [this, like_refl] at hl; cases hl
    have n2 : antK u ≠ antK (oppV v) := fun e => by
      have := antK_inj hu hv.opp e
      rw [this, like_opp] at hl; cases hl
    rw [has_put_other n2, has_put_other n1, atKey_put_other n2, atKey_put_other n1]
    rcases h.2 u hu with ⟨j, h1, h2, h3, h4⟩ | ⟨h1, h2⟩
    · exact .inl ⟨j, by simp; omega, (First.app h1).2 h2, h3, h4⟩
    · refine .inr ⟨fun j hj => ?_, h2⟩
      by_cases e : j < U.length
      · rw [getD_app e]; exact h1 j e
      · obtain rfl : j = U.length := by simp at hj; omega
        rw [getD_last]; exact hl
  · refine .inl ⟨U.length, by simp, First.last hl fun j hj => ?_, ?_⟩
    · cases e : like (U.getD j (0, 0)) u
      · rfl
      · have := like_trans e (like_symm hl)
        rw [hno j hj] at this; cases this
    · by_cases eo : antK u = antK (oppV v)
      · rw [eo, has_put_same (h.1.put _ _) hko, atKey_put_same (h.1.put _ _) hko]
        exact ⟨rfl, rfl⟩
      · have ev : u = v := by
          rcases like_cases hl with e | e
          · exact e
          · exact absurd (by rw [e]) eo
        rw [has_put_other eo, atKey_put_other eo, ev, has_put_same h.1 hkv, atKey_put_same h.1 hkv]
        exact ⟨rfl, rfl⟩

def vU (xs : List (Int × Int)) (ps : List (Nat × Nat)) : List (Int × Int) := ps.map fun p => (vecX xs p.1 p.2, vecY xs p.1 p.2)
theorem vU_snoc (xs : List (Int × Int)) (ps : List (Nat × Nat)) (p : Nat × Nat) : vU xs (ps ++ [p]) = vU xs ps ++ [(vecX xs p.1 p.2, vecY xs p.1 p.2)] := by unfold vU; rw [List.map_append]; rfl
theorem vU_len (xs : List (Int × Int)) (ps : List (Nat × Nat)) : (vU xs ps).length = ps.length := by simp [vU]
theorem keptO_map {X Y : World} {B n : Nat} {D : DataW Unit} {row : Option Nat} (h : X.ownsMap Tryz.prog 50 (plainElem Tryz.prog 3) B n D) (hg : X.grownBy Y row) (hrow : ∀ r, row = some r → r ≠ B) : Y.ownsMap Tryz.prog 50 (plainElem Tryz.prog 3) B n D :=
  h.kept hg fun e => hrow B e.symm rfl
theorem ext_grown {w w' : World} (h : Below w.heap.size w w') (r : Option Nat) : w.grownBy w' r := ⟨h.os, h.tape, h.output, h.size, fun k hk _ => h.block k hk⟩
theorem ownMap_ext {X Y : World} {k : TypeId} {R : Value → Option (DataW Unit × List MemPlace)} {B n : Nat} {D : DataW Unit} (h : X.ownsMap Tryz.prog k R B n D) (hb : Below X.heap.size X Y) : Y.ownsMap Tryz.prog k R B n D := h.kept (ext_grown hb none) (by simp)
theorem ownMap_at {X Y : World} {k : TypeId} {R : Value → Option (DataW Unit × List MemPlace)} {B n : Nat} {D : DataW Unit} (h : X.ownsMap Tryz.prog k R B n D) (e : Y.heap[B]? = X.heap[B]?) : Y.ownsMap Tryz.prog k R B n D := by
  obtain ⟨es, ck, hb, r⟩ := h
  exact ⟨es, ck, e.trans hb, r⟩
theorem ownMap_ne {X : World} {k : TypeId} {R : Value → Option (DataW Unit × List MemPlace)} {B n b e s m : Nat} {D : DataW Unit} {v : Value} {xs : List Value} (h : X.ownsMap Tryz.prog k R B n D) (hr : X.ownsRow b e s v m xs) : some B ≠ v.ownBlock := fun h2 => by
  obtain ⟨_, _, cs, fr, h3⟩ := own_lt hr h2.symm
  obtain ⟨es, ck, hb, _⟩ := h
  rw [hb] at h3
  cases h3
theorem own_low {W : World} {B B' e s n : Nat} {v : Value} {xs : List Value} (h : W.ownsRow B e s v n xs) (hB : B' ≤ B) : W.ownsRow B' e s v n xs := by
  rcases h with ⟨hl, h | ⟨g, cap, cur, rfl, hBg, hg, h1, h2, h3, h4⟩⟩
  · exact ⟨hl, .inl h⟩
  · exact ⟨hl, .inr ⟨g, cap, cur, rfl, Nat.le_trans hB hBg, hg, h1, h2, h3, h4⟩⟩
theorem zeroInt (w : World) : (zeroValue 3).run Tryz.prog w = .ok (.int .i64 0) w := by kernel_rfl
/-- What holds between the rounds. -/
def RgI (n cap : Nat) (A : Option Addr) (xs : List (Int × Int)) (w : World) (b : Nat) (pre : List (BP n)) (W : World) : Prop :=
  BoxRow (b + 4) b 32 3 1 pre.length ((grpL (vU xs (pre.map (·.1))) pre.length).map (Value.int .i64)) W ∧ Boxed W w.heap.size 26 (.slice A n cap) ∧
    (∃ D, W.ownsMap Tryz.prog 50 (plainElem Tryz.prog 3) (b + 1) (2 * pre.length) D ∧ MapIs (vU xs (pre.map (·.1))) D) ∧ Boxed W (b + 1 + 1) 139 (.map (some (b + 1))) ∧
    Boxed W (b + 1 + 1 + 1) 3 (.int .i64 n) ∧ Below w.heap.size w W

theorem RgI_own (n cap : Nat) (A : Option Addr) (xs : List (Int × Int)) (w : World) (b N : Nat) (hN : w.heap.size ≤ N) (hb : b + 2 ≤ N) : OwnFrom N (RgI n cap A xs w b) := by
  intro s W W' row hs hg hr
  obtain ⟨h1, h2, ⟨D, h4, h5⟩, h6, h7, h8⟩ := hs
  have hr2 := fun r e => (hr r e).2
  exact ⟨h1.kept hg hr2, Boxed.keptI h2 hg hr2, ⟨D, keptO_map h4 hg fun r e => by have := (hr r e).1; omega, h5⟩, Boxed.keptI h6 hg hr2, Boxed.keptI h7 hg hr2, ownFrom_below (β := Unit) (Nat.le_refl _) hN () W W' row h8 hg hr⟩

set_option maxRecDepth 100000 in
set_option maxHeartbeats 1000000 in
theorem redundantGroups_in (A : Option Addr) (n cap : Nat) (xs : List (Int × Int)) (w : World) (hn : xs.length = n) (hk : n ≤ cap) (hv : arrV xs = true) (hr : Rd w w.heap.size A (xs.flatMap pairCells)) :
    CallsIn Fence.wide 9 Tryz.prog 84 #[.slice A n cap] w fun e w' => ∃ v, e = .returned v ∧ w'.ownsRow w.heap.size 3 1 v (pairsN n).length ((grpL (vL xs) (pairsN n).length).map (Value.int .i64)) ∧ Below w.heap.size w w' := by
  obtain ⟨i0, hi, hz0, hz1, hz2⟩ := info_parts intInfo
  have hl := arrV_len hv
  have hgl := arrV_gLe hv
  have h2 : 2 ≤ n := by omega
  have h7 : n ≤ 7 := by omega
  have hpl := bm_pairs n h2 h7
  have hp21 : (pairsN n).length ≤ 21 := by have := bm_le (n : Int); omega
  have hmm := @run_makeMap Tryz.prog
  have x0 := Boxed.new w 26 (.slice A n cap)
  have hr0 := hr.ext (bA1 (o := .cells #[.slice A n cap] 26))
  have hvc := fun i j W (hi : i < n) (hj : j < n) (h : Below w.heap.size w W) => vector_any A n cap xs i j W hn hi hj hgl (hr.ext h)
  refine callsIn_of_wp_marks Tryz.func84 rfl trivial ?_ rfl
  simp only [Tryz.ntmps84, List.size_toArray, List.length_cons, List.length_nil, Nat.reduceAdd, Nat.reduceSub, Array.replicate_succ, Array.replicate_zero, List.push_toArray, List.append_toArray, List.nil_append, List.cons_append]
  have Hn := Lib.hid hn; clear hn
  have Hv := Lib.hid hv; clear hv
  have Hvc := Lib.hid hvc; clear hvc
  have Hpl := Lib.hid hpl; clear hpl
  gi_wp2_with fail
  refine ⟨trivial, (callsIn_wide.2 (arrayValid_any A n cap xs _ Hn.out hk (by omega) hr0)).mono ?_⟩
  rintro e w1 ⟨rfl, b1⟩
  rw [Hv.out]
  have B1 := bA1.trans (b1.mono bA1.size)
  have x0 := boxed_ext x0 b1
  have hs1 := b1.size
  have y0 := ((x0.alloc (.cells #[.slice none 0 0] 32)).alloc (.map #[] 0)).alloc (.cells #[.map (some (w1.heap.size + 1))] 139) |>.cell
  rw [World.size_alloc] at hs1
  clear b1 hr0
  gi_wp2_with fail
  refine ⟨trivial, (callsIn_wide.2 (bases_any _ _)).mono ?_⟩
  rintro e w' ⟨rfl, rfl⟩
  gi_wp2_with fail
  obtain ⟨b, hb⟩ : ∃ b, w1.heap.size = b := ⟨_, rfl⟩
  have x0 := (((x0.alloc (.cells #[.slice none 0 0] 32)).alloc (.map #[] 0)).alloc (.cells #[.map (some (w1.heap.size + 1))] 139)).alloc (.cells #[.int .i64 n] 3)
  have bO := (((Boxed.new w1 32 (.slice none 0 0)).alloc (.map #[] 0)).alloc (.cells #[.map (some (w1.heap.size + 1))] 139)).alloc (.cells #[.int .i64 n] 3)
  have bM := ((World.ownsMap_made (H := Unit) (w1.alloc (.cells #[.slice none 0 0] 32)) Tryz.prog 50 (plainElem Tryz.prog 3)).alloc (.cells #[.map (some (w1.heap.size + 1))] 139)).alloc (.cells #[.int .i64 n] 3)
  have bP := (Boxed.new ((w1.alloc (.cells #[.slice none 0 0] 32)).alloc (.map #[] 0)) 139 (.map (some (w1.heap.size + 1)))).alloc (.cells #[.int .i64 n] 3)
  have bN := Boxed.new (((w1.alloc (.cells #[.slice none 0 0] 32)).alloc (.map #[] 0)).alloc (.cells #[.map (some (w1.heap.size + 1))] 139)) 3 (.int .i64 n)
  rw [World.size_alloc, World.size_alloc, World.size_alloc] at bN
  rw [World.size_alloc, World.size_alloc] at bP
  rw [World.size_alloc] at bM
  have B3 : Below w.heap.size w ((((w1.alloc (.cells #[.slice none 0 0] 32)).alloc (.map #[] 0)).alloc (.cells #[.map (some (w1.heap.size + 1))] 139)).alloc (.cells #[.int .i64 n] 3)) :=
    (((B1.alloc B1.size _).alloc (by simp; omega) _).alloc (by simp; omega) _).alloc (by simp; omega) _
  have hsz : ((((w1.alloc (.cells #[.slice none 0 0] 32)).alloc (.map #[] 0)).alloc (.cells #[.map (some (w1.heap.size + 1))] 139)).alloc (.cells #[.int .i64 n] 3)).heap.size = b + 4 := by simp [hb]
  rw [hb] at x0 bO bM bP bN B3 hsz
  obtain ⟨W2, hW2⟩ : ∃ W2, ((((w1.alloc (.cells #[.slice none 0 0] 32)).alloc (.map #[] 0)).alloc (.cells #[.map (some (b + 1))] 139)).alloc (.cells #[.int .i64 n] 3)) = W2 := ⟨_, rfl⟩
  rw [hW2] at x0 bO bM bP bN B3 hsz
  rw [hb, hW2]
  have hwb : w.heap.size + 1 ≤ b := by omega
  clear hW2 hb y0 hs1 B1
  refine wpIn_rangeFunc_ownG rfl (by omega) (gf := 117) (lb := #[.pointer (some ⟨b + 1 + 1 + 1, 0, none⟩)]) rfl trivial (enters_of Tryz.func117 (by kernel_rfl) rfl)
    (bases_stops 8 n (by omega) (by omega) (b + 1 + 1 + 1) _ bN.cell (by omega)) KC_t (fun W l o o' _ h1 h2 _ => KC_b W l o o' h1 h2) (Below.refl _ _) (fun _ => rfl)
    (RgI n cap A xs w b)
    (fun _ _ _ => False)
    (RgI_own n cap A xs w b _ (by omega) (by omega))
    (fun _ _ _ _ _ hs _ _ => hs)
    ⟨⟨_, bO, World.ownsRow_nil _ _ _ _⟩, x0, ⟨_, bM, mapIs_nil⟩, bP, bN, B3⟩
    (fun x => { tmps := #[.slice A n cap, .pointer (some ⟨w.heap.size, 0, none⟩), .slice none 0 0, .pointer (some ⟨b, 0, none⟩), .pointer (some ⟨b + 1 + 1, 0, none⟩), .int .i64 (x.1.1 : Nat), .int .i64 (x.1.2 : Nat), undef, undef, undef, .slice A n cap, .bool true, .bool false, .map (some (b + 1)), .slice A n cap, .int .i64 n, .func (.func 117) #[] #[.pointer (some ⟨b + 1 + 1 + 1, 0, none⟩)], .int .i64 (x.1.1 : Nat), .int .i64 (x.1.2 : Nat), undef, undef, undef, undef, undef, undef, undef, undef, undef, undef, undef, undef, undef, undef, undef, undef, undef, undef, undef, undef, undef, undef, undef, undef, undef, undef], defers := [] }) ?assign ?body ?done ?stop
  case assign =>
    intro l x W K hK
    gi_wp2
    exact hK
  case body =>
    rintro l pre x W ⟨⟨v, hv, hrow⟩, hA, ⟨D, hD, hDI⟩, hP, hN, hbel⟩ hlt
    obtain ⟨Ao, co, rfl⟩ := own_form hrow
    obtain ⟨xl, xr⟩ : x.1.1 < x.1.2 ∧ x.1.2 < n := x.2
    have hvec := Hvc.out x.1.1 x.1.2 W (by omega) xr hbel
    have hsm : smallV (vecX xs x.1.1 x.1.2, vecY xs x.1.1 x.1.2) := by have := vec_bd hgl x.1.1 x.1.2; exact ⟨by omega, by omega⟩
    have hsn := vU_snoc xs (pre.map (·.1)) x.1
    have hUl := vU_len xs (pre.map (·.1))
    rw [List.length_map] at hUl
    obtain ⟨vx, hvx⟩ : ∃ vx, vecX xs x.1.1 x.1.2 = vx := ⟨_, rfl⟩
    obtain ⟨vy, hvy⟩ : ∃ vy, vecY xs x.1.1 x.1.2 = vy := ⟨_, rfl⟩
    rw [hvx, hvy] at hvec hsm hsn
    have y0 := hA.cell
    have hsW := hbel.size
    have hbW := hv.lt
    have hbN := hN.lt
    have Hvec := Lib.hid hvec; clear hvec
    have Hsn := Lib.hid hsn; clear hsn
    have Hvx := Lib.hid hvx; clear hvx
    have Hvy := Lib.hid hvy; clear hvy
    have HUl := Lib.hid hUl; clear hUl
    have HDI := Lib.hid hDI; clear hDI
    refine wpIn_block ?_
    gi_wp2_with fail
    refine ⟨trivial, ((callsIn_wide.2 Hvec.out).inRound l).mono ?_⟩
    rintro e w4 ⟨rfl, b4⟩
    have hkey := hsm.key
    have hD4 := ownMap_ext hD b4
    have hs4 := b4.size
    have hP4 := boxed_ext hP b4
    have hv4 := boxed_ext hv b4
    have y1 := (hP4.alloc (.cells #[.int .i64 vx, .int .i64 vy] 50)).cell
    have y2 := (hv4.alloc (.cells #[.int .i64 vx, .int .i64 vy] 50)).cell
    have hr4 := own_ext hrow b4
    have hlk := HDI.out.2 _ hsm
    have Hr4 := Lib.hid hr4; clear hr4
    rcases hlk with ⟨j, j1, j2, j3, j4⟩ | ⟨j1, j2⟩
    · have hjp : j < pre.length := by have := HUl.out; omega
      have J1 := Lib.hid j1; clear j1
      have J2 := Lib.hid j2; clear j2
      gi_wp2_with (first
        | (gi_at_lookup; refine wpListIn_lookup_own_ok_int _ rfl _ _ 139 rfl 50 3 .i64 antKeyed Tryz.underlying139 Tryz.underlying3 (zeroInt _) (b + 1) (2 * pre.length) D rfl (hD4.alloc _) _ _ rfl hkey ?_; intro c hat hwc; rw [j3]; rw [j4] at hat; obtain rfl : (j : Int) = c := by cases hat; rfl)
        | (gi_at_builtin; go_loud (refine wpListIn_append_own _ rfl _ _ 32 rfl (b + 4) 3 i0 (.int .i64 0) 1 8 (by kernel_rfl) hi hz0 hz1 hz2 rfl (by decide) _ pre.length _ rfl ((Hr4.out.alloc _).alloc _) ⟨w4.heap.size + 1, 0, none⟩ 1 1 [.int .i64 j] rfl rfl (cell_one_new1 _ _ _ _) (by simp [Value.oneCell']) (by unfold maxLen; omega) (by omega) (by simp; omega) ?_); intro v' w7 hown' hgrow _; obtain ⟨g', cap', rfl⟩ := ownsRow_succ hown'; have hv7 := ((hv4.alloc (.cells #[.int .i64 vx, .int .i64 vy] 50)).alloc (.cells #[.int .i64 j] 3)).kept hgrow (Boxed.not_row ((hv4.alloc (.cells #[.int .i64 vx, .int .i64 vy] 50)).alloc (.cells #[.int .i64 j] 3)) (by decide) ((Hr4.out.alloc (.cells #[.int .i64 vx, .int .i64 vy] 50)).alloc (.cells #[.int .i64 j] 3))); have q7 := hv7.cell; have z7 := hv7.frozen))
      have hE : Below W.heap.size W ((w4.alloc (.cells #[.int .i64 vx, .int .i64 vy] 50)).alloc (.cells #[.int .i64 j] 3)) := (b4.alloc hs4 _).alloc (by simp; omega) _
      have G := grew_of hv (by decide) (own_low (B' := b) hrow (by omega)) (by omega) (Nat.le_refl _) hE (own_low (B' := b) hown' (by omega)) hgrow (Below.refl _ _) (Below.refl _ _)
      have kA := G.rest _ hA.lt (by omega) (hA.not_row (by decide) hrow)
      have kN := G.rest _ hN.lt (by omega) (fun e => by have := (own_lt hrow e.symm).1; omega)
      have kP := G.rest _ hP.lt (by omega) (hP.not_row (by decide) hrow)
      have kD := G.rest _ hD.lt (by omega) (ownMap_ne hD hrow)
      have hF := (First.app (v := (vx, vy)) J1.out).2 J2.out
      have hg := grpL_app _ (vx, vy) hF
      rw [HUl.out] at hg
      refine ⟨G.keeps.from _, fun _ => Boxed.cell (kN.trans hN), ⟨_, G.box, ?_⟩, kA.trans hA, ⟨D, (ownMap_at hD kD).mono (by simp; omega), ?_⟩, kP.trans hP, kN.trans hN, hbel.trans (G.below.mono (by omega))⟩
      · rw [List.map_append, List.map_singleton, Hsn.out, List.length_append, List.length_singleton, hg, List.map_append]
        exact hown'.kept (grownBy_setCell' w7 b _) (.inr (hv7.not_row (by decide) hown').symm)
      · rw [List.map_append, List.map_singleton, Hsn.out]
        exact HDI.out.old hsm J1.out J2.out
    · have J1 := Lib.hid j1; clear j1
      gi_wp2_with (first
        | (gi_at_lookup; refine wpListIn_lookup_own_ok_int _ rfl _ _ 139 rfl 50 3 .i64 antKeyed Tryz.underlying139 Tryz.underlying3 (zeroInt _) (b + 1) (2 * pre.length) D rfl (hD4.alloc _) _ _ rfl hkey ?_; intro c hat hwc; rw [j2]; clear hat hwc))
      have e0 := (Row.new w4 50 [.int .i64 vx, .int .i64 vy])
      have e4 := hD4.alloc (.cells #[.int .i64 vx, .int .i64 vy] 50)
      have v4 := hv4.alloc (.cells #[.int .i64 vx, .int .i64 vy] 50)
      have p4 := hP4.alloc (.cells #[.int .i64 vx, .int .i64 vy] 50)
      have r4 := Hr4.out.alloc (.cells #[.int .i64 vx, .int .i64 vy] 50)
      have B4 : Below W.heap.size W (w4.alloc (.cells #[.int .i64 vx, .int .i64 vy] 50)) := b4.alloc hs4 _
      have hs5 : (w4.alloc (.cells #[.int .i64 vx, .int .i64 vy] 50)).heap.size = w4.heap.size + 1 := by simp
      obtain ⟨g, hg⟩ : ∃ g, w4.heap.size = g := ⟨_, rfl⟩
      obtain ⟨V, hV⟩ : ∃ V, w4.alloc (.cells #[.int .i64 vx, .int .i64 vy] 50) = V := ⟨_, rfl⟩
      rw [hV] at e0 e4 v4 p4 r4 B4 hs5 ⊢
      rw [hg] at e0 hs5 hs4 ⊢
      have fP : ∀ V', V.grownBy V' (some (b + 1)) → V'.cell? ⟨b + 1 + 1, 0, none⟩ = some (.map (some (b + 1))) := fun V' h => Boxed.cell ((h.block _ p4.lt (by simp)).trans p4)
      have fU : ∀ V', V.grownBy V' (some (b + 1)) → Row V' g 50 [.int .i64 vx, .int .i64 vy] := fun V' h => (h.block _ e0.lt (by simp; omega)).trans e0
      refine wpIn_region_C [7, 8] [] (fun V' => V.grownBy V' (some (b + 1))) (by kernel_rfl) (by kernel_rfl) (by kernel_rfl) (fun _ _ h h' => h.trans (ext_grown h' _)) (ext_grown ((Below.refl _ _).drew) _) ?_
      refine wpStill_go (v := .map (some (b + 1))) rfl rfl (stays_run fun w' h => ex_load rfl rfl (ld_one (by kernel_rfl) (fP w' h))) ?_
      simp only [Act.put, List.setIfInBounds_toArray, List.set_cons_succ, List.set_cons_zero]
      refine wpStill_go (v := .agg #[.int .i64 vx, .int .i64 vy]) rfl rfl (stays_run fun w' h => ex_load rfl rfl (ld_two (by kernel_rfl) (by kernel_rfl) ((fU w' h).cell 0) ((fU w' h).cell 1))) ?_
      simp only [Act.put, List.setIfInBounds_toArray, List.set_cons_succ, List.set_cons_zero]
      refine wpStill_go (v := .map (some (b + 1))) rfl rfl (stays_run fun w' h => ex_load rfl rfl (ld_one (by kernel_rfl) (fP w' h))) ?_
      simp only [Act.put, List.setIfInBounds_toArray, List.set_cons_succ, List.set_cons_zero]
      refine wpStill_go (v := .agg #[.int .i64 vx, .int .i64 vy]) rfl rfl (stays_run fun w' h => ex_load rfl rfl (ld_two (by kernel_rfl) (by kernel_rfl) ((fU w' h).cell 0) ((fU w' h).cell 1))) ?_
      simp only [Act.put, List.setIfInBounds_toArray, List.set_cons_succ, List.set_cons_zero]
      refine wpStill_go (v := .agg #[.int .i64 (-vx), .int .i64 (-vy)]) rfl rfl (stays_call (f := 122) (args := #[.agg #[.int .i64 vx, .int .i64 vy]]) (fun w' h => by simp [go_sem]) (fun w' _ => antOpp_any vx vy w' (by have := hsm.1; omega) (by have := hsm.2; omega))) ?_
      simp only [Act.put, List.setIfInBounds_toArray, List.set_cons_succ, List.set_cons_zero]
      refine wpStill_go (v := .int .i64 pre.length) rfl rfl (stays_run fun w' h => ex_move rfl rfl) ?_
      simp only [Act.put, List.setIfInBounds_toArray, List.set_cons_succ, List.set_cons_zero]
      refine wpStill_go (v := .int .i64 pre.length) rfl rfl (stays_run fun w' h => ex_move rfl rfl) ?_
      simp only [Act.put, List.setIfInBounds_toArray, List.set_cons_succ, List.set_cons_zero]
      refine wpStill_skip rfl (wpStill_skip rfl (wpStill_nil ?_))
      repeat (refine wpMark_skip rfl ?_)
      refine wpMark_go rfl fun w1 h1 K hK => ?_
      have b1 : Below V.heap.size V w1 := (Below.refl _ V).drew.trans h1
      have G1 : V.grownBy w1 (some (b + 1)) := ext_grown b1 _
      have m1 := ownMap_ext e4 b1
      have hko := hsm.opp.key
      simp only [oppV] at hko
      go_wp2_with (at_mapUpdate; refine wpList_mapUpdate_own _ rfl _ _ _ 139 rfl 50 3 antKeyed Tryz.underlying139 _ (b + 1) (2 * pre.length) D rfl m1 (by unfold maxLen; omega) _ _ _ rfl rfl hkey _ [] (plainElem_int Tryz.underlying3 (WalkArith.wf_i64 (by omega))) ?_; intro w2 m2 hgr2)
      have G2 := G1.trans hgr2
      refine hK _ _ (fun _ => G2) (wpMark_go rfl fun w3 h3 K' hK' => ?_)
      have G3 := G2.trans (ext_grown h3 (some (b + 1)))
      have m3 := ownMap_ext m2 h3
      go_wp2_with (at_mapUpdate; refine wpList_mapUpdate_own _ rfl _ _ _ 139 rfl 50 3 antKeyed Tryz.underlying139 _ (b + 1) (2 * pre.length + 1) _ rfl m3 (by unfold maxLen; omega) _ _ _ rfl rfl hko _ [] (plainElem_int Tryz.underlying3 (WalkArith.wf_i64 (by omega))) ?_; intro w5 m5 hgr5)
      have G5 := G3.trans hgr5
      refine hK' _ _ (fun _ => G5) (wpMark_nil fun w6 h6 => ?_)
      have G6 := G5.trans (ext_grown h6 (some (b + 1)))
      have m6 := ownMap_ext m5 h6
      clear hK hK' m1 m2 m3 m5 hgr2 hgr5 G1 G2 G3 G5 h1 h3 h6 fP fU b1
      simp only [onlyN, Exit.then]
      have v6 : Boxed w6 b _ _ := (G6.block _ v4.lt (by simp)).trans v4
      have r6 := own_over r4 G6 fun j hj e => by have := (own_lt r4 hj).1; cases e; omega
      have q6 := v6.cell
      have R6 := Lib.hid r6; clear r6
      have hs6 := G6.size
      gi_wp2_with (gi_at_builtin; go_loud (refine wpListIn_append_own _ rfl _ _ 32 rfl (b + 4) 3 i0 (.int .i64 0) 1 8 (by kernel_rfl) hi hz0 hz1 hz2 rfl (by decide) _ pre.length _ rfl (R6.out.alloc _) ⟨w6.heap.size, 0, none⟩ 1 1 [.int .i64 pre.length] rfl rfl (cell_one_new _ _ _) (by simp [Value.oneCell']) (by unfold maxLen; omega) (by omega) (by simp; omega) ?_); intro v' w7 hown' hgrow _; obtain ⟨g', cap', rfl⟩ := ownsRow_succ hown'; have hv7 := (v6.alloc (.cells #[.int .i64 pre.length] 3)).kept hgrow (Boxed.not_row (v6.alloc (.cells #[.int .i64 pre.length] 3)) (by decide) (R6.out.alloc (.cells #[.int .i64 pre.length] 3))); have q7 := hv7.cell; have z7 := hv7.frozen)
      have GW : W.grownBy w6 (some (b + 1)) := (ext_grown B4 _).trans G6
      have hsG := GW.size
      have G := grew_of v6 (by decide) (own_low (B' := b) R6.out (by omega)) (by omega) (Nat.le_refl _) bA1 (own_low (B' := b) hown' (by omega)) hgrow (Below.refl _ _) (Below.refl _ _)
      have lo : ∀ j, j < b + 4 → some j ≠ (Value.slice Ao pre.length co).ownBlock := fun j hj e => by have := (own_lt R6.out e.symm).1; omega
      have old : ∀ j, j < W.heap.size → j ≠ b → j ≠ b + 1 → j < b + 4 → (w7.setCell ⟨b, 0, none⟩ (.slice (some ⟨g', 0, none⟩) (pre.length + 1) cap')).heap[j]? = W.heap[j]? := fun j hj h1 h2 h3 => (G.rest j (by omega) h1 (lo j h3)).trans (GW.block j hj (by simp; omega))
      have hF := First.last (v := (vx, vy)) (like_refl _) J1.out
      have hg := grpL_app _ (vx, vy) hF
      have hnew := HDI.out.new hsm J1.out
      rw [HUl.out] at hg hnew
      refine ⟨(KeepsFrom.of_grownBy GW (fun j e => by cases e; omega)).trans (G.keeps.from _), fun _ => Boxed.cell ((old _ hN.lt (by omega) (by omega) (by omega)).trans hN), ⟨_, G.box, ?_⟩, (old _ hA.lt (by omega) (by omega) (by omega)).trans hA,
        ⟨_, (ownMap_at m6 (G.rest _ m6.lt (by omega) (lo _ (by omega)))).mono (by simp; omega), ?_⟩, (old _ hP.lt (by omega) (by omega) (by omega)).trans hP, (old _ hN.lt (by omega) (by omega) (by omega)).trans hN, ?_⟩
      · rw [List.map_append, List.map_singleton, Hsn.out, List.length_append, List.length_singleton, hg, List.map_append]
        exact hown'.kept (grownBy_setCell' w7 b _) (.inr (hv7.not_row (by decide) hown').symm)
      · rw [List.map_append, List.map_singleton, Hsn.out]
        exact hnew
      · exact (hbel.trans ((Below.refl _ W).grown GW hsW (fun k e => by cases e; omega))).trans (G.below.mono (by omega))
  case done =>
    rintro D ys W hDD rfl ⟨⟨v, hv, hrow⟩, hA, hD, hP, hN, hbel⟩ hK
    have z0 := hv.cell
    gi_wp2_with fail
    refine ⟨by simp, .inl ⟨_, _, rfl, run_takeDeferred hK, ?_⟩⟩
    have hbel2 : Below w.heap.size W (W.putObj D (.deferred none)) := belowK_b (w := w) (Nat.le_refl _) W D _ _ (by omega) hK rfl rfl
    refine ⟨_, results_tmp rfl _ _ _, _, rfl, ?_, hbel.trans hbel2⟩
    have := own_low (B' := w.heap.size) (ownsRow_putObj hrow (.deferred none) hK rfl) (by omega)
    rw [pairsB_map, show (pairsB n).length = (pairsN n).length by rw [← pairsB_map, List.length_map]] at this
    rw [show vL xs = vU xs (pairsN n) by unfold vL vU; rw [Hn.out]]
    exact this
  case stop =>
    rintro D c pre W _ _ h _
    exact h.elim
theorem redundantGroups_yes (A : Option Addr) (n cap : Nat) (xs : List (Int × Int)) (w : World) (hn : xs.length = n) (hk : n ≤ cap) (hv : arrV xs = true) (hr : Rd w w.heap.size A (xs.flatMap pairCells)) :
    Calls Tryz.prog 84 #[.slice A n cap] w fun e w' => ∃ v, e = .returned v ∧ w'.ownsRow w.heap.size 3 1 v (pairsN n).length ((grpL (vL xs) (pairsN n).length).map (Value.int .i64)) ∧ Below w.heap.size w w' := callsIn_wide.1 (redundantGroups_in A n cap xs w hn hk hv hr)

set_option maxRecDepth 100000 in
set_option maxHeartbeats 1000000 in
theorem redundantMany_any (A : Option Addr) (n cap : Nat) (xs : List (Int × Int)) (w : World) (hn : xs.length = n) (hk : n ≤ cap) (hb : n ≤ 1048576) (hr : Rd w w.heap.size A (xs.flatMap pairCells)) :
    Calls Tryz.prog 43 #[.slice A n cap] w fun e w' => e = .returned (.int .i64 (redM xs)) ∧ Below w.heap.size w w' := by
  cases hv : arrV xs
  · rw [redM_no hv]
    have Hn := Lib.hid hn; clear hn
    have Hv := Lib.hid hv; clear hv
    go_enter Tryz.func43, Tryz.ntmps43
    go_wp2_with fail
    refine (arrayValid_any A n cap xs _ Hn.out hk hb hr).mono ?_
    rintro e w1 ⟨rfl, b1⟩
    rw [Hv.out]
    go_wp2_with fail
    go_ret
    exact ⟨rfl, b1⟩
  · rw [redM_yes hv, hn]
    have hl := arrV_len hv
    have hpl := bm_pairs n (by omega) (by omega)
    have hM21 : (pairsN n).length ≤ 21 := by have := bm_le (n : Int); omega
    have hG := fun W (h : Below w.heap.size w W) => redundantGroups_yes A n cap xs W hn hk hv (hr.ext h)
    clear hpl
    generalize (pairsN n).length = M at *
    generalize vL xs = V at *
    have Hn := Lib.hid hn; clear hn
    have Hv := Lib.hid hv; clear hv
    have HG := Lib.hid hG; clear hG
    go_enter Tryz.func43, Tryz.ntmps43
    go_wp2_with fail
    refine (arrayValid_any A n cap xs _ Hn.out hk hb hr).mono ?_
    rintro e w1 ⟨rfl, b1⟩
    rw [Hv.out]
    go_wp2_with fail
    refine (HG.out _ b1).mono ?_
    rintro e w2 ⟨v, rfl, o2, b2⟩
    have B2 := b1.trans (b2.mono b1.size)
    obtain ⟨A2, c2, rfl⟩ := own_form o2
    have hr2 := Rd.of_own o2
    clear b1 b2 o2
    go_wp2_with fail
    go_loop [3, 12] (fun m i => ∃ k : Nat, k ≤ M ∧ i = .int .i64 k ∧ m = .int .i64 (redN V k)) (fun _ i => M - (intOf i).toNat)
    case atStart => exact ⟨0, by omega, rfl, rfl⟩
    case round =>
      obtain ⟨k, hk, rfl, rfl⟩ := hrel
      have hle := redN_le V k
      by_cases hlt : k < M
      · have hg : ((grpL V M).map (Value.int .i64))[k]? = some (.int .i64 (grp V k)) := by rw [List.getElem?_map, grpL_get V hlt]; rfl
        obtain ⟨b, off, rfl, hb2, hc⟩ := hr2 k _ hg
        have hs := redN_succ V k
        obtain ⟨G, hG2⟩ : ∃ G, grp V k = G := ⟨_, rfl⟩
        rw [hG2] at hc hs
        clear hg
        obtain ⟨r, hr0⟩ : ∃ r, redN V k = r := ⟨_, rfl⟩
        rw [hr0] at hs hle ⊢
        have HG2 := Lib.hid hG2; clear hG2
        have Hr0 := Lib.hid hr0; clear hr0
        have Hs := Lib.hid hs; clear hs
        by_cases e : k = G
        · subst e
          go_wp2_with fail
          go_round
          case measure => simp [intOf]; omega
          case rel => exact ⟨k + 1, by omega, by go_num, by rw [Hs.out]; simp⟩
        · have e' : ((k : Int) == (G : Int)) = false := by rw [beq_eq_false_iff_ne]; omega
          have E := Lib.hid e; clear e
          go_wp2_with fail
          go_round
          case measure => simp [intOf]; omega
          case rel => exact ⟨k + 1, by omega, by go_num, by rw [Hs.out, if_neg (Ne.symm E.out)]; simp⟩
      · obtain rfl : k = M := by omega
        go_wp2_with fail
        go_ret
        exact ⟨rfl, B2⟩
end Go.Proofs.YtipgpafgampfbaaGreatDoor

namespace Go.Proofs.YtipgpafgampfbaaGreatDoor
open Go.RowKit Go.Maps Go.WideMaps

theorem strKeyed : Keyed Tryz.prog 9 := string_keyed Tryz.underlying9
/-- The datum reads as a function of words. -/
def MapW (D : DataW Unit) (f : Word → Option Nat) : Prop := IsMap D ∧ ∀ h : Word, Maps.has D (.string h) = (f h).isSome ∧ D.atKey (.string h) (.lit (.int .i64 0)) = .lit (.int .i64 ((f h).getD 0))
def putF (f : Word → Option Nat) (k : Word) (n : Nat) (h : Word) : Option Nat := if h = k then some n else f h
theorem mapW_nil : MapW (.map []) (fun _ => none) := ⟨isMap_empty, fun _ => ⟨rfl, rfl⟩⟩
theorem MapW.put {D : DataW Unit} {f : Word → Option Nat} (h : MapW D f) (k : Word) (n : Nat) (hk : k.length ≤ 1000) : MapW (D.put (.string k) (.lit (.int .i64 n))) (putF f k n) := by
  have hkey : WideAt.IsKeyLit (.string k) := by
    have := strKeyed.key (keyOf_string_mk (P := Tryz.prog) (k := 9) Tryz.underlying9 (s := ⟨k.toArray⟩) (by show k.length ≤ maxLen; unfold maxLen; omega))
    exact this
  refine ⟨h.1.put _ _, fun u => ?_⟩
  unfold putF
  by_cases e : u = k
  · subst e
    rw [if_pos rfl, has_put_same h.1 hkey, atKey_put_same h.1 hkey]
    exact ⟨rfl, rfl⟩
  · have ne : (Lit.string u) ≠ Lit.string k := fun h => e (by injection h)
    rw [if_neg e, has_put_other ne, atKey_put_other ne]
    exact h.2 u
/-- A map of the call's own that reads so. -/
def MapAt (w : World) (B c : Nat) (f : Word → Option Nat) : Prop := ∃ D, w.ownsMap Tryz.prog 9 (plainElem Tryz.prog 3) B c D ∧ MapW D f
theorem mapAt_new (w : World) : MapAt (w.alloc (.map #[] 0)) w.heap.size 0 (fun _ => none) := ⟨_, World.ownsMap_made (H := Unit) w Tryz.prog 9 (plainElem Tryz.prog 3), mapW_nil⟩
theorem MapAt.ext {w w' : World} {B c : Nat} {f : Word → Option Nat} (h : MapAt w B c f) (hb : Below w.heap.size w w') : MapAt w' B c f := by
  obtain ⟨D, h1, h2⟩ := h
  exact ⟨D, ownMap_ext h1 hb, h2⟩
theorem wpList_insW {w : World} {ops : Array Oper} {rest : List Oper} {o : Oper} {a : Act} {Q : Exit → Act → World → Prop} (hg : o.guard = none) {m : Operand} {k : Word} {n : Nat} (hop : o.op = Op.insert 117 m (.const (.string ⟨k.toArray⟩)) (.const (.int .i64 n)))
    {B c : Nat} {f : Word → Option Nat} (hm : a.eval m = .map (some B)) (h : MapAt w B c f) (hc : c ≤ 100) (hk : k.length ≤ 1000) (hn : n ≤ 1000)
    (hK : ∀ w', MapAt w' B (c + 1) (putF f k n) → w.grownBy w' (some B) → wpList Tryz.prog ops Q rest (a.put o.dst undef) w') : wpList Tryz.prog ops Q (o :: rest) a w := by
  obtain ⟨D, hown, hD⟩ := h
  refine wpList_plain hg fun K' hK' => ?_
  obtain ⟨w', hrun, r1, r2⟩ := hown.update (t := 117) (e := 3) strKeyed Tryz.underlying117 (by unfold maxLen; omega) (key := .string ⟨k.toArray⟩) (keyOf_string_mk (P := Tryz.prog) (k := 9) Tryz.underlying9 (s := ⟨k.toArray⟩) (by show k.length ≤ maxLen; unfold maxLen; omega)) (val := .int .i64 n) (plainElem_int Tryz.underlying3 (WalkArith.wf_i64 (by omega)))
  have hx : a.eval (.const (.string ⟨k.toArray⟩)) = .string ⟨k.toArray⟩ := rfl
  have hv : a.eval (.const (.int .i64 n)) = .int .i64 n := rfl
  unfold Oper.wp
  simp [execOp, hop, hm, hx, hv, hrun, Result.andThen]
  exact hK' _ _ (hK w' ⟨_, r1, hD.put k n hk⟩ r2)
theorem wpList_lookW {w : World} {ops : Array Oper} {rest : List Oper} {o : Oper} {a : Act} {Q : Exit → Act → World → Prop} (hg : o.guard = none) {m x : Operand} {h : Word} (hop : o.op = Op.lookup 117 m x true)
    {B c : Nat} {f : Word → Option Nat} (hm : a.eval m = .map (some B)) (hx : a.eval x = .string ⟨h.toArray⟩) (hM : MapAt w B c f) (hl : h.length ≤ 1000)
    (hK : wpList Tryz.prog ops Q rest (a.put o.dst (.tuple #[.int .i64 ((f h).getD 0 : Nat), .bool (f h).isSome])) w) : wpList Tryz.prog ops Q (o :: rest) a w := by
  obtain ⟨D, hown, hD⟩ := hM
  refine wpList_lookup_own_ok_int w hg m x _ hop 9 3 .i64 strKeyed Tryz.underlying117 Tryz.underlying3 (zeroInt w) B c D hm hown _ (.string h) hx (keyOf_string_mk (P := Tryz.prog) (k := 9) Tryz.underlying9 (s := ⟨h.toArray⟩) (by show h.length ≤ maxLen; unfold maxLen; omega)) fun v hat _ => ?_
  obtain ⟨e1, e2⟩ := hD.2 h
  rw [e2] at hat
  have e : v = (((f h).getD 0 : Nat) : Int) := by cases hat; rfl
  rw [e1, e]
  exact hK
/-- The map of the program reads as 'wantL'. -/
theorem want_eq (h : Word) : putF (putF (putF (putF (putF (putF (putF (putF (fun _ => none) wAnt 2) wCell 3) wBases 0) wCover 0) wBeam 0) wPoint 2) wDirty 0) wClean 1 h = wantL h := by
  unfold putF wantL
  by_cases h1 : h = wClean
  · subst h1; decide
  by_cases h2 : h = wDirty
  · subst h2; decide
  by_cases h3 : h = wPoint
  · subst h3; decide
  by_cases h4 : h = wBeam
  · subst h4; decide
  by_cases h5 : h = wCover
  · subst h5; decide
  by_cases h6 : h = wBases
  · subst h6; decide
  by_cases h7 : h = wCell
  · subst h7; decide
  by_cases h8 : h = wAnt
  · subst h8; decide
  simp only [if_neg h1, if_neg h2, if_neg h3, if_neg h4, if_neg h5, if_neg h6, if_neg h7, if_neg h8]
end Go.Proofs.YtipgpafgampfbaaGreatDoor

namespace Go.Proofs.YtipgpafgampfbaaGreatDoor
open Go.RowKit Go.Maps

set_option maxRecDepth 100000 in
set_option maxHeartbeats 1000000 in
theorem execute_what (S n cap : Nat) (A : Option Addr) (h : Word) (t : List Word) (w : World) (hn : n = t.length + 1) (hb : n ≤ 1000) (hl : h.length ≤ 1000) (hw : wantL h ≠ some t.length) (hr : Rd w w.heap.size A (strs (h :: t))) :
    Calls Tryz.prog 53 #[.pointer (some ⟨S, 0, none⟩), .slice A n cap] w fun e w' => e = .returned (.tuple #[.string ⟨oWhat.toArray⟩, .bool true]) ∧ Below w.heap.size w w' := by
  have hmm := @run_makeMap Tryz.prog
  have m0 := mapAt_new w
  have b0 : Below w.heap.size w (w.alloc (.map #[] 0)) := bA1
  obtain ⟨bA, off, rfl, hbA, hc0⟩ := hr 0 _ (strs_get (ls := h :: t) (k := 0) (by simp))
  simp only [List.getD_cons_zero, Nat.add_zero] at hc0
  have c0 := hc0
  have hn1 : (0 : Int) < n := by omega
  have Hn := Lib.hid hn; clear hn
  cases hwl : wantL h with
  | none =>
    clear hw
    go_enter Tryz.func53, Tryz.ntmps53
    go_wp2_with (first | (refine wpList_insW (k := wAnt) (n := 2) rfl rfl rfl m0 (by omega) (by decide) (by omega) ?_; clear m0; intro w1 m0 g0; have b0 := b0.grown g0 b0.size (fun k e => by cases e; exact Nat.le_refl _); clear c0; have c0 : w1.cell? ⟨bA, off, none⟩ = some (.string ⟨h.toArray⟩) := (b0.cell (p := ⟨bA, off, none⟩) hbA).trans hc0; clear g0) | (refine wpList_insW (k := wCell) (n := 3) rfl rfl rfl m0 (by omega) (by decide) (by omega) ?_; clear m0; intro w1 m0 g0; have b0 := b0.grown g0 b0.size (fun k e => by cases e; exact Nat.le_refl _); clear c0; have c0 : w1.cell? ⟨bA, off, none⟩ = some (.string ⟨h.toArray⟩) := (b0.cell (p := ⟨bA, off, none⟩) hbA).trans hc0; clear g0) | (refine wpList_insW (k := wBases) (n := 0) rfl rfl rfl m0 (by omega) (by decide) (by omega) ?_; clear m0; intro w1 m0 g0; have b0 := b0.grown g0 b0.size (fun k e => by cases e; exact Nat.le_refl _); clear c0; have c0 : w1.cell? ⟨bA, off, none⟩ = some (.string ⟨h.toArray⟩) := (b0.cell (p := ⟨bA, off, none⟩) hbA).trans hc0; clear g0) | (refine wpList_insW (k := wCover) (n := 0) rfl rfl rfl m0 (by omega) (by decide) (by omega) ?_; clear m0; intro w1 m0 g0; have b0 := b0.grown g0 b0.size (fun k e => by cases e; exact Nat.le_refl _); clear c0; have c0 : w1.cell? ⟨bA, off, none⟩ = some (.string ⟨h.toArray⟩) := (b0.cell (p := ⟨bA, off, none⟩) hbA).trans hc0; clear g0) | (refine wpList_insW (k := wBeam) (n := 0) rfl rfl rfl m0 (by omega) (by decide) (by omega) ?_; clear m0; intro w1 m0 g0; have b0 := b0.grown g0 b0.size (fun k e => by cases e; exact Nat.le_refl _); clear c0; have c0 : w1.cell? ⟨bA, off, none⟩ = some (.string ⟨h.toArray⟩) := (b0.cell (p := ⟨bA, off, none⟩) hbA).trans hc0; clear g0) | (refine wpList_insW (k := wPoint) (n := 2) rfl rfl rfl m0 (by omega) (by decide) (by omega) ?_; clear m0; intro w1 m0 g0; have b0 := b0.grown g0 b0.size (fun k e => by cases e; exact Nat.le_refl _); clear c0; have c0 : w1.cell? ⟨bA, off, none⟩ = some (.string ⟨h.toArray⟩) := (b0.cell (p := ⟨bA, off, none⟩) hbA).trans hc0; clear g0) | (refine wpList_insW (k := wDirty) (n := 0) rfl rfl rfl m0 (by omega) (by decide) (by omega) ?_; clear m0; intro w1 m0 g0; have b0 := b0.grown g0 b0.size (fun k e => by cases e; exact Nat.le_refl _); clear c0; have c0 : w1.cell? ⟨bA, off, none⟩ = some (.string ⟨h.toArray⟩) := (b0.cell (p := ⟨bA, off, none⟩) hbA).trans hc0; clear g0) | (refine wpList_insW (k := wClean) (n := 1) rfl rfl rfl m0 (by omega) (by decide) (by omega) ?_; clear m0; intro w1 m0 g0; have b0 := b0.grown g0 b0.size (fun k e => by cases e; exact Nat.le_refl _); clear c0; have c0 : w1.cell? ⟨bA, off, none⟩ = some (.string ⟨h.toArray⟩) := (b0.cell (p := ⟨bA, off, none⟩) hbA).trans hc0; clear g0) | (refine wpList_lookW (h := h) rfl rfl rfl rfl m0 hl ?_; rw [want_eq, hwl]; simp only [Option.getD_none, Option.isSome_none]))
    go_ret2
    exact ⟨rfl, b0⟩
  | some m =>
    have hne : m ≠ t.length := fun e => hw (by rw [hwl, e])
    have hwr : IntKind.i64.wrap ((n : Int) - 1) = t.length := by rw [IntWalk.i64_in _ (by omega)]; have := Hn.out; omega
    have hnb : ((m : Int) != (t.length : Int)) = true := by rw [bne_iff_ne]; omega
    clear hw
    have Hne := Lib.hid hne; clear hne
    go_enter Tryz.func53, Tryz.ntmps53
    go_wp2_with (first | (refine wpList_insW (k := wAnt) (n := 2) rfl rfl rfl m0 (by omega) (by decide) (by omega) ?_; clear m0; intro w1 m0 g0; have b0 := b0.grown g0 b0.size (fun k e => by cases e; exact Nat.le_refl _); clear c0; have c0 : w1.cell? ⟨bA, off, none⟩ = some (.string ⟨h.toArray⟩) := (b0.cell (p := ⟨bA, off, none⟩) hbA).trans hc0; clear g0) | (refine wpList_insW (k := wCell) (n := 3) rfl rfl rfl m0 (by omega) (by decide) (by omega) ?_; clear m0; intro w1 m0 g0; have b0 := b0.grown g0 b0.size (fun k e => by cases e; exact Nat.le_refl _); clear c0; have c0 : w1.cell? ⟨bA, off, none⟩ = some (.string ⟨h.toArray⟩) := (b0.cell (p := ⟨bA, off, none⟩) hbA).trans hc0; clear g0) | (refine wpList_insW (k := wBases) (n := 0) rfl rfl rfl m0 (by omega) (by decide) (by omega) ?_; clear m0; intro w1 m0 g0; have b0 := b0.grown g0 b0.size (fun k e => by cases e; exact Nat.le_refl _); clear c0; have c0 : w1.cell? ⟨bA, off, none⟩ = some (.string ⟨h.toArray⟩) := (b0.cell (p := ⟨bA, off, none⟩) hbA).trans hc0; clear g0) | (refine wpList_insW (k := wCover) (n := 0) rfl rfl rfl m0 (by omega) (by decide) (by omega) ?_; clear m0; intro w1 m0 g0; have b0 := b0.grown g0 b0.size (fun k e => by cases e; exact Nat.le_refl _); clear c0; have c0 : w1.cell? ⟨bA, off, none⟩ = some (.string ⟨h.toArray⟩) := (b0.cell (p := ⟨bA, off, none⟩) hbA).trans hc0; clear g0) | (refine wpList_insW (k := wBeam) (n := 0) rfl rfl rfl m0 (by omega) (by decide) (by omega) ?_; clear m0; intro w1 m0 g0; have b0 := b0.grown g0 b0.size (fun k e => by cases e; exact Nat.le_refl _); clear c0; have c0 : w1.cell? ⟨bA, off, none⟩ = some (.string ⟨h.toArray⟩) := (b0.cell (p := ⟨bA, off, none⟩) hbA).trans hc0; clear g0) | (refine wpList_insW (k := wPoint) (n := 2) rfl rfl rfl m0 (by omega) (by decide) (by omega) ?_; clear m0; intro w1 m0 g0; have b0 := b0.grown g0 b0.size (fun k e => by cases e; exact Nat.le_refl _); clear c0; have c0 : w1.cell? ⟨bA, off, none⟩ = some (.string ⟨h.toArray⟩) := (b0.cell (p := ⟨bA, off, none⟩) hbA).trans hc0; clear g0) | (refine wpList_insW (k := wDirty) (n := 0) rfl rfl rfl m0 (by omega) (by decide) (by omega) ?_; clear m0; intro w1 m0 g0; have b0 := b0.grown g0 b0.size (fun k e => by cases e; exact Nat.le_refl _); clear c0; have c0 : w1.cell? ⟨bA, off, none⟩ = some (.string ⟨h.toArray⟩) := (b0.cell (p := ⟨bA, off, none⟩) hbA).trans hc0; clear g0) | (refine wpList_insW (k := wClean) (n := 1) rfl rfl rfl m0 (by omega) (by decide) (by omega) ?_; clear m0; intro w1 m0 g0; have b0 := b0.grown g0 b0.size (fun k e => by cases e; exact Nat.le_refl _); clear c0; have c0 : w1.cell? ⟨bA, off, none⟩ = some (.string ⟨h.toArray⟩) := (b0.cell (p := ⟨bA, off, none⟩) hbA).trans hc0; clear g0) | (refine wpList_lookW (h := h) rfl rfl rfl rfl m0 hl ?_; rw [want_eq, hwl]; simp only [Option.getD_some, Option.isSome_some]))
    go_ret2
    exact ⟨rfl, b0⟩
end Go.Proofs.YtipgpafgampfbaaGreatDoor

namespace Go.Proofs.YtipgpafgampfbaaGreatDoor
open Go.RowKit Go.Maps

/-- What lies behind the first element of a slice. -/
theorem tail_fact {P : Program} {w : World} {B : Nat} {A : Option Addr} {x : Value} {xs : List Value} (hr : Rd w B A (x :: xs)) {t e : TypeId} (ht : P.underlying t = some (.slice e)) (hs : (P.info? e).map (·.size) = some 1) (n cap : Nat) (hn : n = xs.length + 1) (hc : n ≤ cap) :
    ∃ A', (∀ W : World, (Instr.sliceAt t (.slice A n cap) (some (.int .i64 1)) none none).run P W = .ok (.slice A' xs.length (cap - 1)) W) ∧ Rd w B A' xs := by
  have he : P.elem t = e := by simp [Program.elem, ht]
  have ht' : P.underlying t = some (.slice (P.elem t)) := by rw [he]; exact ht
  obtain ⟨b, off, rfl, hb, hc0⟩ := hr 0 x rfl
  refine ⟨if cap = 1 then some ⟨b, off, none⟩ else some ⟨b, off + 1, none⟩, fun W => ?_, fun i u hu => ?_⟩
  · rw [run_sliceAt_slice (h := ht'), run_slice_l (ht := ht') (h0 := by omega) (h1 := by omega), he, size_of hs]
    simp only [sliced, Result.andThen]
    congr 1
    rw [hn]
    by_cases h : cap = 1
    · simp [h]
    · have : ¬ cap = 1 := h
      simp [h, Addr.add]
  · have hlt := (List.getElem?_eq_some_iff.1 hu).1
    rw [if_neg (by omega)]
    obtain ⟨b2, off2, e2, hb2, hc2⟩ := hr (i + 1) u hu
    injection e2 with e2
    injection e2 with e3 e4
    subst e3 e4
    exact ⟨b, off + 1, rfl, hb, by rw [show off + 1 + i = off + (i + 1) by omega]; exact hc2⟩
end Go.Proofs.YtipgpafgampfbaaGreatDoor

namespace Go.Proofs.YtipgpafgampfbaaGreatDoor
open Go.RowKit

/-- The script's struct at block S, with what it leads to from block B0 on. -/
def IsS (B0 S : Nat) (s : St) (w : World) : Prop := B0 ≤ S ∧ ∃ A c B d, Row w S 68 [.slice A s.1.length c, .slice B 16 d] ∧ w.ownsRow B0 50 2 (.slice A s.1.length c) s.1.length (s.1.flatMap pairCells) ∧
  w.ownsRow B0 3 1 (.slice B 16 d) 16 (s.2.map (Value.int .i64))
/-- All that was there stands, but for the script's struct and rows of antennas and of numbers from block B0 on. -/
structure SKept (B0 S : Nat) (w w' : World) : Prop where
  os : w'.os = w.os
  tape : w'.tape = w.tape
  output : w'.output = w.output
  size : w.heap.size ≤ w'.heap.size
  keep : ∀ (j : Nat) (o : Obj), w.heap[j]? = some o → j ≠ S → (∀ c fz, o = .cells c 50 fz → j < B0) → (∀ c fz, o = .cells c 3 fz → j < B0) → w'.heap[j]? = some o
theorem SKept.of_below {B0 S : Nat} {w w' : World} (h : Below w.heap.size w w') : SKept B0 S w w' := ⟨h.os, h.tape, h.output, h.size, fun j _ ho _ _ _ => (h.block j (Array.getElem?_eq_some_iff.1 ho).1).trans ho⟩
theorem SKept.refl (B0 S : Nat) (w : World) : SKept B0 S w w := .of_below (Below.refl _ _)
theorem SKept.trans {B0 S : Nat} {a b c : World} (h : SKept B0 S a b) (k : SKept B0 S b c) : SKept B0 S a c :=
  ⟨k.os.trans h.os, k.tape.trans h.tape, k.output.trans h.output, Nat.le_trans h.size k.size, fun j o ho h1 h2 h3 => k.keep j o (h.keep j o ho h1 h2 h3) h1 h2 h3⟩
theorem SKept.below {B0 S B : Nat} {w0 w w' : World} (h : SKept B0 S w w') (hb : Below B w0 w) (hB : B ≤ B0) (hS : B0 ≤ S) (hs : B ≤ w0.heap.size) : Below B w0 w' :=
  ⟨h.os.trans hb.os, h.tape.trans hb.tape, h.output.trans hb.output, Nat.le_trans hb.size h.size, fun k hk => by
    have e := hb.block k hk
    obtain ⟨o, ho⟩ : ∃ o, w0.heap[k]? = some o := ⟨_, Array.getElem?_eq_getElem (by omega)⟩
    rw [ho] at e ⊢
    exact h.keep k o e (by omega) (fun _ _ _ => by omega) fun _ _ _ => by omega⟩
theorem IsS.ext {B0 S : Nat} {s : St} {w w' : World} (h : IsS B0 S s w) (hb : Below w.heap.size w w') : IsS B0 S s w' := by
  obtain ⟨h0, A, c, B, d, h1, h2, h3⟩ := h
  exact ⟨h0, A, c, B, d, h1.kept hb, own_ext h2 hb, own_ext h3 hb⟩
/-- A row is not a struct of another type. -/
theorem own_neS {w : World} {B S e T s n : Nat} {v : Value} {xs ys : List Value} (h : w.ownsRow B e s v n xs) (hr : Row w S T ys) (hne : e ≠ T) : ∀ j, v.ownBlock = some j → j ≠ S := fun j hj e2 => by
  obtain ⟨_, _, cs, fr, h1⟩ := own_lt h hj
  rw [e2, show w.heap[S]? = _ from hr] at h1
  injection h1 with h1
  injection h1 with _ h3
  exact hne h3.symm
/-- Rows of two types lie apart. -/
theorem own_apartT {w : World} {B C e f s r n m : Nat} {v u : Value} {xs ys : List Value} (h : w.ownsRow B e s v n xs) (k : w.ownsRow C f r u m ys) (hne : e ≠ f) : ∀ j, v.ownBlock = some j → some j ≠ u.ownBlock := fun j hj e2 => by
  obtain ⟨_, _, cs, fr, h1⟩ := own_lt h hj
  obtain ⟨_, _, cs2, fr2, h2⟩ := own_lt k e2.symm
  rw [h1] at h2
  injection h2 with h2
  injection h2 with _ h3
  exact hne h3
theorem SKept.of_grown {B0 S : Nat} {w w' : World} {n s : Nat} {v : Value} {xs : List Value} (_hBS : B0 ≤ S) (h : GrownS S v.ownBlock w w') (ho : w.ownsRow B0 50 s v n xs) : SKept B0 S w w' :=
  ⟨h.os, h.tape, h.output, h.size, fun j o hj h1 h2 _ => (h.block j (Array.getElem?_eq_some_iff.1 hj).1 h1 fun e => by
    obtain ⟨h3, _, cs, fr, h4⟩ := own_lt ho e.symm
    rw [hj] at h4
    injection h4 with h4
    have := h2 _ _ h4
    omega).trans hj⟩
/-- A line's outcome. -/
def LineOf (B0 S : Nat) (r : St × List UInt8) (w : World) (e : Ending) (w' : World) : Prop := ∃ (said : List UInt8) (ok : Bool), e = .returned (.tuple #[.string ⟨said.toArray⟩, .bool ok]) ∧ r.2 = (if ok then said else oNo) ∧ IsS B0 S r.1 w' ∧ SKept B0 S w w'
end Go.Proofs.YtipgpafgampfbaaGreatDoor
