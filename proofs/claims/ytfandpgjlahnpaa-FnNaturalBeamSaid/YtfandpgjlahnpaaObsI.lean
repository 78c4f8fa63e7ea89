/- 'impl.ObserveOf'. -/
import Derived.Test.YtfandpgjlahnpaaArrS
import Derived.Test.YtfandpgjlahnpaaA2
import Derived.Test.YtfandpgjlahnpaaA3
import Derived.RangeFuncBox
import Derived.Shelf.Abstract
import Derived.Maps.AppendAt
namespace Go.Proofs.Ytfandpgjlahnpaa
open Go.RowKit Go.Shelf
attribute [local go_sem] Oper.semAt_some

/-- What the first baselines see. -/
def obsP (ants : List (Int × Int)) (s : List Int) (ps : List (Nat × Nat)) : List (Int × Int) := ps.map fun p => (skyT s).getD (vecC ants p.1 p.2) (0, 0)
def obsR (ants : List (Int × Int)) (s : List Int) : List (Int × Int) := if arrV ants && skyV s then obsL ants s else []

theorem obsP_snoc (ants : List (Int × Int)) (s : List Int) (ps : List (Nat × Nat)) (x : Nat × Nat) : obsP ants s (ps ++ [x]) = obsP ants s ps ++ [(skyT s).getD (vecC ants x.1 x.2) (0, 0)] := by
  unfold obsP; rw [List.map_append]; rfl
theorem pairs21 (n : Nat) (h2 : 2 ≤ n) (h7 : n ≤ 7) : (pairsN n).length ≤ 21 := by
  have := bm_pairs n h2 h7; have := bm_le n; omega
/-- A box whose slice owns its row. -/
def BoxOwn (n₀ B : Nat) (t e : TypeId) (size k : Nat) (xs : List Value) (W : World) : Prop := ∃ v, Boxed W B t v ∧ W.ownsRow n₀ e size v k xs
theorem BoxOwn.kept {n₀ B : Nat} {t e : TypeId} {size k : Nat} {xs : List Value} {X Y : World} {row : Option Nat} (h : BoxOwn n₀ B t e size k xs X) (hg : X.grownBy Y row) (hrow : ∀ r, row = some r → ∃ o : Obj, X.heap[r]? = some o ∧ o.isCells = false) : BoxOwn n₀ B t e size k xs Y := by
  obtain ⟨v, hv, hr⟩ := h
  obtain ⟨v', h1, h2, _⟩ := holdsRow_own n₀ B t e size (fun _ : Unit => k) (fun _ => xs) (fun _ _ => True) () X Y row ⟨v, hv, hr, trivial⟩ hg hrow
  exact ⟨v', h1, h2⟩
theorem Boxed.keptI {X Y : World} {B : Nat} {t : TypeId} {v : Value} {row : Option Nat} (h : Boxed X B t v) (hg : X.grownBy Y row) (hrow : ∀ r, row = some r → ∃ o : Obj, X.heap[r]? = some o ∧ o.isCells = false) : Boxed Y B t v :=
  boxed_own B t (fun _ : Unit => v) () X Y row h hg hrow
/-- What holds between the rounds. -/
def ObI (n : Nat) (ants : List (Int × Int)) (s : List Int) (w : World) (pre : List (BP n)) (W : World) : Prop :=
  BoxOwn w.heap.size w.heap.size 55 31 2 pre.length ((obsP ants s (pre.map (·.1))).flatMap pairCells) W ∧ Boxed W (w.heap.size + 1) 3 (.int .i64 n) ∧ Below w.heap.size w W
theorem ObI_own (n : Nat) (ants : List (Int × Int)) (s : List Int) (w : World) (N : Nat) (hN : w.heap.size ≤ N) : OwnFrom N (ObI n ants s w) := by
  intro p W W' row hs hg hr
  obtain ⟨h1, h5, h4⟩ := hs
  exact ⟨h1.kept hg (fun r e => (hr r e).2), Boxed.keptI h5 hg (fun r e => (hr r e).2), ownFrom_below (β := Unit) (Nat.le_refl _) hN () W W' row h4 hg hr⟩

set_option maxRecDepth 100000 in
set_option maxHeartbeats 1000000 in
theorem observeOf_in (A B : Option Addr) (n m ca cb : Nat) (ants : List (Int × Int)) (s : List Int) (w : World) (hn : ants.length = n) (hm : s.length = m) (hk : n ≤ ca) (hva : arrV ants = true) (hvs : skyV s = true)
    (hr : Rd w w.heap.size A (ants.flatMap pairCells)) (hr2 : Rd w w.heap.size B (s.map (Value.int .i64))) :
    CallsIn Fence.wide 9 Try.prog 42 #[.slice A n ca, .slice B m cb] w fun e w' =>
      ∃ v, e = .returned (.tuple #[v, .bool true]) ∧ w'.ownsRow w.heap.size 31 2 v (obsL ants s).length ((obsL ants s).flatMap pairCells) ∧ Below w.heap.size w w' := by
  obtain ⟨i0, hi, hz0, hz1, hz2⟩ := info_parts gaussInfo
  have hl := arrV_len hva
  have hml := skyV_len hvs
  have hle := gLe_skyT hvs
  have hle0 := gLe_mono (gLe_reG (M := 100000) (by omega) (skyV_iff.1 hvs).2) (N := 1000000000) (by omega)
  have hgl := arrV_gLe hva
  have hlen : (obsL ants s).length = (pairsN n).length := by rw [obsL_len, hn]
  obtain rfl : m = 16 := by omega
  have h2 : 2 ≤ n := by omega
  have h7 : n ≤ 7 := by omega
  have hrl : (reG s).length = 16 := by unfold reG; rw [List.length_map]; exact hml
  clear hl hml
  have Hn := Lib.hid hn; clear hn
  have Hm := Lib.hid hm; clear hm
  have Hva := Lib.hid hva; clear hva
  have Hvs := Lib.hid hvs; clear hvs
  have Hle := Lib.hid hle; clear hle
  have Hle0 := Lib.hid hle0; clear hle0
  have Hgl := Lib.hid hgl; clear hgl
  have Hlen := Lib.hid hlen; clear hlen
  have Hrl := Lib.hid hrl; clear hrl
  have bA := Boxed.new w 23 (.slice A n ca)
  have hr' := hr.ext (bA1 (o := .cells #[.slice A n ca] 23))
  have hr2' := hr2.ext (bA1 (o := .cells #[.slice A n ca] 23))
  refine callsIn_of_wp_marks Try.func42 rfl trivial ?_ rfl
  simp only [Try.ntmps42, List.size_toArray, List.length_cons, List.length_nil, Nat.reduceAdd, Nat.reduceSub, Array.replicate_succ, Array.replicate_zero, List.push_toArray, List.append_toArray, List.nil_append, List.cons_append]
  gi_wp2_with fail
  refine ⟨trivial, (callsIn_wide.2 (arrayValid_any A n ca ants _ Hn.out hk (by omega) hr')).mono ?_⟩
  rintro e w1 ⟨rfl, b1⟩
  rw [Hva.out]
  have bA := boxed_ext bA b1
  have hr1 := hr'.ext b1
  have hr21 := hr2'.ext b1
  have B1 := bA1.trans (b1.mono bA1.size)
  have cA := bA.cell
  clear b1 hr' hr2'
  gi_wp2_with fail
  refine ⟨trivial, (callsIn_wide.2 (skyValid_any B 16 cb s _ Hm.out (by omega) hr21)).mono ?_⟩
  rintro e w2 ⟨rfl, rfl⟩
  rw [Hvs.out]
  gi_wp2_with fail
  refine ⟨trivial, (callsIn_wide.2 (realGrid_any B 16 cb s _ Hm.out (by omega) hr21)).mono ?_⟩
  rintro e w2 ⟨v, rfl, o2, b2⟩
  obtain ⟨A2, c2, rfl⟩ := own_form o2
  have hg2 := Rd.of_own o2
  have B2 := B1.trans (b2.mono B1.size)
  have bA := boxed_ext bA b2
  have extX := (hr1.below b2).more b2.size; clear hr1; have hr1 := extX; clear extX
  clear o2 b2 cA hr21
  gi_wp2_with fail
  refine ⟨trivial, (callsIn_wide.2 (transform_any A2 c2 (reG s) 1 _ Hrl.out (.inl rfl) Hle0.out hg2)).mono ?_⟩
  rintro e w3 ⟨rfl, r3, b3⟩
  have B3 := B2.trans (b3.mono B2.size)
  have bA := boxed_ext bA b3
  have extX := (hr1.below b3).more b3.size; clear hr1; have hr1 := extX; clear extX
  clear hg2 b3
  have cA := bA.cell
  have hlA := bA.lt
  gi_wp2_with fail
  have bG := Boxed.new w3 55 (.slice (some ⟨w2.heap.size, 0, none⟩) 16 16)
  have bA := boxed_ext bA (bA1 (o := .cells #[.slice (some ⟨w2.heap.size, 0, none⟩) 16 16] 55))
  have r3 := r3.alloc (.cells #[.slice (some ⟨w2.heap.size, 0, none⟩) 16 16] 55)
  have B4 := B3.alloc B3.size (.cells #[.slice (some ⟨w2.heap.size, 0, none⟩) 16 16] 55)
  have hr4 := hr1.ext (bA1 (o := .cells #[.slice (some ⟨w2.heap.size, 0, none⟩) 16 16] 55))
  have hsz : w3.heap.size + 1 = (w3.alloc (.cells #[.slice (some ⟨w2.heap.size, 0, none⟩) 16 16] 55)).heap.size := (World.size_alloc _ _).symm
  rw [hsz]
  obtain ⟨W0, hW0⟩ : ∃ W0, w3.alloc (.cells #[.slice (some ⟨w2.heap.size, 0, none⟩) 16 16] 55) = W0 := ⟨_, rfl⟩
  rw [hW0] at bG bA r3 B4 hr4 hsz ⊢
  obtain ⟨G, hG⟩ : ∃ G, w3.heap.size = G := ⟨_, rfl⟩
  obtain ⟨g, hg⟩ : ∃ g, w2.heap.size = g := ⟨_, rfl⟩
  rw [hG] at bG ⊢
  rw [hg] at bG r3 ⊢
  clear hW0 cA hlA B3 hsz hG hg hr1 B1 B2
  refine ⟨trivial, (callsIn_wide.2 (bases_any _ _)).mono ?_⟩
  rintro e w' ⟨rfl, rfl⟩
  gi_wp2_with fail
  have bN := Boxed.new (W0.alloc (.cells #[.slice none 0 0] 55)) 3 (.int .i64 n)
  have bO := (Boxed.new W0 55 (.slice none 0 0)).alloc (.cells #[.int .i64 n] 3)
  rw [World.size_alloc] at bN
  have hlA := bA.lt
  have hlG := bG.lt
  have hlg := r3.lt
  refine wpIn_rangeFunc_ownG rfl (by omega) (gf := 122) (lb := #[.pointer (some ⟨W0.heap.size + 1, 0, none⟩)]) rfl trivial (enters_of Try.func122 (by kernel_rfl) rfl)
    (bases_stops 8 n h2 h7 (W0.heap.size + 1) _ bN.cell (by simp)) KC_t (fun W l o o' _ h1 h2 _ => KC_b W l o o' h1 h2) (Below.refl _ _) (fun _ => rfl)
    (ObI n ants s W0)
    (fun _ _ _ => False)
    (ObI_own n ants s W0 _ (by simp; omega))
    (fun _ _ _ _ _ hs _ _ => hs)
    ⟨⟨_, bO, World.ownsRow_nil _ _ _ _⟩, bN, bA2⟩
    (fun x => { tmps := #[.slice A n ca, .slice B 16 cb, .pointer (some ⟨w.heap.size, 0, none⟩), undef, .slice none 0 0, .bool false, .pointer (some ⟨G, 0, none⟩), .pointer (some ⟨W0.heap.size, 0, none⟩), .int .i64 (x.1.1 : Nat), .int .i64 (x.1.2 : Nat), undef,
      .slice A n ca, .bool true, .bool false, .bool false, .slice B 16 cb, .bool true, .bool false, .bool false, .slice B 16 cb, .slice A2 16 c2, .slice (some ⟨g, 0, none⟩) 16 16, .slice A n ca, .int .i64 n, .func (.func 122) #[] #[.pointer (some ⟨W0.heap.size + 1, 0, none⟩)], .int .i64 (x.1.1 : Nat), .int .i64 (x.1.2 : Nat),
      undef, undef, undef, undef, undef, undef, undef, undef, undef, undef, undef, undef, undef, undef, undef, undef], defers := [] }) ?assign ?body ?done ?stop
  case assign =>
    intro l x W K hK
    gi_wp2
    exact hK
  case body =>
    rintro l pre x W ⟨⟨v, hv, hrow⟩, hN, hbel⟩ hlt
    have hn' := pairs21 n h2 h7
    have hbs := hbel.size
    have cA := (bcl hbel hlA 0).trans bA.cell
    have cG := (bcl hbel hlG 0).trans bG.cell
    have hrW := hr4.ext hbel
    obtain ⟨x1, x2⟩ : x.1.1 < x.1.2 ∧ x.1.2 < n := x.2
    refine wpIn_block ?_
    have Hrow := Lib.hid hrow
    have Hbel := Lib.hid hbel
    clear hrow hbel
    gi_wp2_with fail
    refine ⟨trivial, ((callsIn_wide.2 (vector_any A n ca ants x.1.1 x.1.2 _ Hn.out (by omega) x2 Hgl.out hrW)).inRound l).mono ?_⟩
    rintro e w4 ⟨rfl, b4⟩
    obtain ⟨X, hX⟩ : ∃ X, vecX ants x.1.1 x.1.2 = X := ⟨_, rfl⟩
    obtain ⟨Y, hY⟩ : ∃ Y, vecY ants x.1.1 x.1.2 = Y := ⟨_, rfl⟩
    obtain ⟨c, hc⟩ : ∃ c, vecC ants x.1.1 x.1.2 = c := ⟨_, rfl⟩
    have hcI : cellI X Y = (c : Int) := by rw [← hc, ← hX, ← hY]; exact cellN_cast _ _
    have hc16 : c < 16 := by rw [← hc]; exact vecC_lt _ _ _
    obtain ⟨gz, hgz⟩ : ∃ gz, (skyT s).getD c (0, 0) = gz := ⟨_, rfl⟩
    rw [hX, hY]
    gi_wp2_with fail
    have E1 : Below W.heap.size W (w4.alloc (.cells #[.int .i64 X, .int .i64 Y] 35)) := b4.alloc b4.size _
    have rv := Row.new w4 35 [.int .i64 X, .int .i64 Y]
    obtain ⟨V, hV⟩ : ∃ V, w4.alloc (.cells #[.int .i64 X, .int .i64 Y] 35) = V := ⟨_, rfl⟩
    obtain ⟨H, hH⟩ : ∃ H, w4.heap.size = H := ⟨_, rfl⟩
    rw [hV] at rv E1 ⊢
    rw [hH] at rv ⊢
    have hvV := boxed_ext hv E1
    have hrowV := own_ext Hrow.out E1
    have hbelV := Hbel.out.trans (E1.mono hbs)
    have hNV := boxed_ext hN E1
    have rg := r3.below hbelV hlg
    obtain ⟨_, _, e, Lg⟩ := ld_pair rg.rd (k := c) (by rw [trf_len]; exact hc16)
    cases e
    rw [show trf (reG s) 1 = skyT s from rfl, hgz] at Lg
    have fO : ∀ w', Below V.heap.size V w' → w'.cell? ⟨W0.heap.size, 0, none⟩ = some v := fun w' h => (bcl h hvV.lt 0).trans hvV.cell
    have fG : ∀ w', Below V.heap.size V w' → w'.cell? ⟨G, 0, none⟩ = some (.slice (some ⟨g, 0, none⟩) 16 16) := fun w' h => (bcl (hbelV.trans (h.mono hbelV.size)) hlG 0).trans bG.cell
    have fX : ∀ w', Below V.heap.size V w' → w'.cell? ⟨H, 0, none⟩ = some (.int .i64 X) := fun w' h => (rv.kept h).cell 0
    have fY : ∀ w', Below V.heap.size V w' → w'.cell? ⟨H, 1, none⟩ = some (.int .i64 Y) := fun w' h => (rv.kept h).cell 1
    have hpl : pre.length < 21 := by omega
    obtain ⟨Ao, co, rfl⟩ : ∃ Ao co, v = .slice Ao pre.length co := by
      rcases hrowV.2 with ⟨h, h'⟩ | ⟨g, cap, _, h, _⟩
      · exact ⟨none, 0, by rw [h, ← h']⟩
      · exact ⟨_, _, h⟩
    refine wpIn_region_R [9, 10, 11] [10, 11] (Below V.heap.size V) (by kernel_rfl) (by kernel_rfl) (by kernel_rfl) (fun ⟨_, _, h⟩ => h) (fun _ _ h h' => h.trans (h'.mono h.size)) (fun _ _ _ _ _ h => h) (Below.refl _ _).drew ?_
    refine wpStill_go (v := .slice Ao pre.length co) rfl rfl (stays_run fun w' h => ex_load rfl rfl (ld_one (by kernel_rfl) (fO w' h))) ?_
    simp only [Act.put, List.setIfInBounds_toArray, List.set_cons_succ, List.set_cons_zero, Nat.reduceAdd]
    refine wpStill_go (v := .slice (some ⟨g, 0, none⟩) 16 16) rfl rfl (stays_run fun w' h => ex_load rfl rfl (ld_one (by kernel_rfl) (fG w' h))) ?_
    simp only [Act.put, List.setIfInBounds_toArray, List.set_cons_succ, List.set_cons_zero, Nat.reduceAdd]
    refine wpStill_go (v := .pointer (some ⟨H, 0, none⟩)) rfl rfl (stays_run fun w' h => by simp [go_sem]) ?_
    simp only [Act.put, List.setIfInBounds_toArray, List.set_cons_succ, List.set_cons_zero, Nat.reduceAdd]
    refine wpStill_go (v := .int .i64 X) rfl rfl (stays_run fun w' h => ex_load rfl rfl (ld_one (by kernel_rfl) (fX w' h))) ?_
    simp only [Act.put, List.setIfInBounds_toArray, List.set_cons_succ, List.set_cons_zero, Nat.reduceAdd]
    refine wpStill_go (v := .pointer (some ⟨H, 1, none⟩)) rfl rfl (stays_run fun w' h => by simp [go_sem]) ?_
    simp only [Act.put, List.setIfInBounds_toArray, List.set_cons_succ, List.set_cons_zero, Nat.reduceAdd]
    refine wpStill_go (v := .int .i64 Y) rfl rfl (stays_run fun w' h => ex_load rfl rfl (ld_one (by kernel_rfl) (fY w' h))) ?_
    simp only [Act.put, List.setIfInBounds_toArray, List.set_cons_succ, List.set_cons_zero, Nat.reduceAdd]
    refine wpStill_go (v := .int .i64 (c : Nat)) rfl rfl (stays_call (f := 71) (args := #[.int .i64 X, .int .i64 Y]) (fun w' h => by simp [go_sem]) (fun w' _ => by rw [← hcI]; exact (cellAt_any _ _ w').mono fun e w'' ⟨h, h2⟩ => ⟨h, h2 ▸ Below.refl _ _⟩)) ?_
    simp only [Act.put, List.setIfInBounds_toArray, List.set_cons_succ, List.set_cons_zero, Nat.reduceAdd]
    refine wpStill_go (v := .pointer (some ⟨g, 0 + c * 2, none⟩)) rfl rfl (stays_run fun w' h => ex_index rfl (by kernel_rfl) (by kernel_rfl) rfl rfl (hc16)) ?_
    simp only [Act.put, List.setIfInBounds_toArray, List.set_cons_succ, List.set_cons_zero, Nat.reduceAdd]
    refine wpStill_go (v := .agg #[.int .i64 gz.1, .int .i64 gz.2]) rfl rfl (stays_run fun w' h => ex_load rfl rfl (Lg w' h)) ?_
    simp only [Act.put, List.setIfInBounds_toArray, List.set_cons_succ, List.set_cons_zero, Nat.reduceAdd]
    refine wpStill_skip rfl (wpStill_skip rfl (wpStill_skip rfl (wpStill_nil ?_)))
    repeat (refine wpMark_skip rfl ?_)
    refine wpMark_go rfl (fun w1 h1 K hK => ?_)
    go_wp2_with fail
    have hW1 : ∀ o, Below V.heap.size V (w1.alloc o) := fun o => ((Below.refl _ _).drew.trans h1).alloc h1.size o
    refine hK _ _ (fun _ => hW1 _) ?_
    clear hK
    refine wpMark_go rfl (fun w2 h2w K hK => ?_)
    have hE : Below V.heap.size V w2 := (hW1 _).trans (h2w.mono (hW1 _).size)
    have hnw := (Row.new w1 31 [.int .i64 gz.1, .int .i64 gz.2]).kept h2w
    have hbV := hbelV.size
    refine wpList_append_own w2 rfl _ _ 55 rfl W0.heap.size 31 i0 (.agg #[.int .i64 0, .int .i64 0]) 2 16 (by kernel_rfl) hi hz0 hz1 hz2 rfl (by decide) (.slice Ao pre.length co) pre.length _ rfl (own_ext hrowV hE)
      ⟨w1.heap.size, 0, none⟩ 1 1 [.int .i64 gz.1, .int .i64 gz.2] rfl rfl (fun j u hj => by rw [← hj, ← hnw.cell j]; exact congrArg _ (addr_add _ _)) (by simp [Value.oneCell']) (by unfold maxLen; omega) (by omega) (Nat.le_trans hbV hE.size) ?_
    intro v' w3' hown' hgrow _
    obtain ⟨g', cap', rfl⟩ := ownsRow_succ hown'
    simp only [Act.put, List.setIfInBounds_toArray, List.set_cons_succ, List.set_cons_zero]
    go_wp2_with fail
    refine hK _ _ (fun h => absurd h (by decide)) ?_
    clear hK
    refine wpMark_go rfl (fun w4' h4 K hK => ?_)
    have hm4 := grew_mid hvV (by decide) hrowV hE hgrow h4
    have hc4 := hm4.cell
    have hf4 := hm4.frozen
    go_wp2_with fail
    refine hK _ _ (fun h => absurd h (by decide)) (wpMark_nil fun w6 h6 => ?_)
    have GR := grew_of hvV (by decide) hrowV hbV (by omega) hE hown' hgrow h4 h6
    have kN := GR.rest _ hNV.lt (by omega) (hNV.not_row (by decide) hrowV)
    have kp := (keeps_ext E1).trans GR.keeps
    refine ⟨kp.from _, fun _ => Boxed.cell (kN.trans hNV), ⟨_, GR.box, ?_⟩, kN.trans hNV, hbelV.trans GR.below⟩
    rw [List.map_append, List.map_singleton, obsP_snoc, List.flatMap_append, List.length_append, List.length_singleton, hc, hgz]
    exact GR.own
  case done =>
    rintro D ys W hD rfl ⟨⟨v, hv, hrow⟩, hN, hbel⟩ hK
    have hc := hv.cell
    have Hrow := Lib.hid hrow
    clear hrow
    gi_wp2_with fail
    have hbel2 : Below W0.heap.size W (W.putObj D (.deferred none)) := belowK_b (w := W0) (Nat.le_refl _) W D _ _ (by simp at hD; omega) hK rfl rfl
    have hb3 : Below w.heap.size w (W.putObj D (.deferred none)) := B4.trans ((hbel.trans hbel2).mono B4.size)
    refine ⟨by simp, .inl ⟨_, _, rfl, run_takeDeferred hK, ?_⟩⟩
    refine ⟨_, (by simp [results, Try.results42, go_sem]), v, rfl, ?_, hb3⟩
    have e1 : (obsL ants s).length = (pairsB n).length := by rw [Hlen.out, ← pairsB_map, List.length_map]
    have e2 : obsL ants s = obsP ants s ((pairsB n).map (·.1)) := by rw [pairsB_map]; unfold obsL obsP; rw [Hn.out]
    rw [e1, e2]
    exact (ownsRow_putObj Hrow.out _ hK rfl).mono B4.size
  case stop =>
    rintro D c pre W _ _ h _
    exact h.elim

theorem obsR_yes {ants : List (Int × Int)} {s : List Int} (h1 : arrV ants = true) (h2 : skyV s = true) : obsR ants s = obsL ants s := by unfold obsR; rw [h1, h2]; rfl
theorem obsR_no {ants : List (Int × Int)} {s : List Int} (h : (arrV ants && skyV s) = false) : obsR ants s = [] := by unfold obsR; rw [h]; rfl
theorem observeOf_any (A B : Option Addr) (n m ca cb : Nat) (ants : List (Int × Int)) (s : List Int) (w : World) (hn : ants.length = n) (hm : s.length = m) (hk : n ≤ ca) (hnb : n ≤ 1048576) (hmb : m ≤ 1048576)
    (hr : Rd w w.heap.size A (ants.flatMap pairCells)) (hr2 : Rd w w.heap.size B (s.map (Value.int .i64))) :
    Calls Try.prog 42 #[.slice A n ca, .slice B m cb] w fun e w' =>
      ∃ v, e = .returned (.tuple #[v, .bool (arrV ants && skyV s)]) ∧ w'.ownsRow w.heap.size 31 2 v (obsR ants s).length ((obsR ants s).flatMap pairCells) ∧ Below w.heap.size w w' := by
  cases h1 : arrV ants
  · rw [obsR_no (by rw [h1]; rfl)]
    have hr' := hr.ext (bA1 (o := .cells #[.slice A n ca] 23))
    have bA := Boxed.new w 23 (.slice A n ca)
    have cA := bA.cell
    have Hn := Lib.hid hn; clear hn
    have Hm := Lib.hid hm; clear hm
    have H1 := Lib.hid h1; clear h1
    go_enter Try.func42, Try.ntmps42
    go_wp2_with fail
    refine (arrayValid_any A n ca ants _ Hn.out hk hnb hr').mono ?_
    rintro e w1 ⟨rfl, b1⟩
    rw [H1.out]
    have B1 := bA1.trans (b1.mono bA1.size)
    clear b1
    go_wp2_with fail
    refine bodyPost_ret (v := .tuple #[.slice none 0 0, .bool false]) (by simp [results, Try.results42, go_sem]) rfl ⟨_, rfl, World.ownsRow_nil _ _ _ _, B1⟩
  · cases h2 : skyV s
    · rw [obsR_no (by rw [h1, h2]; rfl)]
      have hr' := hr.ext (bA1 (o := .cells #[.slice A n ca] 23))
      have hr2' := hr2.ext (bA1 (o := .cells #[.slice A n ca] 23))
      have bA := Boxed.new w 23 (.slice A n ca)
      have cA := bA.cell
      have Hn := Lib.hid hn; clear hn
      have Hm := Lib.hid hm; clear hm
      have H1 := Lib.hid h1; clear h1
      have H2 := Lib.hid h2; clear h2
      go_enter Try.func42, Try.ntmps42
      go_wp2_with fail
      refine (arrayValid_any A n ca ants _ Hn.out hk hnb hr').mono ?_
      rintro e w1 ⟨rfl, b1⟩
      rw [H1.out]
      have extX := (hr2'.below b1).more b1.size; clear hr2'; have hr2' := extX; clear extX
      have B1 := bA1.trans (b1.mono bA1.size)
      clear b1
      go_wp2_with fail
      refine (skyValid_any B m cb s _ Hm.out (by omega) hr2').mono ?_
      rintro e w2 ⟨rfl, rfl⟩
      rw [H2.out]
      go_wp2_with fail
      refine bodyPost_ret (v := .tuple #[.slice none 0 0, .bool false]) (by simp [results, Try.results42, go_sem]) rfl ⟨_, rfl, World.ownsRow_nil _ _ _ _, B1⟩
    · rw [obsR_yes h1 h2]
      exact callsIn_wide.1 (observeOf_in A B n m ca cb ants s w hn hm hk h1 h2 hr hr2)
end Go.Proofs.Ytfandpgjlahnpaa
