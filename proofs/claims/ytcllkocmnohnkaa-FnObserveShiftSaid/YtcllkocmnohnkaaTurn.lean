/- An observation turned by quarter gains. -/
import Derived.Test.YtcllkocmnohnkaaA3
import Derived.Maps.AppendAt
import Derived.Test.YtcllkocmnohnkaaA2
import Derived.Test.YtcllkocmnohnkaaA1
import Derived.Shelf.Abstract
import Derived.RangeFuncBox
namespace Go.Proofs.Ytcllkocmnohnkaa
open Go.RowKit Go.Shelf
attribute [local go_sem] Oper.semAt_some

/-- The numbers of the baselines of a list, turned. -/
def turnedOf (gs : List (Int × Int)) (q : List Int) (ps : List (Nat × Nat)) : List (Int × Int) :=
  (List.range ps.length).map fun k => turnAt (gs.getD k (0, 0)) (q.getD (ps.getD k (0, 0)).2 0 - q.getD (ps.getD k (0, 0)).1 0)
theorem turnedOf_snoc (gs : List (Int × Int)) (q : List Int) (ps : List (Nat × Nat)) (x : Nat × Nat) :
    turnedOf gs q (ps ++ [x]) = turnedOf gs q ps ++ [turnAt (gs.getD ps.length (0, 0)) (q.getD x.2 0 - q.getD x.1 0)] := by
  unfold turnedOf
  rw [List.length_append, List.length_singleton, List.range_succ, List.map_append]
  congr 1
  · refine List.map_congr_left fun k hk => ?_
    have hk' : k < ps.length := List.mem_range.1 hk
    rw [show (ps ++ [x]).getD k (0, 0) = ps.getD k (0, 0) from by simp [List.getD, List.getElem?_append_left hk']]
  · simp
theorem turnedOf_len (gs : List (Int × Int)) (q : List Int) (ps : List (Nat × Nat)) : (turnedOf gs q ps).length = ps.length := by simp [turnedOf]

/-- A box whose slice owns its row. -/
def BoxRow (n₀ B : Nat) (t e : TypeId) (size k : Nat) (xs : List Value) (W : World) : Prop := ∃ v, Boxed W B t v ∧ W.ownsRow n₀ e size v k xs
theorem BoxRow.kept {n₀ B : Nat} {t e : TypeId} {size k : Nat} {xs : List Value} {X Y : World} {row : Option Nat} (h : BoxRow n₀ B t e size k xs X) (hg : X.grownBy Y row) (hrow : ∀ r, row = some r → ∃ o : Obj, X.heap[r]? = some o ∧ o.isCells = false) : BoxRow n₀ B t e size k xs Y := by
  obtain ⟨v, hv, hr⟩ := h
  obtain ⟨v', h1, h2, _⟩ := holdsRow_own n₀ B t e size (fun _ : Unit => k) (fun _ => xs) (fun _ _ => True) () X Y row ⟨v, hv, hr, trivial⟩ hg hrow
  exact ⟨v', h1, h2⟩
theorem Boxed.keptO {X Y : World} {B : Nat} {t : TypeId} {v : Value} {row : Option Nat} (h : Boxed X B t v) (hg : X.grownBy Y row) (hrow : ∀ r, row = some r → ∃ o : Obj, X.heap[r]? = some o ∧ o.isCells = false) : Boxed Y B t v :=
  boxed_own B t (fun _ : Unit => v) () X Y row h hg hrow
/-- What holds between the rounds: the box of the numbers made, which own their row; the boxes of the parameters; and what lay before. -/
def QtI (n m capA capB : Nat) (A B : Option Addr) (gs : List (Int × Int)) (q : List Int) (w : World) (pre : List (BP n)) (W : World) : Prop :=
  BoxRow w.heap.size (w.heap.size + 1 + 1) 38 49 2 pre.length ((turnedOf gs q (pre.map (·.1))).flatMap pairCells) W ∧
    Boxed W w.heap.size 38 (.slice A m capA) ∧ Boxed W (w.heap.size + 1) 25 (.slice B n capB) ∧ Boxed W (w.heap.size + 1 + 1 + 1) 3 (.int .i64 n) ∧ Below w.heap.size w W
theorem QtI_own (n m capA capB : Nat) (A B : Option Addr) (gs : List (Int × Int)) (q : List Int) (w : World) (N : Nat) (hN : w.heap.size ≤ N) : OwnFrom N (QtI n m capA capB A B gs q w) := by
  intro s W W' row hs hg hr
  obtain ⟨h1, h2, h3, h5, h4⟩ := hs
  exact ⟨h1.kept hg (fun r e => (hr r e).2), Boxed.keptO h2 hg (fun r e => (hr r e).2), Boxed.keptO h3 hg (fun r e => (hr r e).2), Boxed.keptO h5 hg (fun r e => (hr r e).2), ownFrom_below (β := Unit) (Nat.le_refl _) hN () W W' row h4 hg hr⟩

set_option maxRecDepth 100000 in
set_option maxHeartbeats 1000000 in
theorem quarterTurned_in (n m capA capB : Nat) (h2 : 2 ≤ n) (h7 : n ≤ 7) (A B : Option Addr) (gs : List (Int × Int)) (q : List Int) (w : World)
    (hm : gs.length = m) (hmn : m = (pairsN n).length) (hm21 : m ≤ 21) (hv : allV gs = true) (hq : q.length = n) (hq3 : ∀ x ∈ q, 0 ≤ x ∧ x ≤ 3)
    (hr : Rd w w.heap.size A (gs.flatMap pairCells)) (hr2 : Rd w w.heap.size B (q.map (Value.int .i64))) :
    CallsIn Fence.wide 9 Try.prog 115 #[.int .i64 n, .slice A m capA, .slice B n capB] w fun e w' =>
      ∃ v, e = .returned v ∧ w'.ownsRow w.heap.size 49 2 v m ((turnedOf gs q (pairsN n)).flatMap pairCells) ∧ Below w.heap.size w w' := by
  obtain ⟨i0, hi, hz0, hz1, hz2⟩ := info_parts gaussInfo
  have Hm := Lib.hid hm; clear hm
  have Hmn := Lib.hid hmn; clear hmn
  have Hv := Lib.hid hv; clear hv
  have Hq := Lib.hid hq; clear hq
  have Hq3 := Lib.hid hq3; clear hq3
  refine callsIn_of_wp_marks Try.func115 rfl trivial ?_ rfl
  simp only [Try.ntmps115, List.size_toArray, List.length_cons, List.length_nil, Nat.reduceAdd, Nat.reduceSub, Array.replicate_succ, Array.replicate_zero, List.push_toArray, List.append_toArray, List.nil_append, List.cons_append]
  gi_wp2_with fail
  refine ⟨trivial, (callsIn_wide.2 (bases_any _ _)).mono ?_⟩
  rintro e w' ⟨rfl, rfl⟩
  gi_wp2_with fail
  have bA := ((Boxed.new w 38 (.slice A m capA)).alloc (.cells #[.slice B n capB] 25)).alloc (.cells #[.slice none 0 0] 38) |>.alloc (.cells #[.int .i64 n] 3)
  have bB := (Boxed.new (w.alloc (.cells #[.slice A m capA] 38)) 25 (.slice B n capB)).alloc (.cells #[.slice none 0 0] 38) |>.alloc (.cells #[.int .i64 n] 3)
  have bO := (Boxed.new ((w.alloc (.cells #[.slice A m capA] 38)).alloc (.cells #[.slice B n capB] 25)) 38 (.slice none 0 0)).alloc (.cells #[.int .i64 n] 3)
  have bN := Boxed.new (((w.alloc (.cells #[.slice A m capA] 38)).alloc (.cells #[.slice B n capB] 25)).alloc (.cells #[.slice none 0 0] 38)) 3 (.int .i64 n)
  rw [World.size_alloc] at bB
  rw [World.size_alloc, World.size_alloc] at bO
  rw [World.size_alloc, World.size_alloc, World.size_alloc] at bN
  have hB0 : Below w.heap.size w ((((w.alloc (.cells #[.slice A m capA] 38)).alloc (.cells #[.slice B n capB] 25)).alloc (.cells #[.slice none 0 0] 38)).alloc (.cells #[.int .i64 n] 3)) := bA3.alloc (by simp; omega) _
  refine wpIn_rangeFunc_ownG rfl (by omega) (gf := 175) (lb := #[.pointer (some ⟨w.heap.size + 1 + 1 + 1, 0, none⟩)]) rfl trivial (enters_of Try.func175 (by kernel_rfl) rfl)
    (bases_stops 8 n h2 h7 (w.heap.size + 1 + 1 + 1) _ bN.cell (by simp)) KC_t (fun W l o o' _ h1 h2 _ => KC_b W l o o' h1 h2) (Below.refl _ _) (fun _ => rfl)
    (QtI n m capA capB A B gs q w)
    (fun _ _ _ => False)
    (QtI_own n m capA capB A B gs q w _ (by simp; omega))
    (fun _ _ _ _ _ hs _ _ => hs)
    ⟨⟨_, bO, World.ownsRow_nil _ _ _ _⟩, bA, bB, bN, hB0⟩
    (fun x => { tmps := #[.int .i64 n, .slice A m capA, .slice B n capB, undef, .pointer (some ⟨w.heap.size, 0, none⟩), .pointer (some ⟨w.heap.size + 1, 0, none⟩), .slice none 0 0, .pointer (some ⟨w.heap.size + 1 + 1, 0, none⟩), .int .i64 (x.1.1 : Nat), .int .i64 (x.1.2 : Nat),
      .int .i64 n, .func (.func 175) #[] #[.pointer (some ⟨w.heap.size + 1 + 1 + 1, 0, none⟩)], .int .i64 (x.1.1 : Nat), .int .i64 (x.1.2 : Nat), undef, undef, undef, undef, undef, undef, undef, undef, undef, undef, undef, undef, undef, undef, undef, undef, undef, undef, undef, undef], defers := [] }) ?assign ?body ?done ?stop
  case assign =>
    intro l x W K hK
    gi_wp2
    exact hK
  case body =>
    rintro l pre x W ⟨⟨v, hv, hrow⟩, hA, hB, hN, hbel⟩ hlt
    have hpl : pre.length < gs.length := by rw [Hm.out, Hmn.out]; exact hlt
    obtain ⟨gz, hgz⟩ : ∃ gz, gs[pre.length]? = some gz := ⟨_, List.getElem?_eq_getElem hpl⟩
    obtain ⟨b, off, rfl, hb, hc1, hc2⟩ := rd_pair (hr.below hbel) hgz
    obtain ⟨x1, x2, x3⟩ : x.1.1 < x.1.2 ∧ x.1.2 < n ∧ 0 < n := ⟨x.2.1, x.2.2, by omega⟩
    have hg1 : q[x.1.1]? = some (q.getD x.1.1 0) := by rw [List.getD_eq_getElem?_getD, List.getElem?_eq_getElem (by rw [Hq.out]; omega)]; rfl
    have hg2 : q[x.1.2]? = some (q.getD x.1.2 0) := by rw [List.getD_eq_getElem?_getD, List.getElem?_eq_getElem (by rw [Hq.out]; omega)]; rfl
    obtain ⟨b2, off2, rfl, hb2, hd1⟩ := (hr2.below hbel) x.1.1 _ (by rw [List.getElem?_map, hg1]; rfl)
    obtain ⟨_, _, e2, _, hd2⟩ := (hr2.below hbel) x.1.2 _ (by rw [List.getElem?_map, hg2]; rfl)
    cases e2
    have fO : ∀ w', Below W.heap.size W w' → w'.cell? ⟨w.heap.size + 1 + 1, 0, none⟩ = some v := fun w' h => (h.cell (p := ⟨w.heap.size + 1 + 1, 0, none⟩) hv.lt).trans hv.cell
    have fA : ∀ w', Below W.heap.size W w' → w'.cell? ⟨w.heap.size, 0, none⟩ = some (.slice (some ⟨b, off, none⟩) m capA) := fun w' h => (h.cell (p := ⟨w.heap.size, 0, none⟩) hA.lt).trans hA.cell
    have fB : ∀ w', Below W.heap.size W w' → w'.cell? ⟨w.heap.size + 1, 0, none⟩ = some (.slice (some ⟨b2, off2, none⟩) n capB) := fun w' h => (h.cell (p := ⟨w.heap.size + 1, 0, none⟩) hB.lt).trans hB.cell
    have f1 : ∀ w', Below W.heap.size W w' → w'.cell? ⟨b, off + pre.length * 2, none⟩ = some (.int .i64 gz.1) := fun w' h => (h.cell (p := ⟨b, off + pre.length * 2, none⟩) (Nat.lt_of_lt_of_le hb hbel.size)).trans hc1
    have f2 : ∀ w', Below W.heap.size W w' → w'.cell? ⟨b, off + pre.length * 2 + 1, none⟩ = some (.int .i64 gz.2) := fun w' h => (h.cell (p := ⟨b, off + pre.length * 2 + 1, none⟩) (Nat.lt_of_lt_of_le hb hbel.size)).trans hc2
    have f3 : ∀ w', Below W.heap.size W w' → w'.cell? ⟨b2, off2 + x.1.1, none⟩ = some (.int .i64 (q.getD x.1.1 0)) := fun w' h => (h.cell (p := ⟨b2, off2 + x.1.1, none⟩) (Nat.lt_of_lt_of_le hb2 hbel.size)).trans hd1
    have f4 : ∀ w', Below W.heap.size W w' → w'.cell? ⟨b2, off2 + x.1.2, none⟩ = some (.int .i64 (q.getD x.1.2 0)) := fun w' h => (h.cell (p := ⟨b2, off2 + x.1.2, none⟩) (Nat.lt_of_lt_of_le hb2 hbel.size)).trans hd2
    obtain ⟨hgz1, hgz2⟩ : GB gz.1 ∧ GB gz.2 := GB.gv (List.all_eq_true.1 Hv.out _ (List.mem_of_getElem? hgz))
    have hvg : gv gz.1 gz.2 = true := List.all_eq_true.1 Hv.out _ (List.mem_of_getElem? hgz)
    have hq1 := Hq3.out _ (List.mem_of_getElem? hg1)
    have hq2 := Hq3.out _ (List.mem_of_getElem? hg2)
    have hu := unit_bd (q.getD x.1.2 0 - q.getD x.1.1 0)
    obtain ⟨d, hd⟩ : ∃ d, q.getD x.1.2 0 - q.getD x.1.1 0 = d := ⟨_, rfl⟩
    obtain ⟨Ao, co, rfl⟩ : ∃ Ao co, v = .slice Ao pre.length co := by
      rcases hrow.2 with ⟨h, h'⟩ | ⟨g, cap, _, h, _⟩
      · exact ⟨none, 0, by rw [h, ← h']⟩
      · exact ⟨_, _, h⟩
    have hpm : pre.length < m := by rw [← Hm.out]; exact hpl
    refine wpIn_block ?_
    refine wpIn_region_R [17, 18, 19] [18, 19] (Below W.heap.size W) (by kernel_rfl) (by kernel_rfl) (by kernel_rfl) (fun ⟨_, _, h⟩ => h) (fun _ _ h h' => h.trans (h'.mono h.size)) (fun _ _ _ _ _ h => h) (Below.refl _ _).drew ?_
    dsimp only
    refine wpStill_go (v := .slice Ao pre.length co) rfl rfl (stays_run fun w' h => ex_load rfl rfl (ld_one (by kernel_rfl) (fO w' h))) ?_
    simp only [Act.put, List.setIfInBounds_toArray, List.set_cons_succ, List.set_cons_zero]
    refine wpStill_go (v := .slice (some ⟨b, off, none⟩) m capA) rfl rfl (stays_run fun w' h => ex_load rfl rfl (ld_one (by kernel_rfl) (fA w' h))) ?_
    simp only [Act.put, List.setIfInBounds_toArray, List.set_cons_succ, List.set_cons_zero]
    refine wpStill_go (v := .slice Ao pre.length co) rfl rfl (stays_run fun w' h => ex_load rfl rfl (ld_one (by kernel_rfl) (fO w' h))) ?_
    simp only [Act.put, List.setIfInBounds_toArray, List.set_cons_succ, List.set_cons_zero]
    refine wpStill_go (v := .int .i64 pre.length) rfl rfl (stays_run fun w' h => ex_len rfl (by kernel_rfl) rfl) ?_
    simp only [Act.put, List.setIfInBounds_toArray, List.set_cons_succ, List.set_cons_zero]
    refine wpStill_go (v := .pointer (some ⟨b, off + pre.length * 2, none⟩)) rfl rfl (stays_run fun w' h => ex_index rfl (by kernel_rfl) (by kernel_rfl) rfl rfl hpm) ?_
    simp only [Act.put, List.setIfInBounds_toArray, List.set_cons_succ, List.set_cons_zero]
    refine wpStill_go (v := .agg #[.int .i64 gz.1, .int .i64 gz.2]) rfl rfl (stays_run fun w' h => ?ld) ?_
    case ld =>
      have e := ld_two (P := Try.prog) (t := 49) (by kernel_rfl) (by kernel_rfl) (f1 w' h) (f2 w' h)
      exact ex_load rfl rfl e
    simp only [Act.put, List.setIfInBounds_toArray, List.set_cons_succ, List.set_cons_zero]
    refine wpStill_go (v := .slice (some ⟨b2, off2, none⟩) n capB) rfl rfl (stays_run fun w' h => ex_load rfl rfl (ld_one (by kernel_rfl) (fB w' h))) ?_
    simp only [Act.put, List.setIfInBounds_toArray, List.set_cons_succ, List.set_cons_zero]
    refine wpStill_go (v := .int .i64 x.1.2) rfl rfl (stays_run fun w' h => ex_move rfl rfl) ?_
    simp only [Act.put, List.setIfInBounds_toArray, List.set_cons_succ, List.set_cons_zero]
    refine wpStill_go (v := .pointer (some ⟨b2, off2 + x.1.2 * 1, none⟩)) rfl rfl (stays_run fun w' h => ex_index rfl (by kernel_rfl) (by kernel_rfl) rfl rfl x2) ?_
    simp only [Act.put, List.setIfInBounds_toArray, List.set_cons_succ, List.set_cons_zero]
    refine wpStill_go (v := .int .i64 (q.getD x.1.2 0)) rfl rfl (stays_run fun w' h => ex_load rfl rfl (ld_one (by kernel_rfl) (by rw [Nat.mul_one]; exact f4 w' h))) ?_
    simp only [Act.put, List.setIfInBounds_toArray, List.set_cons_succ, List.set_cons_zero]
    refine wpStill_go (v := .slice (some ⟨b2, off2, none⟩) n capB) rfl rfl (stays_run fun w' h => ex_load rfl rfl (ld_one (by kernel_rfl) (fB w' h))) ?_
    simp only [Act.put, List.setIfInBounds_toArray, List.set_cons_succ, List.set_cons_zero]
    refine wpStill_go (v := .int .i64 x.1.1) rfl rfl (stays_run fun w' h => ex_move rfl rfl) ?_
    simp only [Act.put, List.setIfInBounds_toArray, List.set_cons_succ, List.set_cons_zero]
    refine wpStill_go (v := .pointer (some ⟨b2, off2 + x.1.1 * 1, none⟩)) rfl rfl (stays_run fun w' h => ex_index rfl (by kernel_rfl) (by kernel_rfl) rfl rfl (Nat.lt_trans x1 x2)) ?_
    simp only [Act.put, List.setIfInBounds_toArray, List.set_cons_succ, List.set_cons_zero]
    refine wpStill_go (v := .int .i64 (q.getD x.1.1 0)) rfl rfl (stays_run fun w' h => ex_load rfl rfl (ld_one (by kernel_rfl) (by rw [Nat.mul_one]; exact f3 w' h))) ?_
    simp only [Act.put, List.setIfInBounds_toArray, List.set_cons_succ, List.set_cons_zero]
    refine wpStill_go (v := .int .i64 d) rfl rfl (stays_run fun w' h => by simp [go_sem]; simp only [List.getD_eq_getElem?_getD] at hd hq1 hq2; rw [hd, IntKind.wrap_i64]; omega) ?_
    simp only [Act.put, List.setIfInBounds_toArray, List.set_cons_succ, List.set_cons_zero]
    refine wpStill_go (v := .agg #[.int .i64 (unit d).1, .int .i64 (unit d).2]) rfl rfl (stays_call (f := 51) (args := #[.int .i64 d]) (fun w' h => by simp [go_sem]) (fun w' _ => gaussUnit_any d w')) ?_
    simp only [Act.put, List.setIfInBounds_toArray, List.set_cons_succ, List.set_cons_zero]
    refine wpStill_go (v := .agg #[.int .i64 (turnAt gz d).1, .int .i64 (turnAt gz d).2]) rfl rfl (stays_call (f := 162) (args := #[.agg #[.int .i64 gz.1, .int .i64 gz.2], .agg #[.int .i64 (unit d).1, .int .i64 (unit d).2]]) (fun w' h => by simp [go_sem]) (fun w' _ => gTimes_any _ _ _ _ w' hgz1 hgz2 (unit_bd d).1 (unit_bd d).2)) ?_
    simp only [Act.put, List.setIfInBounds_toArray, List.set_cons_succ, List.set_cons_zero]
    refine wpStill_skip rfl (wpStill_skip rfl (wpStill_skip rfl (wpStill_nil ?_)))
    repeat (refine wpMark_skip rfl ?_)
    refine wpMark_go rfl (fun w1 h1 K hK => ?_)
    go_wp2_with fail
    have hW1 : ∀ o, Below W.heap.size W (w1.alloc o) := fun o => ((Below.refl _ _).drew.trans h1).alloc h1.size o
    refine hK _ _ (fun _ => hW1 _) ?_
    clear hK
    refine wpMark_go rfl (fun w2 h2w K hK => ?_)
    have hE : Below W.heap.size W w2 := (hW1 _).trans (h2w.mono (hW1 _).size)
    have hn := (Row.new w1 49 [.int .i64 (turnAt gz d).1, .int .i64 (turnAt gz d).2]).kept h2w
    refine wpList_append_own w2 rfl _ _ 38 rfl w.heap.size 49 i0 (.agg #[.int .i64 0, .int .i64 0]) 2 16 (by kernel_rfl) hi hz0 hz1 hz2 rfl (by decide) (.slice Ao pre.length co) pre.length _ rfl (own_ext hrow hE)
      ⟨w1.heap.size, 0, none⟩ 1 1 [.int .i64 (turnAt gz d).1, .int .i64 (turnAt gz d).2] rfl rfl (fun j u hj => by rw [← hj, ← hn.cell j]; exact congrArg _ (addr_add _ _)) (by simp [Value.oneCell']) (by unfold maxLen; omega) (by omega) (Nat.le_trans hbel.size hE.size) ?_
    intro v' w3 hown' hgrow _
    obtain ⟨g', cap', rfl⟩ := ownsRow_succ hown'
    simp only [Act.put, List.setIfInBounds_toArray, List.set_cons_succ, List.set_cons_zero]
    go_wp2_with fail
    refine hK _ _ (fun h => absurd h (by decide)) ?_
    clear hK
    refine wpMark_go rfl (fun w4 h4 K hK => ?_)
    have hm4 := grew_mid hv (by decide) hrow hE hgrow h4
    have hc4 := hm4.cell
    have hf4 := hm4.frozen
    go_wp2_with fail
    refine hK _ _ (fun h => absurd h (by decide)) (wpMark_nil fun w6 h6 => ?_)
    have G := grew_of hv (by decide) hrow hbel.size (by omega) hE hown' hgrow h4 h6
    have kA := G.rest _ hA.lt (by omega) (hA.not_row (by decide) hrow)
    have kB := G.rest _ hB.lt (by omega) (hB.not_row (by decide) hrow)
    have kN := G.rest _ hN.lt (by omega) (hN.not_row (by decide) hrow)
    refine ⟨G.keeps.from _, fun _ => Boxed.cell (kN.trans hN), ⟨_, G.box, ?_⟩, kA.trans hA, kB.trans hB, kN.trans hN, hbel.trans G.below⟩
    rw [List.map_append, List.map_singleton, turnedOf_snoc, List.flatMap_append, List.length_map, List.length_append, List.length_singleton, show gs.getD pre.length (0, 0) = gz from by rw [List.getD_eq_getElem?_getD, hgz]; rfl, hd]
    exact G.own
  case done =>
    rintro D ys W hD rfl ⟨⟨v, hv, hrow⟩, hA, hB, hN, hbel⟩ hK
    have hc := hv.cell
    gi_wp2_with fail
    refine ⟨by simp, .inl ⟨_, _, rfl, run_takeDeferred hK, ?_⟩⟩
    have hbel2 : Below w.heap.size W (W.putObj D (.deferred none)) := belowK_b (w := w) (Nat.le_refl _) W D _ _ (by simp at hD; omega) hK rfl rfl
    refine ⟨_, results_tmp rfl _ _ _, v, rfl, ?_, hbel.trans hbel2⟩
    rw [Hmn.out, show (pairsN n).length = (pairsB n).length from by rw [← pairsB_map, List.length_map], ← pairsB_map]
    exact ownsRow_putObj hrow _ hK rfl
  case stop =>
    rintro D c pre W _ _ h _
    exact h.elim
end Go.Proofs.Ytcllkocmnohnkaa
