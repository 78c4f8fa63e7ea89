/- 'impl.BasePair'. -/
import Derived.Test.YtfandpgjlahnpaaPairI
namespace Go.Proofs.Ytfandpgjlahnpaa
open Go.RowKit Go.Shelf
attribute [local go_sem] Oper.semAt_some

theorem bF_pair : ∀ n, n ≤ 7 → ∀ k, k < (pairsN n).length → bF n (pairAt n k).1 (pairAt n k).2 = k := by decide +kernel

/-- What holds between the rounds: no baseline so far has the number; the boxes. -/
def PjI (n k s : Nat) (w : World) (pre : List (BP n)) (W : World) : Prop :=
  (∀ y ∈ pre, bF n y.1.1 y.1.2 ≠ k) ∧ Boxed W s 3 (.int .i64 n) ∧ Boxed W (s + 1) 3 (.int .i64 k) ∧ Boxed W (s + 2) 3 (.int .i64 0) ∧ Boxed W (s + 3) 3 (.int .i64 0) ∧ Boxed W (s + 4) 4 (.bool false) ∧ Boxed W (s + 5) 3 (.int .i64 n) ∧ Below w.heap.size w W
/-- What holds where the loop is left early. -/
def PjX (n k s : Nat) (w : World) (c : Code) (_ : List (BP n)) (W : World) : Prop :=
  c = .ret ∧ Boxed W (s + 2) 3 (.int .i64 (pairAt n k).1) ∧ Boxed W (s + 3) 3 (.int .i64 (pairAt n k).2) ∧ Boxed W (s + 4) 4 (.bool true) ∧ Below w.heap.size w W
theorem PjI_own (n k s : Nat) (w : World) (N : Nat) (hN : w.heap.size ≤ N) : OwnFrom N (PjI n k s w) := by
  intro p W W' row hs hg hr
  obtain ⟨h0, h1, h2, h3, h4, h5, h6, h7⟩ := hs
  have hr2 := fun r e => (hr r e).2
  exact ⟨h0, Boxed.keptI h1 hg hr2, Boxed.keptI h2 hg hr2, Boxed.keptI h3 hg hr2, Boxed.keptI h4 hg hr2, Boxed.keptI h5 hg hr2, Boxed.keptI h6 hg hr2, ownFrom_below (β := Unit) (Nat.le_refl _) hN () W W' row h7 hg hr⟩
theorem PjX_own (n k s : Nat) (w : World) (c : Code) (N : Nat) (hN : w.heap.size ≤ N) : OwnFrom N (PjX n k s w c) := by
  intro p W W' row hs hg hr
  obtain ⟨h0, h3, h4, h5, h7⟩ := hs
  have hr2 := fun r e => (hr r e).2
  exact ⟨h0, Boxed.keptI h3 hg hr2, Boxed.keptI h4 hg hr2, Boxed.keptI h5 hg hr2, ownFrom_below (β := Unit) (Nat.le_refl _) hN () W W' row h7 hg hr⟩

set_option maxRecDepth 100000 in
set_option maxHeartbeats 1000000 in
theorem basePair_in (n k : Nat) (w : World) (h2 : 2 ≤ n) (h7 : n ≤ 7) (hk : k < (pairsN n).length) :
    CallsIn Fence.wide 9 Try.prog 51 #[.int .i64 n, .int .i64 k] w fun e w' => e = .returned (.tuple #[.int .i64 (pairAt n k).1, .int .i64 (pairAt n k).2, .bool true]) ∧ Below w.heap.size w w' := by
  refine callsIn_of_wp_marks Try.func51 rfl trivial ?_ rfl
  simp only [Try.ntmps51, List.size_toArray, List.length_cons, List.length_nil, Nat.reduceAdd, Nat.reduceSub, Array.replicate_succ, Array.replicate_zero, List.push_toArray, List.append_toArray, List.nil_append, List.cons_append]
  gi_wp2_with fail
  refine ⟨trivial, (callsIn_wide.2 (bases_any _ _)).mono ?_⟩
  rintro e w' ⟨rfl, rfl⟩
  gi_wp2_with fail
  obtain ⟨s, hs⟩ : ∃ s, w.heap.size = s := ⟨_, rfl⟩
  obtain ⟨W0, hW0⟩ : ∃ W0, ((((((w.alloc (.cells #[.int .i64 n] 3)).alloc (.cells #[.int .i64 k] 3)).alloc (.cells #[.int .i64 0] 3)).alloc (.cells #[.int .i64 0] 3)).alloc (.cells #[.bool false] 4)).alloc (.cells #[.int .i64 n] 3)) = W0 := ⟨_, rfl⟩
  have hb : PjI n k s w [] W0 := by
    have e1 := Boxed.new w 3 (.int .i64 n)
    have e2 := Boxed.new (w.alloc (.cells #[.int .i64 n] 3)) 3 (.int .i64 k)
    have e3 := Boxed.new ((w.alloc (.cells #[.int .i64 n] 3)).alloc (.cells #[.int .i64 k] 3)) 3 (.int .i64 0)
    have e4 := Boxed.new (((w.alloc (.cells #[.int .i64 n] 3)).alloc (.cells #[.int .i64 k] 3)).alloc (.cells #[.int .i64 0] 3)) 3 (.int .i64 0)
    have e5 := Boxed.new ((((w.alloc (.cells #[.int .i64 n] 3)).alloc (.cells #[.int .i64 k] 3)).alloc (.cells #[.int .i64 0] 3)).alloc (.cells #[.int .i64 0] 3)) 4 (.bool false)
    have e6 := Boxed.new (((((w.alloc (.cells #[.int .i64 n] 3)).alloc (.cells #[.int .i64 k] 3)).alloc (.cells #[.int .i64 0] 3)).alloc (.cells #[.int .i64 0] 3)).alloc (.cells #[.bool false] 4)) 3 (.int .i64 n)
    have hbl : Below w.heap.size w W0 := by rw [← hW0]; exact (((bA3.alloc (by simp; omega) _).alloc (by simp; omega) _).alloc (by simp; omega) _)
    simp only [World.size_alloc, hs] at e1 e2 e3 e4 e5 e6
    rw [← hW0] at hbl ⊢
    exact ⟨by simp, ((((e1.alloc _).alloc _).alloc _).alloc _).alloc _, (((e2.alloc _).alloc _).alloc _).alloc _, ((e3.alloc _).alloc _).alloc _, (e4.alloc _).alloc _, e5.alloc _, e6, hbl⟩
  have hsz : s + 6 = W0.heap.size := by rw [← hW0]; simp [hs]
  rw [hs, hW0]
  have Hb := Lib.hid hb
  refine wpIn_rangeFunc_ownG rfl (by omega) (gf := 122) (lb := #[.pointer (some ⟨s + 5, 0, none⟩)]) rfl trivial (enters_of Try.func122 (by kernel_rfl) rfl)
    (bases_stops 8 n h2 h7 (s + 5) _ Hb.out.2.2.2.2.2.2.1.cell (by omega)) KC_t (fun W l o o' _ h1 h2 _ => KC_b W l o o' h1 h2) (Below.refl _ _) (fun _ => rfl)
    (PjI n k s w)
    (PjX n k s w)
    (PjI_own n k s w _ (by omega))
    (fun c => PjX_own n k s w c _ (by omega))
    Hb.out
    (fun x => { tmps := #[.int .i64 n, .int .i64 k, .pointer (some ⟨s, 0, none⟩), .pointer (some ⟨s + 1, 0, none⟩), .pointer (some ⟨s + 1 + 1, 0, none⟩), .pointer (some ⟨s + 1 + 1 + 1, 0, none⟩), .pointer (some ⟨s + 1 + 1 + 1 + 1, 0, none⟩), .int .i64 (x.1.1 : Nat), .int .i64 (x.1.2 : Nat), .int .i64 n,
      .func (.func 122) #[] #[.pointer (some ⟨s + 1 + 1 + 1 + 1 + 1, 0, none⟩)], .int .i64 (x.1.1 : Nat), .int .i64 (x.1.2 : Nat), undef, undef, undef, undef, undef, undef, undef, undef], defers := [] }) ?assign ?body ?done ?stop
  case assign =>
    intro l x W K hK
    gi_wp2
    exact hK
  case body =>
    rintro l pre x W ⟨h0, b0, b1, b2, b3, b4, b5, hbel⟩ hlt
    obtain ⟨x1, x2⟩ : x.1.1 < x.1.2 ∧ x.1.2 < n := x.2
    refine wpIn_block ?_
    have f0 : ∀ w', Below W.heap.size W w' → w'.cell? ⟨s, 0, none⟩ = some (.int .i64 n) := fun w' h => (bcl h b0.lt 0).trans b0.cell
    have f1 : ∀ w', Below W.heap.size W w' → w'.cell? ⟨s + 1, 0, none⟩ = some (.int .i64 k) := fun w' h => (bcl h b1.lt 0).trans b1.cell
    have hbi := baseIndex_lt n x.1.1 x.1.2
    obtain ⟨i, hi⟩ : ∃ i, x.1.1 = i := ⟨_, rfl⟩
    obtain ⟨j, hj⟩ : ∃ j, x.1.2 = j := ⟨_, rfl⟩
    rw [hi, hj] at hbi ⊢
    rw [hi, hj] at x1
    rw [hj] at x2
    obtain ⟨f, hf⟩ : ∃ f, bF n i j = f := ⟨_, rfl⟩
    obtain ⟨m, hm⟩ : ∃ m, (f == (k : Int)) = m := ⟨_, rfl⟩
    have Hm := Lib.hid hm
    have Hf := Lib.hid hf
    have Hi := Lib.hid hi
    have Hj := Lib.hid hj
    clear hm hf hi hj
    gi_wp2_with fail
    refine wpIn_region_N [] [] (by kernel_rfl) (by kernel_rfl) (by kernel_rfl) ?_
    refine wpStill_go (v := .int .i64 n) rfl rfl (stays_run fun w' h => ex_load rfl rfl (ld_one (by kernel_rfl) (f0 w' h))) ?_
    simp only [Act.put, List.setIfInBounds_toArray, List.set_cons_succ, List.set_cons_zero, Nat.reduceAdd]
    refine wpStill_go (v := .int .i64 i) rfl rfl (stays_run fun w' h => ex_move rfl rfl) ?_
    simp only [Act.put, List.setIfInBounds_toArray, List.set_cons_succ, List.set_cons_zero, Nat.reduceAdd]
    refine wpStill_go (v := .int .i64 j) rfl rfl (stays_run fun w' h => ex_move rfl rfl) ?_
    simp only [Act.put, List.setIfInBounds_toArray, List.set_cons_succ, List.set_cons_zero, Nat.reduceAdd]
    refine wpStill_go (v := .int .i64 f) rfl rfl (stays_call (f := 112) (args := #[.int .i64 n, .int .i64 i, .int .i64 j]) (fun w' h => by simp [go_sem]) (fun w' _ => by rw [← Hf.out]; exact (hbi w' (by omega) (by omega) (by omega)).mono fun e w'' ⟨h, h2⟩ => ⟨h, h2 ▸ Below.refl _ _⟩)) ?_
    simp only [Act.put, List.setIfInBounds_toArray, List.set_cons_succ, List.set_cons_zero, Nat.reduceAdd]
    refine wpStill_go (v := .int .i64 k) rfl rfl (stays_run fun w' h => ex_load rfl rfl (ld_one (by kernel_rfl) (f1 w' h))) ?_
    simp only [Act.put, List.setIfInBounds_toArray, List.set_cons_succ, List.set_cons_zero, Nat.reduceAdd]
    refine wpStill_go (v := .bool m) rfl rfl (stays_run fun w' h => by simp [go_sem]; exact Hm.out) ?_
    simp only [Act.put, List.setIfInBounds_toArray, List.set_cons_succ, List.set_cons_zero, Nat.reduceAdd]
    refine wpStill_nil ?_
    repeat (refine wpMark_skip rfl ?_)
    refine wpMark_nil fun w6 h6 => ?_
    simp only [onlyN, Exit.then]
    have E6 : Below W.heap.size W w6 := (Below.refl _ _).drew.trans h6
    have k6 := keeps_ext E6
    have b0 := boxed_ext b0 E6
    have b1 := boxed_ext b1 E6
    have b2 := boxed_ext b2 E6
    have b3 := boxed_ext b3 E6
    have b4 := boxed_ext b4 E6
    have b5 := boxed_ext b5 E6
    have hbel := hbel.trans (E6.mono hbel.size)
    cases m
    · have Hbi := Lib.hid hbi; clear hbi
      clear f0 f1
      gi_wp2_with fail
      refine ⟨k6.from _, fun _ => b5.cell, ⟨fun y hy => ?_, b0, b1, b2, b3, b4, b5, hbel⟩⟩
      rcases List.mem_append.1 hy with h | h
      · exact h0 y h
      · rw [List.mem_singleton] at h
        rw [h, Hi.out, Hj.out, Hf.out]
        intro e
        have := Hm.out
        rw [e] at this
        simp at this
    · have he : f = k := by simpa using Hm.out
      have hpa := pairAt_of n i j h7 x1 x2 k (Hf.out.trans he)
      have c2 := b2.cell
      have c3 := b3.cell
      have c4 := b4.cell
      have d2 := b2.frozen
      have d3 := b3.frozen
      have d4 := b4.frozen
      have Hbi := Lib.hid hbi; clear hbi
      have Hpa := Lib.hid hpa; clear hpa
      have He := Lib.hid he; clear he
      clear f0 f1
      gi_wp2_with fail
      have kk := ((k6.trans (KeepsOthers.setCell w6 ⟨s + 1 + 1, 0, none⟩ (.int .i64 i))).trans (KeepsOthers.setCell _ ⟨s + 1 + 1 + 1, 0, none⟩ (.int .i64 j))).trans (KeepsOthers.setCell _ ⟨s + 1 + 1 + 1 + 1, 0, none⟩ (.bool true))
      have x2 := ((b2.set (.int .i64 i)).kept (grownBy_setCell' _ (s + 1 + 1 + 1) (.int .i64 j)) (by simp)).kept (grownBy_setCell' _ (s + 1 + 1 + 1 + 1) (.bool true)) (by simp)
      have x3 := ((b3.kept (grownBy_setCell' _ (s + 1 + 1) (.int .i64 i)) (by simp)).set (.int .i64 j)).kept (grownBy_setCell' _ (s + 1 + 1 + 1 + 1) (.bool true)) (by simp)
      have x4 := ((b4.kept (grownBy_setCell' _ (s + 1 + 1) (.int .i64 i)) (by simp)).kept (grownBy_setCell' _ (s + 1 + 1 + 1) (.int .i64 j)) (by simp)).set (.bool true)
      have xb := ((hbel.setCell (p := ⟨s + 1 + 1, 0, none⟩) (by show w.heap.size ≤ s + 1 + 1; omega) (.int .i64 i)).setCell (p := ⟨s + 1 + 1 + 1, 0, none⟩) (by show w.heap.size ≤ s + 1 + 1 + 1; omega) (.int .i64 j)).setCell (p := ⟨s + 1 + 1 + 1 + 1, 0, none⟩) (by show w.heap.size ≤ s + 1 + 1 + 1 + 1; omega) (.bool true)
      refine ⟨kk.from _, rfl, ?_, ?_, x4, xb⟩
      · rw [Hpa.out]; exact x2
      · rw [Hpa.out]; exact x3
  case done =>
    rintro D ys W hD rfl ⟨h0, b0, b1, b2, b3, b4, b5, hbel⟩ hK
    exfalso
    have hp := pairAt_lt hk
    have hb := bF_pair n h7 k hk
    have hm : pairAt n k ∈ pairsN n := getD_mem hk
    rw [← pairsB_map] at hm
    obtain ⟨y, hy, hye⟩ := List.mem_map.1 hm
    have := h0 y hy
    rw [hye] at this
    exact this hb
  case stop =>
    rintro D c pre W hD hS ⟨rfl, b2, b3, b4, hbel⟩ hK
    have c2 := b2.cell
    have c3 := b3.cell
    have c4 := b4.cell
    gi_wp2_with fail
    have hbel2 : Below w.heap.size W (W.putObj D (.deferred none)) := belowK_b (w := w) (Nat.le_refl _) W D _ _ (by omega) hK rfl rfl
    have hp : ∀ {b : Nat} {t : TypeId} {v : Value}, Boxed W b t v → (W.putObj D (.deferred none)).cell? ⟨b, 0, none⟩ = some v := fun h => (Boxed.keptI h (grownBy_putObj' W D (.deferred none)) (fun r e => by cases e; exact ⟨_, hK, rfl⟩)).cell
    have p2 := hp b2
    have p3 := hp b3
    have p4 := hp b4
    refine ⟨by simp, .inl ⟨_, _, rfl, run_takeDeferred hK, ?_⟩⟩
    refine ⟨_, (by simp [results, Try.results51, go_sem, p2, p3, p4]), rfl, hbel.trans hbel2⟩

theorem basePair_any (n k : Nat) (w : World) (h2 : 2 ≤ n) (h7 : n ≤ 7) (hk : k < (pairsN n).length) :
    Calls Try.prog 51 #[.int .i64 n, .int .i64 k] w fun e w' => e = .returned (.tuple #[.int .i64 (pairAt n k).1, .int .i64 (pairAt n k).2, .bool true]) ∧ Below w.heap.size w w' :=
  callsIn_wide.1 (basePair_in n k w h2 h7 hk)
end Go.Proofs.Ytfandpgjlahnpaa
