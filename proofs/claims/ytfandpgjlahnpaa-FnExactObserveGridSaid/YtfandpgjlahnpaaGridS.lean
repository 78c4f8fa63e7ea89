/- 'spec.l43Put' and 'spec.ObserveGrid'. -/
import Derived.Test.YtfandpgjlahnpaaArrS
import Derived.Test.YtfandpgjlahnpaaMix
namespace Go.Proofs.Ytfandpgjlahnpaa
open Go.RowKit

/-- All blocks but two are as they were. -/
structure Kept2 (a b : Nat) (w w' : World) : Prop where
  os : w'.os = w.os
  tape : w'.tape = w.tape
  output : w'.output = w.output
  size : w.heap.size ≤ w'.heap.size
  block : ∀ j, j < w.heap.size → j ≠ a → j ≠ b → w'.heap[j]? = w.heap[j]?
section
variable {a b : Nat} {w w' w'' : World}
theorem Kept2.refl (a b : Nat) (w : World) : Kept2 a b w w := ⟨rfl, rfl, rfl, Nat.le_refl _, fun _ _ _ _ => rfl⟩
theorem Kept2.trans (h : Kept2 a b w w') (k : Kept2 a b w' w'') : Kept2 a b w w'' :=
  ⟨k.os.trans h.os, k.tape.trans h.tape, k.output.trans h.output, Nat.le_trans h.size k.size, fun j hj ha hb => (k.block j (Nat.lt_of_lt_of_le hj h.size) ha hb).trans (h.block j hj ha hb)⟩
theorem Kept2.of_below (h : Below w.heap.size w w') : Kept2 a b w w' := ⟨h.os, h.tape, h.output, h.size, fun j hj _ _ => h.block j hj⟩
theorem Kept2.set_a (i : Nat) (v : Value) : Kept2 a b w (w.setCell ⟨a, i, none⟩ v) :=
  have g := grown_set w a i v
  ⟨g.os, g.tape, g.output, g.size, fun j hj ha _ => g.block j hj (fun e => ha (by injection e))⟩
theorem Kept2.set_b (i : Nat) (v : Value) : Kept2 a b w (w.setCell ⟨b, i, none⟩ v) :=
  have g := grown_set w b i v
  ⟨g.os, g.tape, g.output, g.size, fun j hj _ hb => g.block j hj (fun e => hb (by injection e))⟩
theorem Kept2.row {g : Nat} {T : TypeId} {xs : List Value} (h : Kept2 a b w w') (hr : Row w g T xs) (ha : g ≠ a) (hb : g ≠ b) : Row w' g T xs := (h.block g hr.lt ha hb).trans hr
theorem Kept2.below {B : Nat} {w0 : World} (h : Kept2 a b w w') (hb : Below B w0 w) (ha : B ≤ a) (hb' : B ≤ b) (hB : B ≤ w.heap.size) : Below B w0 w' :=
  ⟨h.os.trans hb.os, h.tape.trans hb.tape, h.output.trans hb.output, Nat.le_trans hb.size h.size, fun j hj => (h.block j (by omega) (by omega) (by omega)).trans (hb.block j hj)⟩
end

theorem gput_no {g : List (Int × Int)} {kn : List Bool} {i : Nat} {x : Int × Int} (h1 : kn.getD i false = true) (h2 : g.getD i (0, 0) ≠ x) : gput (g, kn) i x = none := by unfold gput; rw [if_pos ⟨h1, h2⟩]
theorem gput_yes {g : List (Int × Int)} {kn : List Bool} {i : Nat} {x : Int × Int} (h : kn.getD i false = false ∨ g.getD i (0, 0) = x) : gput (g, kn) i x = some (g.set i x, kn.set i true) := by
  unfold gput
  rw [if_neg]
  rintro ⟨h1, h2⟩
  rcases h with h | h
  · dsimp only at h1; rw [h] at h1; cases h1
  · exact h2 h

set_option maxRecDepth 100000 in
set_option maxHeartbeats 1000000 in
theorem l43Put_any (G K : Nat) (g : List (Int × Int)) (kn : List Bool) (i : Nat) (x : Int × Int) (w : World) (hg : g.length = 16) (hk : kn.length = 16) (hi : i < 16) (hne : G ≠ K)
    (rG : Row w G 31 (g.flatMap pairCells)) (rK : Row w K 4 (kn.map Value.bool)) :
    Calls Try.prog 97 #[.slice (some ⟨G, 0, none⟩) 16 16, .slice (some ⟨K, 0, none⟩) 16 16, .int .i64 i, .agg #[.int .i64 x.1, .int .i64 x.2]] w fun e w' =>
      e = .returned (.bool (gput (g, kn) i x).isSome) ∧ Row w' G 31 (((gput (g, kn) i x).getD (g, kn)).1.flatMap pairCells) ∧ Row w' K 4 (((gput (g, kn) i x).getD (g, kn)).2.map Value.bool) ∧ Kept2 G K w w' := by
  have hiI : (i : Int) < 16 := by omega
  have rx := Row.new w 31 [.int .i64 x.1, .int .i64 x.2]
  have rG1 := rG.alloc (.cells #[.int .i64 x.1, .int .i64 x.2] 31)
  have rK1 := rK.alloc (.cells #[.int .i64 x.1, .int .i64 x.2] 31)
  have k1 : Kept2 G K w (w.alloc (.cells #[.int .i64 x.1, .int .i64 x.2] 31)) := .of_below bA1
  have hxG : w.heap.size ≠ G := by have := rG.lt; omega
  have hxK : w.heap.size ≠ K := by have := rK.lt; omega
  have hi? := getD_of (gs := g) (k := i) (by rw [hg]; exact hi)
  obtain ⟨y, hy⟩ : ∃ y, g.getD i (0, 0) = y := ⟨_, rfl⟩
  rw [hy] at hi?
  obtain ⟨p0, p1⟩ := pairCells_get g i y hi?
  obtain ⟨m, hm⟩ : ∃ m, kn.getD i false = m := ⟨_, rfl⟩
  have cK := rK1.cell i
  rw [bools_get (by rw [hk]; exact hi), hm] at cK
  have cG0 := rG1.cell (i * 2)
  have cG1 := rG1.cell (i * 2 + 1)
  rw [p0] at cG0
  rw [p1] at cG1
  obtain ⟨cx0, cx1, _, _⟩ := rx.two
  have fK := rK1.frozen i
  have fG0 := rG1.frozen (i * 2)
  have fG1 := rG1.frozen (i * 2 + 1)
  have hps := pairs_set g i x (by rw [hg]; exact hi)
  have Hno := Lib.hid (fun h1 h2 => gput_no (g := g) (kn := kn) (i := i) (x := x) h1 h2)
  have Hyes := Lib.hid (fun h => gput_yes (g := g) (kn := kn) (i := i) (x := x) h)
  have Hg := Lib.hid hg; clear hg
  have Hk := Lib.hid hk; clear hk
  have Hi? := Lib.hid hi?; clear hi?
  have Hy := Lib.hid hy; clear hy
  have Hm := Lib.hid hm; clear hm
  have Hps := Lib.hid hps; clear hps
  clear rG rK p0 p1
  go_enter Try.func97, Try.ntmps97
  go_wp2_with fail
  obtain ⟨W, hW⟩ : ∃ W, w.alloc (.cells #[.int .i64 x.1, .int .i64 x.2] 31) = W := ⟨_, rfl⟩
  obtain ⟨X, hX⟩ : ∃ X, w.heap.size = X := ⟨_, rfl⟩
  simp only [hW, hX] at rx rG1 rK1 k1 hxG hxK cK cG0 cG1 cx0 cx1 fK fG0 fG1 ⊢
  have hGX : G < W.heap.size := rG1.lt
  have Lx : ∀ w', Below W.heap.size W w' → (Instr.loadAt 31 (.pointer (some ⟨X, 0, none⟩))).run Try.prog w' = .ok (.agg #[.int .i64 x.1, .int .i64 x.2]) w' := fun w' h => ld_two (by kernel_rfl) (by kernel_rfl) ((rx.kept h).cell 0) ((rx.kept h).cell 1)
  have LG : ∀ w', Below W.heap.size W w' → (Instr.loadAt 31 (.pointer (some ⟨G, 0 + i * 2, none⟩))).run Try.prog w' = .ok (.agg #[.int .i64 y.1, .int .i64 y.2]) w' := fun w' h => by
    rw [Nat.zero_add]; exact ld_two (by kernel_rfl) (by kernel_rfl) ((bcl h rG1.lt _).trans cG0) ((bcl h rG1.lt _).trans cG1)
  have LK : ∀ w', Below W.heap.size W w' → w'.cell? ⟨K, 0 + i * 1, none⟩ = some (.bool m) := fun w' h => by rw [Nat.zero_add, Nat.mul_one]; exact (bcl h rK1.lt _).trans cK
  have fin : ∀ V : World, Below W.heap.size W V → (m = false ∨ y = x) → Row (((V.setCell ⟨K, i, none⟩ (.bool true)).setCell ⟨G, i * 2, none⟩ (.int .i64 x.1)).setCell ⟨G, i * 2 + 1, none⟩ (.int .i64 x.2)) G 31 (((gput (g, kn) i x).getD (g, kn)).1.flatMap pairCells) ∧ Row (((V.setCell ⟨K, i, none⟩ (.bool true)).setCell ⟨G, i * 2, none⟩ (.int .i64 x.1)).setCell ⟨G, i * 2 + 1, none⟩ (.int .i64 x.2)) K 4 (((gput (g, kn) i x).getD (g, kn)).2.map Value.bool) ∧ Kept2 G K w (((V.setCell ⟨K, i, none⟩ (.bool true)).setCell ⟨G, i * 2, none⟩ (.int .i64 x.1)).setCell ⟨G, i * 2 + 1, none⟩ (.int .i64 x.2)) ∧ (gput (g, kn) i x).isSome = true := fun V hV h => by
    have hgp := Hyes.out (by rw [Hm.out, Hy.out]; exact h)
    rw [hgp]
    simp only [Option.getD_some]
    refine ⟨?_, ?_, ((k1.trans (.of_below hV)).trans (Kept2.set_b i _)).trans ((Kept2.set_a (i * 2) _).trans (Kept2.set_a (i * 2 + 1) _)), rfl⟩
    · rw [← Hps.out]
      exact (((rG1.kept hV).far (p := ⟨K, i, none⟩) hne _).set_ _ _).set_ _ _
    · rw [List.map_set]
      exact ((((rK1.kept hV).set_ i _).far (p := ⟨G, i * 2, none⟩) (Ne.symm hne) _).far (p := ⟨G, i * 2 + 1, none⟩) (Ne.symm hne) _)
  have Fin := Lib.hid fin
  have CK := Lib.hid cK; have CG0 := Lib.hid cG0; have CG1 := Lib.hid cG1; have CX0 := Lib.hid cx0; have CX1 := Lib.hid cx1
  have hKX : K < W.heap.size := rK1.lt
  have hXX : X < W.heap.size := rx.lt
  have hneK : K ≠ G := Ne.symm hne
  clear fin hW hX cK cG0 cG1 cx0 cx1 fK fG0 fG1
  cases m
  · clear LG
    refine wp_region_N [] [] (by kernel_rfl) (by kernel_rfl) ?_
    refine wpStill_go (v := .slice (some ⟨K, 0, none⟩) 16 16) rfl rfl (stays_run fun w' h => ex_move rfl rfl) ?_
    simp only [Act.put, List.setIfInBounds_toArray, List.set_cons_succ, List.set_cons_zero, Nat.reduceAdd]
    refine wpStill_go (v := .int .i64 i) rfl rfl (stays_run fun w' h => ex_move rfl rfl) ?_
    simp only [Act.put, List.setIfInBounds_toArray, List.set_cons_succ, List.set_cons_zero, Nat.reduceAdd]
    refine wpStill_go (v := .pointer (some ⟨K, 0 + i * 1, none⟩)) rfl rfl (stays_run fun w' h => ex_index rfl (by kernel_rfl) (by kernel_rfl) rfl rfl (hi)) ?_
    simp only [Act.put, List.setIfInBounds_toArray, List.set_cons_succ, List.set_cons_zero, Nat.reduceAdd]
    refine wpStill_go (v := .bool false) rfl rfl (stays_run fun w' h => ex_load rfl rfl (ld_one (by kernel_rfl) (LK w' h))) ?_
    simp only [Act.put, List.setIfInBounds_toArray, List.set_cons_succ, List.set_cons_zero, Nat.reduceAdd]
    refine wpStill_go (v := .bool false) rfl rfl (stays_run fun w' h => ex_move rfl rfl) ?_
    simp only [Act.put, List.setIfInBounds_toArray, List.set_cons_succ, List.set_cons_zero, Nat.reduceAdd]
    refine wpStill_off rfl (by kernel_rfl) ?_
    simp only [Act.put, List.setIfInBounds_toArray, List.set_cons_succ, List.set_cons_zero, Nat.reduceAdd]
    refine wpStill_off rfl (by kernel_rfl) ?_
    simp only [Act.put, List.setIfInBounds_toArray, List.set_cons_succ, List.set_cons_zero, Nat.reduceAdd]
    refine wpStill_off rfl (by kernel_rfl) ?_
    simp only [Act.put, List.setIfInBounds_toArray, List.set_cons_succ, List.set_cons_zero, Nat.reduceAdd]
    refine wpStill_off rfl (by kernel_rfl) ?_
    simp only [Act.put, List.setIfInBounds_toArray, List.set_cons_succ, List.set_cons_zero, Nat.reduceAdd]
    refine wpStill_off rfl (by kernel_rfl) ?_
    simp only [Act.put, List.setIfInBounds_toArray, List.set_cons_succ, List.set_cons_zero, Nat.reduceAdd]
    refine wpStill_off rfl (by kernel_rfl) ?_
    simp only [Act.put, List.setIfInBounds_toArray, List.set_cons_succ, List.set_cons_zero, Nat.reduceAdd]
    refine wpStill_go (v := .bool false) rfl rfl (stays_run fun w' h => by simp [go_sem]) ?_
    simp only [Act.put, List.setIfInBounds_toArray, List.set_cons_succ, List.set_cons_zero, Nat.reduceAdd]
    refine wpStill_nil ?_
    repeat (refine wpMark_skip rfl ?_)
    refine wpMark_nil fun V hV => ?_
    have hV := (Below.refl _ W).drew.trans hV
    simp only [onlyN, Exit.then]
    have FF := Fin.out V hV (.inl rfl)
    have fK := (rK1.kept hV).frozen i
    have fG0 := (rG1.kept hV).frozen (i * 2)
    have fG1 := (rG1.kept hV).frozen (i * 2 + 1)
    have cK := (bcl hV hKX _).trans CK.out
    have cG0 := (bcl hV hGX _).trans CG0.out
    have cG1 := (bcl hV hGX _).trans CG1.out
    have cx0 := (bcl hV hXX _).trans CX0.out
    have cx1 := (bcl hV hXX _).trans CX1.out
    have FF' := Lib.hid FF
    clear FF
    have HV := Lib.hid hV
    clear hV
    have hGK := Ne.symm hneK
    have hKX' := Ne.symm hxK
    have hGX' := Ne.symm hxG
    go_wp2_with fail
    go_ret
    obtain ⟨f1, f2, f3, f4⟩ := FF'.out
    exact ⟨ret_bool f4.symm, f1, f2, f3⟩
  · by_cases hyx : y = x
    · have Hyx := Lib.hid hyx
      refine wp_region_N [] [] (by kernel_rfl) (by kernel_rfl) ?_
      refine wpStill_go (v := .slice (some ⟨K, 0, none⟩) 16 16) rfl rfl (stays_run fun w' h => ex_move rfl rfl) ?_
      simp only [Act.put, List.setIfInBounds_toArray, List.set_cons_succ, List.set_cons_zero, Nat.reduceAdd]
      refine wpStill_go (v := .int .i64 i) rfl rfl (stays_run fun w' h => ex_move rfl rfl) ?_
      simp only [Act.put, List.setIfInBounds_toArray, List.set_cons_succ, List.set_cons_zero, Nat.reduceAdd]
      refine wpStill_go (v := .pointer (some ⟨K, 0 + i * 1, none⟩)) rfl rfl (stays_run fun w' h => ex_index rfl (by kernel_rfl) (by kernel_rfl) rfl rfl (hi)) ?_
      simp only [Act.put, List.setIfInBounds_toArray, List.set_cons_succ, List.set_cons_zero, Nat.reduceAdd]
      refine wpStill_go (v := .bool true) rfl rfl (stays_run fun w' h => ex_load rfl rfl (ld_one (by kernel_rfl) (LK w' h))) ?_
      simp only [Act.put, List.setIfInBounds_toArray, List.set_cons_succ, List.set_cons_zero, Nat.reduceAdd]
      refine wpStill_go (v := .bool true) rfl rfl (stays_run fun w' h => ex_move rfl rfl) ?_
      simp only [Act.put, List.setIfInBounds_toArray, List.set_cons_succ, List.set_cons_zero, Nat.reduceAdd]
      refine wpStill_go (v := .slice (some ⟨G, 0, none⟩) 16 16) rfl rfl (stays_run fun w' h => ex_move rfl rfl) ?_
      simp only [Act.put, List.setIfInBounds_toArray, List.set_cons_succ, List.set_cons_zero, Nat.reduceAdd]
      refine wpStill_go (v := .int .i64 i) rfl rfl (stays_run fun w' h => ex_move rfl rfl) ?_
      simp only [Act.put, List.setIfInBounds_toArray, List.set_cons_succ, List.set_cons_zero, Nat.reduceAdd]
      refine wpStill_go (v := .pointer (some ⟨G, 0 + i * 2, none⟩)) rfl rfl (stays_run fun w' h => ex_index rfl (by kernel_rfl) (by kernel_rfl) rfl rfl (hi)) ?_
      simp only [Act.put, List.setIfInBounds_toArray, List.set_cons_succ, List.set_cons_zero, Nat.reduceAdd]
      refine wpStill_go (v := .agg #[.int .i64 y.1, .int .i64 y.2]) rfl rfl (stays_run fun w' h => ex_load rfl rfl (LG w' h)) ?_
      simp only [Act.put, List.setIfInBounds_toArray, List.set_cons_succ, List.set_cons_zero, Nat.reduceAdd]
      refine wpStill_go (v := .agg #[.int .i64 x.1, .int .i64 x.2]) rfl rfl (stays_run fun w' h => ex_load rfl rfl (Lx w' h)) ?_
      simp only [Act.put, List.setIfInBounds_toArray, List.set_cons_succ, List.set_cons_zero, Nat.reduceAdd]
      refine wpStill_go (v := .bool false) rfl rfl (stays_run fun w' h => by simp [go_sem, Hyx.out]) ?_
      simp only [Act.put, List.setIfInBounds_toArray, List.set_cons_succ, List.set_cons_zero, Nat.reduceAdd]
      refine wpStill_go (v := .bool false) rfl rfl (stays_run fun w' h => by simp [go_sem]) ?_
      simp only [Act.put, List.setIfInBounds_toArray, List.set_cons_succ, List.set_cons_zero, Nat.reduceAdd]
      refine wpStill_nil ?_
      repeat (refine wpMark_skip rfl ?_)
      refine wpMark_nil fun V hV => ?_
      have hV := (Below.refl _ W).drew.trans hV
      simp only [onlyN, Exit.then]
      have FF := Fin.out V hV (.inr Hyx.out)
      have fK := (rK1.kept hV).frozen i
      have fG0 := (rG1.kept hV).frozen (i * 2)
      have fG1 := (rG1.kept hV).frozen (i * 2 + 1)
      have cK := (bcl hV hKX _).trans CK.out
      have cG0 := (bcl hV hGX _).trans CG0.out
      have cG1 := (bcl hV hGX _).trans CG1.out
      have cx0 := (bcl hV hXX _).trans CX0.out
      have cx1 := (bcl hV hXX _).trans CX1.out
      have FF' := Lib.hid FF
      clear FF
      have HV := Lib.hid hV
      clear hV
      have hGK := Ne.symm hneK
      have hKX' := Ne.symm hxK
      have hGX' := Ne.symm hxG
      go_wp2_with fail
      go_ret
      obtain ⟨f1, f2, f3, f4⟩ := FF'.out
      exact ⟨ret_bool f4.symm, f1, f2, f3⟩
    · have Hyx := Lib.hid hyx
      refine wp_region_N [] [] (by kernel_rfl) (by kernel_rfl) ?_
      refine wpStill_go (v := .slice (some ⟨K, 0, none⟩) 16 16) rfl rfl (stays_run fun w' h => ex_move rfl rfl) ?_
      simp only [Act.put, List.setIfInBounds_toArray, List.set_cons_succ, List.set_cons_zero, Nat.reduceAdd]
      refine wpStill_go (v := .int .i64 i) rfl rfl (stays_run fun w' h => ex_move rfl rfl) ?_
      simp only [Act.put, List.setIfInBounds_toArray, List.set_cons_succ, List.set_cons_zero, Nat.reduceAdd]
      refine wpStill_go (v := .pointer (some ⟨K, 0 + i * 1, none⟩)) rfl rfl (stays_run fun w' h => ex_index rfl (by kernel_rfl) (by kernel_rfl) rfl rfl (hi)) ?_
      simp only [Act.put, List.setIfInBounds_toArray, List.set_cons_succ, List.set_cons_zero, Nat.reduceAdd]
      refine wpStill_go (v := .bool true) rfl rfl (stays_run fun w' h => ex_load rfl rfl (ld_one (by kernel_rfl) (LK w' h))) ?_
      simp only [Act.put, List.setIfInBounds_toArray, List.set_cons_succ, List.set_cons_zero, Nat.reduceAdd]
      refine wpStill_go (v := .bool true) rfl rfl (stays_run fun w' h => ex_move rfl rfl) ?_
      simp only [Act.put, List.setIfInBounds_toArray, List.set_cons_succ, List.set_cons_zero, Nat.reduceAdd]
      refine wpStill_go (v := .slice (some ⟨G, 0, none⟩) 16 16) rfl rfl (stays_run fun w' h => ex_move rfl rfl) ?_
      simp only [Act.put, List.setIfInBounds_toArray, List.set_cons_succ, List.set_cons_zero, Nat.reduceAdd]
      refine wpStill_go (v := .int .i64 i) rfl rfl (stays_run fun w' h => ex_move rfl rfl) ?_
      simp only [Act.put, List.setIfInBounds_toArray, List.set_cons_succ, List.set_cons_zero, Nat.reduceAdd]
      refine wpStill_go (v := .pointer (some ⟨G, 0 + i * 2, none⟩)) rfl rfl (stays_run fun w' h => ex_index rfl (by kernel_rfl) (by kernel_rfl) rfl rfl (hi)) ?_
      simp only [Act.put, List.setIfInBounds_toArray, List.set_cons_succ, List.set_cons_zero, Nat.reduceAdd]
      refine wpStill_go (v := .agg #[.int .i64 y.1, .int .i64 y.2]) rfl rfl (stays_run fun w' h => ex_load rfl rfl (LG w' h)) ?_
      simp only [Act.put, List.setIfInBounds_toArray, List.set_cons_succ, List.set_cons_zero, Nat.reduceAdd]
      refine wpStill_go (v := .agg #[.int .i64 x.1, .int .i64 x.2]) rfl rfl (stays_run fun w' h => ex_load rfl rfl (Lx w' h)) ?_
      simp only [Act.put, List.setIfInBounds_toArray, List.set_cons_succ, List.set_cons_zero, Nat.reduceAdd]
      refine wpStill_go (v := .bool true) rfl rfl (stays_run fun w' h => by rcases pair_bne Hyx.out with h1 | ⟨h1, h2⟩ <;> simp [go_sem, *]) ?_
      simp only [Act.put, List.setIfInBounds_toArray, List.set_cons_succ, List.set_cons_zero, Nat.reduceAdd]
      refine wpStill_go (v := .bool true) rfl rfl (stays_run fun w' h => by simp [go_sem]) ?_
      simp only [Act.put, List.setIfInBounds_toArray, List.set_cons_succ, List.set_cons_zero, Nat.reduceAdd]
      refine wpStill_nil ?_
      repeat (refine wpMark_skip rfl ?_)
      refine wpMark_nil fun V hV => ?_
      have hV := (Below.refl _ W).drew.trans hV
      simp only [onlyN, Exit.then]
      have HV := Lib.hid hV; clear hV
      go_wp2_with fail
      go_ret
      have hno := Hno.out Hm.out (by rw [Hy.out]; exact Hyx.out)
      rw [hno]
      exact ⟨ret_bool rfl, rG1.kept HV.out, rK1.kept HV.out, k1.trans (.of_below HV.out)⟩
end Go.Proofs.Ytfandpgjlahnpaa
