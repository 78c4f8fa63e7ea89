/- 'spec.ObserveGrid'. -/
import Derived.Test.YtfandpgjlahnpaaGridS
import Derived.Test.YtfandpgjlahnpaaTurnI
namespace Go.Proofs.Ytfandpgjlahnpaa
open Go.RowKit

theorem gput_len {g g1 : List (Int × Int)} {kn kn1 : List Bool} {i : Nat} {x : Int × Int} (hl : g.length = 16 ∧ kn.length = 16) (h : gput (g, kn) i x = some (g1, kn1)) : g1.length = 16 ∧ kn1.length = 16 := by
  unfold gput at h
  split at h
  · cases h
  · cases h
    exact ⟨by rw [List.length_set]; exact hl.1, by rw [List.length_set]; exact hl.2⟩
theorem gridE_le (ants seen : List (Int × Int)) {k M : Nat} (h : k ≤ M) : ∃ fs, gridE ants seen M = gridE ants seen k ++ fs := by
  obtain ⟨d, rfl⟩ : ∃ d, M = k + d := ⟨M - k, by omega⟩
  unfold gridE
  rw [List.range_add, List.flatMap_append]
  exact ⟨_, rfl⟩
theorem gridO_no {ants seen : List (Int × Int)} {k : Nat} (hk : k < (pairsN ants.length).length) (h : gridRun (gridE ants seen (k + 1)) = none) : gridO ants seen = none := by
  obtain ⟨fs, e⟩ := gridE_le ants seen (show k + 1 ≤ _ from hk)
  unfold gridO
  rw [e, gridRun_none h]
  rfl

set_option maxRecDepth 100000 in
set_option maxHeartbeats 1000000 in
theorem sObserveGrid_any (A B : Option Addr) (n ca m cb : Nat) (ants seen : List (Int × Int)) (w : World) (hn : ants.length = n) (hm : seen.length = m) (hA : arrV ants = true) (hO : obsV n seen = true)
    (hr : Rd w w.heap.size A (ants.flatMap pairCells)) (hs : Rd w w.heap.size B (seen.flatMap pairCells)) :
    Calls Try.prog 32 #[.slice A n ca, .slice B m cb] w fun e w' => Below w.heap.size w w' ∧
      ((∃ g, gridO ants seen = some g ∧ ∃ G, e = .returned (.tuple #[.slice (some ⟨G, 0, none⟩) 16 16, .bool true]) ∧ w.heap.size ≤ G ∧ Row w' G 31 (g.flatMap pairCells)) ∨
       (gridO ants seen = none ∧ ∃ E, e = .returned (.tuple #[.slice (some ⟨E, 0, none⟩) 0 0, .bool false]) ∧ w.heap.size ≤ E ∧ Row w' E 31 [])) := by
  obtain ⟨Z1, hZ1⟩ : ∃ Z1, List.replicate (16 * 2) (Value.int .i64 0) = Z1 := ⟨_, rfl⟩
  obtain ⟨Z2, hZ2⟩ : ∃ Z2, List.replicate 16 (Value.bool false) = Z2 := ⟨_, rfl⟩
  have hmk1 : ∀ W : World, (Instr.makeSlice 55 (.int .i64 16) (.int .i64 16)).run Try.prog W = .ok (.slice (some ⟨W.heap.size, 0, none⟩) 16 16) (W.alloc (.cells Z1.toArray 31)) := fun W => by
    rw [← hZ1]; exact run_make2 (P := Try.prog) 55 31 (.int .i64 0) (.agg #[.int .i64 0, .int .i64 0]) 16 Try.underlying55 (by kernel_rfl) rfl 16 (by omega) (by omega) W
  have hmk2 : ∀ W : World, (Instr.makeSlice 38 (.int .i64 16) (.int .i64 16)).run Try.prog W = .ok (.slice (some ⟨W.heap.size, 0, none⟩) 16 16) (W.alloc (.cells Z2.toArray 4)) := fun W => by
    rw [← hZ2]; exact run_make1 (P := Try.prog) 38 4 (.bool false) 1 Try.underlying38 (by kernel_rfl) rfl 16 (by omega) (by omega) W
  have hz1 : Z1 = grid0.1.flatMap pairCells := by rw [← hZ1]; rfl
  have hz2 : Z2 = grid0.2.map Value.bool := by rw [← hZ2]; rfl
  have hl := arrV_len hA
  obtain ⟨k0, hk0, _, _, hm2, hm21, hgv⟩ := obsV_of hO
  obtain rfl : n = k0 := by omega
  rw [hm] at hm2 hm21
  clear hk0
  have Hm2 := Lib.hid hm2; clear hm2
  have Hz1 := Lib.hid hz1; clear hz1
  have Hz2 := Lib.hid hz2; clear hz2
  have Hn := Lib.hid hn; clear hn
  have Hm := Lib.hid hm; clear hm
  have HA := Lib.hid hA; clear hA
  have HO := Lib.hid hO; clear hO
  clear hZ1 hZ2
  go_enter Try.func32, Try.ntmps32
  go_wp2_with fail
  refine (sArrayValid_any A n ca ants _ Hn.out (by omega) hr).mono ?_
  rintro e w1 ⟨rfl, b1⟩
  rw [HA.out]
  go_wp2_with fail
  refine (l43Ok_any n B m cb seen _ Hm.out (by omega) (hs.ext b1)).mono ?_
  rintro e w2 ⟨rfl, b2⟩
  rw [HO.out]
  have B2 := b1.trans (b2.mono b1.size)
  have hr' := hr
  have hS' := hs
  clear b1 b2 hr hs
  go_wp2_with (go_at_call 73; refine (l21Cells_any _).mono ?_; rintro e w' ⟨rfl, rfl⟩)
  clear hmk1 hmk2
  have g0 := (Row.new w2 31 Z1).alloc (.cells Z2.toArray 4)
  have k0 := Row.new (w2.alloc (.cells Z1.toArray 31)) 4 Z2
  simp only [World.size_alloc] at g0 k0
  have hw0 : Below w.heap.size w ((w2.alloc (.cells Z1.toArray 31)).alloc (.cells Z2.toArray 4)) := B2.trans (bA2.mono B2.size)
  go_loopw [8] (fun i wr => ∃ k : Nat, k ≤ m ∧ i = .int .i64 k ∧ (∃ st, gridRun (gridE ants seen k) = some st ∧ st.1.length = 16 ∧ st.2.length = 16 ∧ Row wr w2.heap.size 31 (st.1.flatMap pairCells) ∧ Row wr (w2.heap.size + 1) 4 (st.2.map Value.bool)) ∧ Below w.heap.size w wr) (fun i _ => m - (intOf i).toNat)
  case atStart => exact ⟨0, by omega, rfl, ⟨grid0, rfl, rfl, rfl, by rw [← Hz1.out]; exact g0, by rw [← Hz2.out]; exact k0⟩, hw0⟩
  case round =>
    clear g0 k0 hw0
    obtain ⟨k, hk, rfl, ⟨⟨g, kn⟩, hst, hl1, hl2, rG, rK⟩, hbel⟩ := hrel
    have hbs := hbel.size
    have r3 := (hr'.below hbel).more hbs
    by_cases hlt : k < m
    · have hpp : k < (pairsN n).length := by rw [← Hm2.out]; exact hlt
      have hgk := getD_of (gs := seen) (k := k) (by rw [Hm.out]; exact hlt)
      obtain ⟨b, off, rfl, hb2, hc1, hc2⟩ := rd_pair (hS'.below hbel) hgk
      have hgv' : gv (seen.getD k (0, 0)).1 (seen.getD k (0, 0)).2 = true := by
        have h := hgv
        unfold allV at h
        exact List.all_eq_true.1 h _ (List.mem_of_getElem? hgk)
      obtain ⟨x, hx⟩ : ∃ x, seen.getD k (0, 0) = x := ⟨_, rfl⟩
      rw [hx] at hgk hc1 hc2 hgv'
      have hl1' := hl1
      have hl2' := hl2
      dsimp only at hl1' hl2' rG rK
      have HL := Lib.hid (And.intro hl1' hl2')
      clear hl1 hl2 hl1' hl2'
      have Hst := Lib.hid hst; clear hst
      have Hgk := Lib.hid hgk; clear hgk
      have Hx := Lib.hid hx; clear hx
      have Hpp := Lib.hid hpp; clear hpp
      go_wp2_with fail
      refine (l17Vector_any A n ca ants k _ Hn.out HA.out Hpp.out r3).mono ?_
      rintro e w3 ⟨rfl, b3⟩
      obtain ⟨dx, hdx⟩ : ∃ dx, vecX ants (pairAt n k).1 (pairAt n k).2 = dx := ⟨_, rfl⟩
      obtain ⟨dy, hdy⟩ : ∃ dy, vecY ants (pairAt n k).1 (pairAt n k).2 = dy := ⟨_, rfl⟩
      rw [hdx, hdy]
      have rG3 := rG.kept b3
      have rK3 := rK.kept b3
      have B3 := hbel.trans (b3.mono hbel.size)
      have hb3 : b < wr.heap.size := Nat.lt_of_lt_of_le hb2 hbs
      have d1 := (bcl (bA1 (w := w3) (o := .cells #[.int .i64 dx, .int .i64 dy] 35)) (Nat.lt_of_lt_of_le hb3 b3.size) _).trans ((bcl b3 hb3 _).trans hc1)
      have d2 := (bcl (bA1 (w := w3) (o := .cells #[.int .i64 dx, .int .i64 dy] 35)) (Nat.lt_of_lt_of_le hb3 b3.size) _).trans ((bcl b3 hb3 _).trans hc2)
      have Hdx := Lib.hid hdx; clear hdx
      have Hdy := Lib.hid hdy; clear hdy
      clear rG rK r3 hbel hc1 hc2
      go_wp2_with fail
      refine (sGaussConj_yes x.1 x.2 _ hgv').mono ?_
      rintro e w4 ⟨rfl, b4⟩
      go_wp2_with fail
      have rT := ((Row.new w3 35 [.int .i64 dx, .int .i64 dy]).kept b4).alloc (.cells #[.int .i64 x.1, .int .i64 (-x.2)] 31)
      have rU := Row.new w4 31 [.int .i64 x.1, .int .i64 (-x.2)]
      have rG4 := ((rG3.alloc (.cells #[.int .i64 dx, .int .i64 dy] 35)).kept b4).alloc (.cells #[.int .i64 x.1, .int .i64 (-x.2)] 31)
      have rK4 := ((rK3.alloc (.cells #[.int .i64 dx, .int .i64 dy] 35)).kept b4).alloc (.cells #[.int .i64 x.1, .int .i64 (-x.2)] 31)
      have bb : b < (w3.alloc (.cells #[.int .i64 dx, .int .i64 dy] 35)).heap.size := by rw [World.size_alloc]; exact Nat.lt_succ_of_lt (Nat.lt_of_lt_of_le hb3 b3.size)
      have d3 := (bcl (bA1 (w := w4) (o := .cells #[.int .i64 x.1, .int .i64 (-x.2)] 31)) (Nat.lt_of_lt_of_le bb b4.size) _).trans ((bcl b4 bb _).trans d1)
      have d4 := (bcl (bA1 (w := w4) (o := .cells #[.int .i64 x.1, .int .i64 (-x.2)] 31)) (Nat.lt_of_lt_of_le bb b4.size) _).trans ((bcl b4 bb _).trans d2)
      have bW : b < (w4.alloc (.cells #[.int .i64 x.1, .int .i64 (-x.2)] 31)).heap.size := by rw [World.size_alloc]; exact Nat.lt_succ_of_lt (Nat.lt_of_lt_of_le bb b4.size)
      have hsU : w3.heap.size < w4.heap.size := Nat.lt_of_lt_of_le (by rw [World.size_alloc]; omega) b4.size
      have hs3 := b3.size
      have hB3 : Below w.heap.size w (w4.alloc (.cells #[.int .i64 x.1, .int .i64 (-x.2)] 31)) := (((B3.alloc B3.size _).trans (b4.mono (by rw [World.size_alloc]; have := B3.size; omega)))).alloc (by have := B3.size; omega) _
      have hGs := rG3.lt
      have hKs := rK3.lt
      have hbG : b ≠ w2.heap.size ∧ b ≠ w2.heap.size + 1 := by have := B2.size; omega
      have hGw := B2.size
      clear b3 b4 rG3 rK3 d1 d2 hb3 bb hb2 hbs
      obtain ⟨W, hW⟩ : ∃ W, w4.alloc (.cells #[.int .i64 x.1, .int .i64 (-x.2)] 31) = W := ⟨_, rfl⟩
      obtain ⟨s, hs⟩ : ∃ s, w3.heap.size = s := ⟨_, rfl⟩
      obtain ⟨u, hu⟩ : ∃ u, w4.heap.size = u := ⟨_, rfl⟩
      obtain ⟨G, hG⟩ : ∃ G, w2.heap.size = G := ⟨_, rfl⟩
      simp only [hW, hs, hu, hG] at rT rU rG4 rK4 d3 d4 bW hsU hs3 hB3 hGs hKs hbG hGw ⊢
      have hsW := rT.lt
      have huW := rU.lt
      obtain ⟨t0, t1, _, _⟩ := rT.two
      obtain ⟨u0, u1, _, _⟩ := rU.two
      have kc : ∀ {j i : Nat} {v : Value} {w' : World}, Kept2 G (G + 1) W w' → j < W.heap.size → j ≠ G → j ≠ G + 1 → W.cell? ⟨j, i, none⟩ = some v → w'.cell? ⟨j, i, none⟩ = some v := fun h hj h1 h2 hc => by
        have := h.block _ hj h1 h2
        unfold World.cell? at hc ⊢
        simpa only [this] using hc
      have F0 : ∀ w', Kept2 G (G + 1) W w' → w'.cell? ⟨s, 0, none⟩ = some (.int .i64 dx) := fun w' h => kc h hsW (by omega) (by omega) t0
      have F1 : ∀ w', Kept2 G (G + 1) W w' → w'.cell? ⟨s, 1, none⟩ = some (.int .i64 dy) := fun w' h => kc h hsW (by omega) (by omega) t1
      have Lu : ∀ w', Kept2 G (G + 1) W w' → (Instr.loadAt 31 (.pointer (some ⟨u, 0, none⟩))).run Try.prog w' = .ok (.agg #[.int .i64 x.1, .int .i64 (-x.2)]) w' := fun w' h => ld_two (by kernel_rfl) (by kernel_rfl) (kc h huW (by omega) (by omega) u0) (kc h huW (by omega) (by omega) u1)
      have Lx : ∀ w', Kept2 G (G + 1) W w' → (Instr.loadAt 31 (.pointer (some ⟨b, off + k * 2, none⟩))).run Try.prog w' = .ok (.agg #[.int .i64 x.1, .int .i64 x.2]) w' := fun w' h => ld_two (by kernel_rfl) (by kernel_rfl) (kc h bW hbG.1 hbG.2 d3) (kc h bW hbG.1 hbG.2 d4)
      have hc16 := cellN_lt dx dy
      have hcI := cellN_cast dx dy
      have hoI : cellI (-dx) (-dy) = (oppN (cellN dx dy) : Int) := by rw [cellN_cast, cellN_neg]
      have hvb := vec_bd (arrV_gLe HA.out) (pairAt n k).1 (pairAt n k).2
      rw [Hdx.out, Hdy.out] at hvb
      have j1 : IntKind.i64.wrap (-dx) = -dx := IntWalk.i64_in _ (by omega)
      have j2 : IntKind.i64.wrap (-dy) = -dy := IntWalk.i64_in _ (by omega)
      have hno : gridRun (gridE ants seen (k + 1)) = none → gridO ants seen = none := fun h => gridO_no (by rw [Hn.out]; exact Hpp.out) h
      have J1 := Lib.hid j1; clear j1
      have J2 := Lib.hid j2; clear j2
      have Hno := Lib.hid hno; clear hno
      clear hvb
      have hrun : gridRun (gridE ants seen (k + 1)) = ((gput (g, kn) (cellN dx dy) x).bind fun st => gput st (oppN (cellN dx dy)) (x.1, -x.2)) := by
        rw [gridE_succ, gridRun_snoc, gridRun_snoc, Hst.out, Hx.out, Hn.out]
        show ((gput (g, kn) (cellN (vecX ants (pairAt n k).1 (pairAt n k).2) (vecY ants (pairAt n k).1 (pairAt n k).2)) x).bind fun st => gput st (oppN (cellN (vecX ants (pairAt n k).1 (pairAt n k).2) (vecY ants (pairAt n k).1 (pairAt n k).2))) (x.1, -x.2)) = _
        rw [Hdx.out, Hdy.out]
      have ho16 := oppN_lt (cellN dx dy)
      generalize cellN dx dy = c at *
      generalize oppN c = o at *
      have HC1 := Lib.hid (show ∀ W' : World, Calls Try.prog 74 #[.int .i64 (dx), .int .i64 (dy)] W' fun e w' => e = .returned (.int .i64 (c : Int)) ∧ Below W'.heap.size W' w' from fun W' => (l21At_any (dx) (dy) W').mono (by rintro e w' ⟨rfl, rfl⟩; exact ⟨by rw [hcI], Below.refl _ _⟩))
      have HC2 := Lib.hid (show ∀ W' : World, Calls Try.prog 74 #[.int .i64 (-dx), .int .i64 (-dy)] W' fun e w' => e = .returned (.int .i64 (o : Int)) ∧ Below W'.heap.size W' w' from fun W' => (l21At_any (-dx) (-dy) W').mono (by rintro e w' ⟨rfl, rfl⟩; exact ⟨by rw [hoI], Below.refl _ _⟩))
      have HcI := Lib.hid hcI; have HoI := Lib.hid hoI; have Hrun := Lib.hid hrun
      have hW' := Lib.hid hW; have hs' := Lib.hid hs; have hu' := Lib.hid hu; have hG' := Lib.hid hG
      clear hcI hoI hrun hW hs hu hG kc t0 t1 u0 u1 d3 d4
      refine wp_region_M [11, 24] (Kept2 G (G + 1) W) (by kernel_rfl) (by kernel_rfl) (fun w w' h h' => h.trans (.of_below h')) (.of_below (Below.refl _ W).drew) ?_
      obtain ⟨sp, hsp⟩ : ∃ sp : Nat → Bool, (fun i => [11, 24].contains i) = sp := ⟨_, rfl⟩
      rw [hsp]
      have HSP := Lib.hid hsp
      clear hsp
      refine wpMix_go (v := .slice (some ⟨G, 0, none⟩) 16 16) (by rw [← HSP.out]; rfl) rfl (stays_run fun w' h => ex_move rfl rfl) ?_
      simp only [Act.put, List.setIfInBounds_toArray, List.set_cons_succ, List.set_cons_zero, Nat.reduceAdd]
      refine wpMix_go (v := .slice (some ⟨G + 1, 0, none⟩) 16 16) (by rw [← HSP.out]; rfl) rfl (stays_run fun w' h => ex_move rfl rfl) ?_
      simp only [Act.put, List.setIfInBounds_toArray, List.set_cons_succ, List.set_cons_zero, Nat.reduceAdd]
      refine wpMix_go (v := .pointer (some ⟨s, 0, none⟩)) (by rw [← HSP.out]; rfl) rfl (stays_run fun w' h => by simp [go_sem]) ?_
      simp only [Act.put, List.setIfInBounds_toArray, List.set_cons_succ, List.set_cons_zero, Nat.reduceAdd]
      refine wpMix_go (v := .int .i64 dx) (by rw [← HSP.out]; rfl) rfl (stays_run fun w' h => ex_load rfl rfl (ld_one (by kernel_rfl) (F0 w' h))) ?_
      simp only [Act.put, List.setIfInBounds_toArray, List.set_cons_succ, List.set_cons_zero, Nat.reduceAdd]
      refine wpMix_go (v := .pointer (some ⟨s, 1, none⟩)) (by rw [← HSP.out]; rfl) rfl (stays_run fun w' h => by simp [go_sem]) ?_
      simp only [Act.put, List.setIfInBounds_toArray, List.set_cons_succ, List.set_cons_zero, Nat.reduceAdd]
      refine wpMix_go (v := .int .i64 dy) (by rw [← HSP.out]; rfl) rfl (stays_run fun w' h => ex_load rfl rfl (ld_one (by kernel_rfl) (F1 w' h))) ?_
      simp only [Act.put, List.setIfInBounds_toArray, List.set_cons_succ, List.set_cons_zero, Nat.reduceAdd]
      refine wpMix_go (v := .int .i64 c) (by rw [← HSP.out]; rfl) rfl (stays_call (f := 74) (args := #[.int .i64 dx, .int .i64 dy]) (fun w' h => by simp [go_sem]) (fun w' _ => HC1.out w')) ?_
      simp only [Act.put, List.setIfInBounds_toArray, List.set_cons_succ, List.set_cons_zero, Nat.reduceAdd]
      refine wpMix_go (v := .slice (some ⟨b, off, none⟩) m cb) (by rw [← HSP.out]; rfl) rfl (stays_run fun w' h => ex_move rfl rfl) ?_
      simp only [Act.put, List.setIfInBounds_toArray, List.set_cons_succ, List.set_cons_zero, Nat.reduceAdd]
      refine wpMix_go (v := .int .i64 k) (by rw [← HSP.out]; rfl) rfl (stays_run fun w' h => ex_move rfl rfl) ?_
      simp only [Act.put, List.setIfInBounds_toArray, List.set_cons_succ, List.set_cons_zero, Nat.reduceAdd]
      refine wpMix_go (v := .pointer (some ⟨b, off + k * 2, none⟩)) (by rw [← HSP.out]; rfl) rfl (stays_run fun w' h => ex_index rfl (by kernel_rfl) (by kernel_rfl) rfl rfl (hlt)) ?_
      simp only [Act.put, List.setIfInBounds_toArray, List.set_cons_succ, List.set_cons_zero, Nat.reduceAdd]
      refine wpMix_go (v := .agg #[.int .i64 x.1, .int .i64 x.2]) (by rw [← HSP.out]; rfl) rfl (stays_run fun w' h => ex_load rfl rfl (Lx w' h)) ?_
      simp only [Act.put, List.setIfInBounds_toArray, List.set_cons_succ, List.set_cons_zero, Nat.reduceAdd]
      refine wpMix_mark (by rw [← HSP.out]; rfl) fun m1 hm1 K1 hK1 => ?_
      have E1 := (Below.refl W.heap.size W).drew.trans hm1
      go_wp2_with fail
      refine (l43Put_any G (G + 1) g kn c x _ HL.out.1 HL.out.2 hc16 (by omega) (rG4.kept E1) (rK4.kept E1)).mono ?_
      rintro e m2 ⟨rfl, q1, q2, q3⟩
      go_wp2_with fail
      refine hK1 _ _ ((Kept2.of_below E1).trans q3) ?_
      clear hK1 hm1
      obtain ⟨r, hrr⟩ : ∃ r, gput (g, kn) c x = r := ⟨_, rfl⟩
      rw [hrr] at q1 q2 ⊢
      have hrn := Hrun.out
      rw [hrr] at hrn
      have HRR := Lib.hid hrr
      have HRN := Lib.hid hrn
      clear hrr hrn Hrun
      cases r with
      | none =>
        have Hrn := Lib.hid (Hno.out HRN.out)
        clear q1 q2
        simp only [Option.isSome_none]
        refine wpMix_go (v := .bool true) (by rw [← HSP.out]; rfl) rfl (stays_run fun w' h => by simp [go_sem]) ?_
        simp only [Act.put, List.setIfInBounds_toArray, List.set_cons_succ, List.set_cons_zero, Nat.reduceAdd]
        refine wpMix_go (v := .bool true) (by rw [← HSP.out]; rfl) rfl (stays_run fun w' h => by simp [go_sem]) ?_
        simp only [Act.put, List.setIfInBounds_toArray, List.set_cons_succ, List.set_cons_zero, Nat.reduceAdd]
        refine wpMix_off (by rw [← HSP.out]; rfl) (by kernel_rfl) ?_
        simp only [Act.put, List.setIfInBounds_toArray, List.set_cons_succ, List.set_cons_zero, Nat.reduceAdd]
        refine wpMix_off (by rw [← HSP.out]; rfl) (by kernel_rfl) ?_
        simp only [Act.put, List.setIfInBounds_toArray, List.set_cons_succ, List.set_cons_zero, Nat.reduceAdd]
        refine wpMix_off (by rw [← HSP.out]; rfl) (by kernel_rfl) ?_
        simp only [Act.put, List.setIfInBounds_toArray, List.set_cons_succ, List.set_cons_zero, Nat.reduceAdd]
        refine wpMix_off (by rw [← HSP.out]; rfl) (by kernel_rfl) ?_
        simp only [Act.put, List.setIfInBounds_toArray, List.set_cons_succ, List.set_cons_zero, Nat.reduceAdd]
        refine wpMix_off (by rw [← HSP.out]; rfl) (by kernel_rfl) ?_
        simp only [Act.put, List.setIfInBounds_toArray, List.set_cons_succ, List.set_cons_zero, Nat.reduceAdd]
        refine wpMix_off (by rw [← HSP.out]; rfl) (by kernel_rfl) ?_
        simp only [Act.put, List.setIfInBounds_toArray, List.set_cons_succ, List.set_cons_zero, Nat.reduceAdd]
        refine wpMix_off (by rw [← HSP.out]; rfl) (by kernel_rfl) ?_
        simp only [Act.put, List.setIfInBounds_toArray, List.set_cons_succ, List.set_cons_zero, Nat.reduceAdd]
        refine wpMix_off (by rw [← HSP.out]; rfl) (by kernel_rfl) ?_
        simp only [Act.put, List.setIfInBounds_toArray, List.set_cons_succ, List.set_cons_zero, Nat.reduceAdd]
        refine wpMix_off (by rw [← HSP.out]; rfl) (by kernel_rfl) ?_
        simp only [Act.put, List.setIfInBounds_toArray, List.set_cons_succ, List.set_cons_zero, Nat.reduceAdd]
        refine wpMix_off (by rw [← HSP.out]; rfl) (by kernel_rfl) ?_
        simp only [Act.put, List.setIfInBounds_toArray, List.set_cons_succ, List.set_cons_zero, Nat.reduceAdd]
        refine wpMix_mark (by rw [← HSP.out]; rfl) fun m3 hm3 K3 hK3 => ?_
        go_wp2_with fail
        refine hK3 _ _ ((Kept2.of_below E1).trans (q3.trans (.of_below hm3))) ?_
        refine wpMix_off (by rw [← HSP.out]; rfl) (by kernel_rfl) ?_
        simp only [Act.put, List.setIfInBounds_toArray, List.set_cons_succ, List.set_cons_zero, Nat.reduceAdd]
        refine wpMix_go (v := .bool true) (by rw [← HSP.out]; rfl) rfl (stays_run fun w' h => by simp [go_sem]) ?_
        simp only [Act.put, List.setIfInBounds_toArray, List.set_cons_succ, List.set_cons_zero, Nat.reduceAdd]
        refine wpMix_nil fun V hV => ?_
        simp only [onlyN, Exit.then]
        have hB9 := ((Kept2.of_below E1).trans (q3.trans ((Kept2.of_below hm3).trans (.of_below hV)))).below hB3 hGw (by omega) hB3.size
        have HB9 := Lib.hid hB9; clear hB9
        clear hK3 hm3 hV q3 E1
        go_wp2_with fail
        refine bodyPost_ret (v := .tuple #[.slice (some ⟨V.heap.size, 0, none⟩) 0 0, .bool false]) (by simp [results, Try.results32, go_sem]) rfl ⟨HB9.out.alloc HB9.out.size _, .inr ⟨Hrn.out, _, rfl, HB9.out.size, Row.new V 31 []⟩⟩
      | some st1 =>
        obtain ⟨g1, kn1⟩ := st1
        have HL1 := Lib.hid (gput_len HL.out HRR.out)
        simp only [Option.isSome_some]
        simp only [Option.getD_some] at q1 q2
        refine wpMix_go (v := .bool false) (by rw [← HSP.out]; rfl) rfl (stays_run fun w' h => by simp [go_sem]) ?_
        simp only [Act.put, List.setIfInBounds_toArray, List.set_cons_succ, List.set_cons_zero, Nat.reduceAdd]
        refine wpMix_go (v := .bool false) (by rw [← HSP.out]; rfl) rfl (stays_run fun w' h => ex_move rfl rfl) ?_
        simp only [Act.put, List.setIfInBounds_toArray, List.set_cons_succ, List.set_cons_zero, Nat.reduceAdd]
        refine wpMix_go (v := .slice (some ⟨G, 0, none⟩) 16 16) (by rw [← HSP.out]; rfl) rfl (stays_run fun w' h => ex_move rfl rfl) ?_
        simp only [Act.put, List.setIfInBounds_toArray, List.set_cons_succ, List.set_cons_zero, Nat.reduceAdd]
        refine wpMix_go (v := .slice (some ⟨G + 1, 0, none⟩) 16 16) (by rw [← HSP.out]; rfl) rfl (stays_run fun w' h => ex_move rfl rfl) ?_
        simp only [Act.put, List.setIfInBounds_toArray, List.set_cons_succ, List.set_cons_zero, Nat.reduceAdd]
        refine wpMix_go (v := .pointer (some ⟨s, 0, none⟩)) (by rw [← HSP.out]; rfl) rfl (stays_run fun w' h => by simp [go_sem]) ?_
        simp only [Act.put, List.setIfInBounds_toArray, List.set_cons_succ, List.set_cons_zero, Nat.reduceAdd]
        refine wpMix_go (v := .int .i64 dx) (by rw [← HSP.out]; rfl) rfl (stays_run fun w' h => ex_load rfl rfl (ld_one (by kernel_rfl) (F0 w' h))) ?_
        simp only [Act.put, List.setIfInBounds_toArray, List.set_cons_succ, List.set_cons_zero, Nat.reduceAdd]
        refine wpMix_go (v := .int .i64 (-dx)) (by rw [← HSP.out]; rfl) rfl (stays_run fun w' h => by simp [go_sem, J1.out]) ?_
        simp only [Act.put, List.setIfInBounds_toArray, List.set_cons_succ, List.set_cons_zero, Nat.reduceAdd]
        refine wpMix_go (v := .pointer (some ⟨s, 1, none⟩)) (by rw [← HSP.out]; rfl) rfl (stays_run fun w' h => by simp [go_sem]) ?_
        simp only [Act.put, List.setIfInBounds_toArray, List.set_cons_succ, List.set_cons_zero, Nat.reduceAdd]
        refine wpMix_go (v := .int .i64 dy) (by rw [← HSP.out]; rfl) rfl (stays_run fun w' h => ex_load rfl rfl (ld_one (by kernel_rfl) (F1 w' h))) ?_
        simp only [Act.put, List.setIfInBounds_toArray, List.set_cons_succ, List.set_cons_zero, Nat.reduceAdd]
        refine wpMix_go (v := .int .i64 (-dy)) (by rw [← HSP.out]; rfl) rfl (stays_run fun w' h => by simp [go_sem, J2.out]) ?_
        simp only [Act.put, List.setIfInBounds_toArray, List.set_cons_succ, List.set_cons_zero, Nat.reduceAdd]
        refine wpMix_go (v := .int .i64 o) (by rw [← HSP.out]; rfl) rfl (stays_call (f := 74) (args := #[.int .i64 (-dx), .int .i64 (-dy)]) (fun w' h => by simp [go_sem]) (fun w' _ => HC2.out w')) ?_
        simp only [Act.put, List.setIfInBounds_toArray, List.set_cons_succ, List.set_cons_zero, Nat.reduceAdd]
        refine wpMix_go (v := .agg #[.int .i64 x.1, .int .i64 (-x.2)]) (by rw [← HSP.out]; rfl) rfl (stays_run fun w' h => ex_load rfl rfl (Lu w' h)) ?_
        simp only [Act.put, List.setIfInBounds_toArray, List.set_cons_succ, List.set_cons_zero, Nat.reduceAdd]
        refine wpMix_mark (by rw [← HSP.out]; rfl) fun m3 hm3 K3 hK3 => ?_
        go_wp2_with fail
        refine (l43Put_any G (G + 1) g1 kn1 o (x.1, -x.2) _ HL1.out.1 HL1.out.2 ho16 (by omega) (q1.kept hm3) (q2.kept hm3)).mono ?_
        rintro e m4 ⟨rfl, p1, p2, p3⟩
        go_wp2_with fail
        have kall := (Kept2.of_below E1).trans (q3.trans ((Kept2.of_below hm3).trans p3))
        refine hK3 _ _ kall ?_
        clear hK3 hm3 q3 E1 p3 q1 q2
        obtain ⟨r2, hrr2⟩ : ∃ r2, gput (g1, kn1) o (x.1, -x.2) = r2 := ⟨_, rfl⟩
        rw [hrr2] at p1 p2 ⊢
        have HR3 := Lib.hid hrr2
        have HR2 := Lib.hid (HRN.out.trans hrr2)
        clear hrr2
        cases r2 with
        | none =>
          have Hrn := Lib.hid (Hno.out HR2.out)
          clear p1 p2
          simp only [Option.isSome_none]
          refine wpMix_go (v := .bool true) (by rw [← HSP.out]; rfl) rfl (stays_run fun w' h => by simp [go_sem]) ?_
          simp only [Act.put, List.setIfInBounds_toArray, List.set_cons_succ, List.set_cons_zero, Nat.reduceAdd]
          refine wpMix_go (v := .bool true) (by rw [← HSP.out]; rfl) rfl (stays_run fun w' h => by simp [go_sem]) ?_
          simp only [Act.put, List.setIfInBounds_toArray, List.set_cons_succ, List.set_cons_zero, Nat.reduceAdd]
          refine wpMix_nil fun V hV => ?_
          simp only [onlyN, Exit.then]
          have hB9 := (kall.trans (.of_below hV)).below hB3 hGw (by omega) hB3.size
          have HB9 := Lib.hid hB9; clear hB9
          clear hV kall
          go_wp2_with fail
          refine bodyPost_ret (v := .tuple #[.slice (some ⟨V.heap.size, 0, none⟩) 0 0, .bool false]) (by simp [results, Try.results32, go_sem]) rfl ⟨HB9.out.alloc HB9.out.size _, .inr ⟨Hrn.out, _, rfl, HB9.out.size, Row.new V 31 []⟩⟩
        | some st2 =>
          obtain ⟨g2, kn2⟩ := st2
          have HL2 := Lib.hid (gput_len HL1.out HR3.out)
          simp only [Option.isSome_some]
          simp only [Option.getD_some] at p1 p2
          refine wpMix_go (v := .bool false) (by rw [← HSP.out]; rfl) rfl (stays_run fun w' h => by simp [go_sem]) ?_
          simp only [Act.put, List.setIfInBounds_toArray, List.set_cons_succ, List.set_cons_zero, Nat.reduceAdd]
          refine wpMix_go (v := .bool false) (by rw [← HSP.out]; rfl) rfl (stays_run fun w' h => by simp [go_sem]) ?_
          simp only [Act.put, List.setIfInBounds_toArray, List.set_cons_succ, List.set_cons_zero, Nat.reduceAdd]
          refine wpMix_nil fun V hV => ?_
          simp only [onlyN, Exit.then]
          have hB9 := (kall.trans (.of_below hV)).below hB3 hGw (by omega) hB3.size
          have P1 := Lib.hid (p1.kept hV)
          have P2 := Lib.hid (p2.kept hV)
          have HB9 := Lib.hid hB9; clear hB9
          clear hV kall p1 p2
          go_wp2_with fail
          have hG := hG'.out
          clear hG'
          subst hG
          go_roundw
          case rel => exact ⟨k + 1, by omega, by go_num, ⟨(g2, kn2), HR2.out, HL2.out.1, HL2.out.2, P1.out, P2.out⟩, HB9.out⟩
          case measure => simp [intOf]; omega
    · obtain rfl : k = m := by omega
      have hgo : gridO ants seen = some g := by unfold gridO; rw [Hn.out, ← Hm2.out, hst]; rfl
      have Hst := Lib.hid hst; clear hst
      have Hl1 := Lib.hid hl1; clear hl1
      have Hl2 := Lib.hid hl2; clear hl2
      have Hgo := Lib.hid hgo; clear hgo
      go_wp2_with fail
      refine bodyPost_ret (v := .tuple #[.slice (some ⟨w2.heap.size, 0, none⟩) 16 16, .bool true]) (by simp [results, Try.results32, go_sem]) rfl ?_
      exact ⟨hbel, .inl ⟨g, Hgo.out, w2.heap.size, rfl, B2.size, rG⟩⟩
end Go.Proofs.Ytfandpgjlahnpaa
