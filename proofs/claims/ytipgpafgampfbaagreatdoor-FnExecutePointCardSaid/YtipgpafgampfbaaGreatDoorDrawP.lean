/- The draws of a point source. -/
import Derived.Test.YtipgpafgampfbaaGreatDoorDrawE
import Derived.Test.YtipgpafgampfbaaGreatDoorGridS
import Derived.Test.YtipgpafgampfbaaGreatDoorMix
namespace Go.Proofs.YtipgpafgampfbaaGreatDoor
open Go.RowKit

theorem grown_put {w w1 : World} {R b i : Nat} (h : w.grownBy w1 (some R)) (hb : w.heap.size ≤ b) (v : Value) : w.grownBy (w1.setCell ⟨b, i, none⟩ v) (some R) :=
  have k := grown_set w1 b i v
  ⟨k.os.trans h.os, k.tape.trans h.tape, k.output.trans h.output, Nat.le_trans h.size k.size, fun j hj hr => (k.block j (Nat.lt_of_lt_of_le hj h.size) (fun e => by injection e with e; omega)).trans (h.block j hj hr)⟩
theorem IsRd.put {w : World} {R b i : Nat} {p : Int} (h : IsRd w R p) (hb : R < b) (v : Value) : IsRd (w.setCell ⟨b, i, none⟩ v) R p :=
  h.over (grown_set w b i v) fun j e => by injection e with e; omega

set_option maxRecDepth 100000 in
set_option maxHeartbeats 1000000 in
theorem l91Direction_any (R : Nat) (p : Int) (w : World) (hp : 0 ≤ p ∧ p ≤ 900000) (h : IsRd w R p) :
    Calls Tryz.prog 79 #[.pointer (some ⟨R, 0, none⟩)] w fun e w' =>
      ∃ (x y p' : Int), e = .returned (.agg #[.int .i64 x, .int .i64 y]) ∧ (-1001 ≤ x ∧ x ≤ 1001) ∧ (-1001 ≤ y ∧ y ≤ 1001) ∧ (0 ≤ p' ∧ p' ≤ p + 10) ∧ IsRd w' R p' ∧ w.grownBy w' (some R) := by
  have hlt := h.lt
  have r0 := Row.new w 50 [.int .i64 0, .int .i64 0]
  have h1 := h.kept (bA1 (o := .cells #[.int .i64 0, .int .i64 0] 50))
  have g0 := World.grownBy_alloc w (.cells #[.int .i64 0, .int .i64 0] 50) (some R)
  go_enter Tryz.func79, Tryz.ntmps79
  go_wp2_with fail
  refine (pick2 R p 200 _ (by omega) (by omega) h1).mono ?_
  rintro e w1 ⟨x, rfl, x0, x4, hrd1, g1⟩
  have r0 := r0.grown g1 (by simp; omega)
  have G1 := grown_trans g0 g1
  clear g0 g1 h1
  go_wp2_with fail
  refine (pick2 R (p + 1) 200 _ (by omega) (by omega) hrd1).mono ?_
  rintro e w2 ⟨y, rfl, y0, y4, hrd2, g2⟩
  have r0 := r0.grown g2 (by simp; omega)
  have G2 := grown_trans G1 g2
  clear G1 g2 hrd1
  have i1 : IntKind.i64.wrap (x - 100) = x - 100 := IntWalk.i64_in _ (by omega)
  have i2 : IntKind.i64.wrap (y - 100) = y - 100 := IntWalk.i64_in _ (by omega)
  have hr0 := r0.lt
  go_wp2_with fail
  have r1 := Row.new w2 50 [.int .i64 (x - 100), .int .i64 (y - 100)]
  have r0 := r0.alloc (.cells #[.int .i64 (x - 100), .int .i64 (y - 100)] 50)
  have h2 := hrd2.kept (bA1 (o := .cells #[.int .i64 (x - 100), .int .i64 (y - 100)] 50))
  have G3 := grown_trans G2 (World.grownBy_alloc w2 (.cells #[.int .i64 (x - 100), .int .i64 (y - 100)] 50) (some R))
  have hs2 := G2.size
  have hR2 := hrd2.lt
  refine (pick2 R (p + 1 + 1) 40 _ (by omega) (by omega) h2).mono ?_
  rintro e w3 ⟨z, rfl, z0, z4, hrd3, g3⟩
  have r0 := r0.grown g3 (by simp; omega)
  have r1 := r1.grown g3 (by simp; omega)
  have G4 := grown_trans G3 g3
  clear G3 g3 h2 hrd2 G2
  obtain ⟨c0, c1, f0, f1⟩ := r1.two
  have hr1 := r1.lt
  have hr0' := r0.lt
  have hne : w.heap.size ≠ w2.heap.size := by omega
  by_cases hz : z = 0
  · subst hz
    have q1 := r1.set_ 1 (.int .i64 1001)
    have q0 := r0.far (p := ⟨w2.heap.size, 1, none⟩) hne (.int .i64 1001)
    have G5 := ((grown_put (i := 1) G4 (b := w2.heap.size) (by omega) (.int .i64 1001)))
    have h5 := hrd3.put (i := 1) (b := w2.heap.size) (by omega) (.int .i64 1001)
    obtain ⟨c2, c3, _, _⟩ := q1.two
    obtain ⟨d0, d1, e0, e1⟩ := q0.two
    have hq := q0.lt
    have hq1 := q1.lt
    have G5b := grown_put (i := 0) (b := w.heap.size) G5 (Nat.le_refl _) (.int .i64 (x - 100))
    have G6 := grown_put (i := 1) (b := w.heap.size) G5b (Nat.le_refl _) (.int .i64 1001)
    have h6 := (h5.put (i := 0) (b := w.heap.size) hlt (.int .i64 (x - 100))).put (i := 1) (b := w.heap.size) hlt (.int .i64 1001)
    go_wp2_with fail
    have q := (q0.set_ 0 (.int .i64 (x - 100))).set_ 1 (.int .i64 1001)
    generalize ((w3.setCell ⟨w2.heap.size, 1, none⟩ (.int .i64 1001)).setCell ⟨w.heap.size, 0, none⟩ (.int .i64 (x - 100))).setCell ⟨w.heap.size, 1, none⟩ (.int .i64 1001) = V at q G6 h6 ⊢
    obtain ⟨v0, v1, _, _⟩ := q.two
    refine bodyPost_ret (v := .agg #[.int .i64 (x - 100), .int .i64 1001]) (by simp [results, Tryz.results79, go_sem, v0, v1]) rfl ?_
    exact ⟨x - 100, 1001, p + 1 + 1 + 1, rfl, by omega, by omega, by omega, h6, G6⟩
  · obtain ⟨d0, d1, e0, e1⟩ := r0.two
    have hzI : (z == 0) = false := beq_eq_false_iff_ne.2 hz
    have G5b := grown_put (i := 0) (b := w.heap.size) G4 (Nat.le_refl _) (.int .i64 (x - 100))
    have G6 := grown_put (i := 1) (b := w.heap.size) G5b (Nat.le_refl _) (.int .i64 (y - 100))
    have h6 := (hrd3.put (i := 0) (b := w.heap.size) hlt (.int .i64 (x - 100))).put (i := 1) (b := w.heap.size) hlt (.int .i64 (y - 100))
    have q := (r0.set_ 0 (.int .i64 (x - 100))).set_ 1 (.int .i64 (y - 100))
    go_wp2_with fail
    generalize (w3.setCell ⟨w.heap.size, 0, none⟩ (.int .i64 (x - 100))).setCell ⟨w.heap.size, 1, none⟩ (.int .i64 (y - 100)) = V at q G6 h6 ⊢
    obtain ⟨v0, v1, _, _⟩ := q.two
    refine bodyPost_ret (v := .agg #[.int .i64 (x - 100), .int .i64 (y - 100)]) (by simp [results, Tryz.results79, go_sem, v0, v1]) rfl ?_
    exact ⟨x - 100, y - 100, p + 1 + 1 + 1, rfl, by omega, by omega, by omega, h6, G6⟩

set_option maxRecDepth 100000 in
set_option maxHeartbeats 1000000 in
theorem drawVisPoint_any (A : Option Addr) (n cap : Nat) (bs : List Int) (w : World) (hn : bs.length = n) (hm : n ≤ 9223372036854775807) (hc : n ≤ cap) (hb : BytesOk bs) (hr : Rd w w.heap.size A (bs.map (Value.int .u8))) :
    Calls Tryz.prog 38 #[.slice A n cap] w fun e w' =>
      ∃ (A1 : Option Addr) (k c : Nat) (xs : List (Int × Int)) (x y amp : Int), e = .returned (.tuple #[.slice A1 k c, .agg #[.int .i64 x, .int .i64 y], .int .i64 amp]) ∧ xs.length = k ∧ k ≤ 20 ∧ k ≤ c ∧ (-1001 ≤ x ∧ x ≤ 1001) ∧ (-1001 ≤ y ∧ y ≤ 1001) ∧ (0 ≤ amp ∧ amp ≤ 1000001) ∧ Rd w' w'.heap.size A1 (xs.flatMap pairCells) ∧ Below w.heap.size w w' := by
  have r0 := Row.new w 50 [.int .i64 0, .int .i64 0]
  have hr' := hr.ext (bA1 (o := .cells #[.int .i64 0, .int .i64 0] 50))
  have b0 := bA1 (w := w) (o := .cells #[.int .i64 0, .int .i64 0] 50)
  have hs0 := b0.size
  go_enter Tryz.func38, Tryz.ntmps38
  go_wp2_with fail
  refine (l6Open_any A n cap bs _ hn hm hc hr').mono ?_
  rintro e w1 ⟨rfl, hR, hb1⟩
  have hrd := isRd_open hn hb hr' hR hb1
  have r0 := r0.kept hb1
  have B1 := b0.trans (hb1.mono b0.size)
  have hs1 := hb1.size
  clear hR hb1 b0 hr'
  rw [World.size_alloc] at hrd hs0 hs1
  go_wp2_with fail
  refine (l91Array_own _ 0 _ (by omega) hrd).mono ?_
  rintro e w2 ⟨A1, k1, c1, ants, p', rfl, hs, hk1, hkc, o2, hp1, hrd2, g2⟩
  have hob : ∀ b off, A1 = some ⟨b, off, none⟩ → (b ≠ w.heap.size ∧ b ≠ w.heap.size + 1) ∨ ants.flatMap pairCells = [] := fun b off e => by
    have hlt0 := hrd.lt
    rcases o2.2 with ⟨h1, h2⟩ | ⟨g, cap, cur, hv, hB, _⟩
    · right; have := o2.1; rw [h2] at this; exact List.eq_nil_of_length_eq_zero (by simpa using this)
    · left
      injection hv with e1
      rw [e] at e1
      injection e1 with e1
      injection e1 with e1
      omega
  have hr2 := Rd.of_own o2
  have B2 := B1.grown g2 B1.size fun j e => by cases e; omega
  have r0 := r0.grown g2 (by simp)
  have hlt1 := hrd.lt
  go_wp2_with fail
  refine (l91Direction_any _ p' _ (by omega) hrd2).mono ?_
  rintro e w3 ⟨x, y, p3, rfl, hx, hy, hp3, hrd3, g3⟩
  have B3 := B2.grown g3 B2.size fun j e => by cases e; omega
  have r0 := r0.grown g3 (by simp)
  go_wp2_with fail
  have r1 := Row.new w3 50 [.int .i64 x, .int .i64 y]
  have r0 := r0.alloc (.cells #[.int .i64 x, .int .i64 y] 50)
  have h3 := hrd3.kept (bA1 (o := .cells #[.int .i64 x, .int .i64 y] 50))
  have B4 := B3.alloc B3.size (.cells #[.int .i64 x, .int .i64 y] 50)
  have hR3 := hrd3.lt
  refine (pick2 _ p3 16 _ (by omega) (by omega) h3).mono ?_
  rintro e w4 ⟨z, rfl, z0, z4, hrd4, g4⟩
  have B5 := B4.grown g4 B4.size fun j e => by cases e; omega
  have r0 := r0.grown g4 (by simp)
  have r1 := r1.grown g4 (by simp; omega)
  have hR4 := hrd4.lt
  have hbs := B5.size
  have hr4 := (hr2.over g3 fun b off e => (hob b off e).imp And.right id).ext (bA1 (o := .cells #[.int .i64 x, .int .i64 y] 50))
  have hr5 := hr4.over g4 fun b off e => (hob b off e).imp And.right id
  have hA : ∀ V, Kept2 w.heap.size (w.heap.size + 1) w4 V → Rd V V.heap.size A1 (ants.flatMap pairCells) := fun V h i u hu => by
    obtain ⟨b, off, e, hb, hc⟩ := hr5 i u hu
    refine ⟨b, off, e, Nat.lt_of_lt_of_le hb h.size, ?_⟩
    rcases hob b off e with ⟨n1, n2⟩ | h0
    · have hblk := h.block b hb n1 n2
      exact (World.cell?_of_block (a := ⟨b, off + i, none⟩) hblk).trans hc
    · rw [h0] at hu; simp at hu
  have hr1l := r1.lt
  by_cases hz : z = 0
  · subst hz
    go_wp2_with fail
    have GK : ∀ {X Y : World}, X.grownBy Y (some (w.heap.size + 1)) → Kept2 w.heap.size (w.heap.size + 1) X Y := fun h => ⟨h.os, h.tape, h.output, h.size, fun j hj _ h2 => h.block j hj (fun e => h2 (by injection e))⟩
    have L1 : ∀ w', Kept2 w.heap.size (w.heap.size + 1) w4 w' → (Instr.loadAt 50 (.pointer (some ⟨w3.heap.size, 0, none⟩))).run Tryz.prog w' = .ok (.agg #[.int .i64 x, .int .i64 y]) w' := fun w' h =>
      ld_two (by kernel_rfl) (by kernel_rfl) ((h.row r1 (by omega) (by omega)).cell 0) ((h.row r1 (by omega) (by omega)).cell 1)
    have hI := hrd4
    refine wp_region_T [2, 4, 5, 6, 7, 8, 9] [] [true, true, false, true, false, false, false, false, false, false] 7 (Kept2 w.heap.size (w.heap.size + 1) w4) _ (by kernel_rfl) (by kernel_rfl) (fun w w' h h' => h.trans (.of_below h')) (.of_below (Below.refl _ w4).drew) (fun _ _ h => h) ?_
    refine wpStill_go (v := .slice A1 k1 c1) rfl rfl (stays_run fun w' h => ex_move rfl rfl) ?_
    simp only [Act.put, List.setIfInBounds_toArray, List.set_cons_succ, List.set_cons_zero]
    refine wpStill_go (v := .agg #[.int .i64 x, .int .i64 y]) rfl rfl (stays_run fun w' h => ex_load rfl rfl (L1 w' h)) ?_
    simp only [Act.put, List.setIfInBounds_toArray, List.set_cons_succ, List.set_cons_zero]
    refine wpStill_skip rfl ?_
    refine wpStill_go (v := .pointer (some ⟨w.heap.size + 1, 0, none⟩)) rfl rfl (stays_run fun w' h => ex_move rfl rfl) ?_
    simp only [Act.put, List.setIfInBounds_toArray, List.set_cons_succ, List.set_cons_zero]
    refine wpStill_skip rfl (wpStill_skip rfl (wpStill_skip rfl (wpStill_skip rfl (wpStill_skip rfl (wpStill_skip rfl (wpStill_nil ?_))))))
    have F : Kept2 w.heap.size (w.heap.size + 1) w4 w4.drew := .of_below (Below.refl _ w4).drew
    have hI := hI.kept (Below.refl w4.heap.size w4).drew
    have r0 := r0.kept (Below.refl w4.heap.size w4).drew
    clear L1
    refine wpTree_two (i := 2) (j := 4) (by kernel_rfl) rfl rfl rfl rfl (fun m1 hm1 K hK => ?_) (fun m1 hm1 K hK => ?_)
    · have F := F.trans (.of_below hm1)
      have r0 := r0.kept hm1
      have hI := hI.kept hm1
      go_wp2_with fail
      have lE : w.heap.size + 1 < m1.heap.size := by have := F.size; omega
      have rB := Row.new m1 3 [.int .i64 0, .int .i64 1000001]
      have bv := bA1 (w := m1) (o := .cells #[.int .i64 0, .int .i64 1000001] 3)
      have F := F.trans (.of_below bv)
      have r0 := r0.kept bv
      have hI := hI.kept bv
      refine hK _ _ (fun _ => F) ?_
      clear hK bv
      obtain ⟨E, hB⟩ : ∃ E, m1.heap.size = E := ⟨_, rfl⟩
      obtain ⟨V1, hV⟩ : ∃ V, m1.alloc (.cells #[.int .i64 0, .int .i64 1000001] 3) = V := ⟨_, rfl⟩
      rw [hV] at F rB r0 hI ⊢
      rw [hB] at rB lE ⊢
      clear hB hV
      refine wpTree_one (i := 4) (by kernel_rfl) rfl rfl (fun m2 hm2 K hK => ?_)
      have F := F.trans (.of_below hm2)
      have r0 := r0.kept hm2
      have rB := rB.kept hm2
      have hI := hI.kept hm2
      go_wp2_with fail
      refine (pick2 _ (p3 + 1) 2 _ (by omega) (by omega) hI).mono ?_
      rintro e n2 ⟨u, rfl, u0, u2, _, g5⟩
      obtain ⟨q, rfl⟩ : ∃ q : Nat, u = q := ⟨u.toNat, by omega⟩
      go_wp2_with fail
      have F := F.trans (GK g5)
      have r0 := r0.grown g5 (by simp)
      have rB := rB.grown g5 (by simp; omega)
      clear g5 hI
      refine hK _ _ (fun _ => F) ?_
      clear hK
      refine wpTree_two (i := 5) (j := 7) (by kernel_rfl) rfl rfl rfl rfl (fun m3 hm3 K hK => ?_) (fun m3 hm3 K hK => ?_)
      · have F := F.trans (.of_below hm3)
        have r0 := r0.kept hm3
        have rB := rB.kept hm3
        have hq : q < 2 := by omega
        go_wp2_with fail
        refine hK _ _ (fun _ => F) ?_
        clear hK
        refine wpTree_two (i := 6) (j := 7) (by kernel_rfl) rfl rfl rfl rfl (fun m4 hm4 K hK => ?_) (fun m4 hm4 K hK => ?_)
        · have F := F.trans (.of_below hm4)
          have r0 := r0.kept hm4
          have rB := rB.kept hm4
          obtain ⟨v, hv, hv0, hv1⟩ : ∃ v : Int, m4.cell? ⟨E, q, none⟩ = some (.int .i64 v) ∧ 0 ≤ v ∧ v ≤ 1000001 := by
            rw [rB.cell]
            have : q = 0 ∨ q = 1 := by omega
            rcases this with rfl | rfl
            · exact ⟨_, rfl, by omega, by omega⟩
            · exact ⟨_, rfl, by omega, by omega⟩
          go_wp2_with fail
          clear rB hv
          refine hK _ _ (fun _ => F) ?_
          clear hK
          refine wpTree_one (i := 7) (by kernel_rfl) rfl rfl (fun m5 hm5 K hK => ?_)
          have F := F.trans (.of_below hm5)
          have r0 := r0.kept hm5
          go_wp2_with fail
          refine hK _ _ (fun _ => F) ?_
          clear hK
          refine wpTree_one (i := 8) (by kernel_rfl) rfl rfl (fun m6 hm6 K hK => ?_)
          have F := F.trans (.of_below hm6)
          have r0 := r0.kept hm6
          obtain ⟨d0, d1, e0, e1⟩ := r0.two
          go_wp2_with fail
          clear d0 d1 e0 e1
          have F := (F.trans (.set_a 0 (.int .i64 x))).trans (.set_a 1 (.int .i64 y))
          have rA := (r0.set_ 0 (.int .i64 x)).set_ 1 (.int .i64 y)
          clear r0
          refine hK _ _ (fun _ => F) ?_
          clear hK
          refine wpTree_one (i := 9) (by kernel_rfl) rfl rfl (fun m7 hm7 K hK => ?_)
          have F := F.trans (.of_below hm7)
          have rA := rA.kept hm7
          go_wp2_with fail
          refine hK _ _ (fun _ => F) (wpTree_nil (by kernel_rfl) fun m9 hm9 => ?_)
          clear hK
          simp only [onlyN, Exit.then]
          have F := F.trans (.of_below hm9)
          have rV := rA.kept hm9
          obtain ⟨v0, v1, _, _⟩ := rV.two
          have BV := F.below B5 (Nat.le_refl _) (Nat.le_succ _) hbs
          have hA9 := hA _ F
          go_wp2_with fail
          refine bodyPost_ret (v := .tuple #[.slice A1 k1 c1, .agg #[.int .i64 x, .int .i64 y], .int .i64 v]) (by simp [results, Tryz.results38, go_sem, v0, v1]) rfl ?_
          exact ⟨A1, k1, c1, ants, x, y, v, rfl, hs, by omega, hkc, hx, hy, ⟨hv0, hv1⟩, hA9, BV⟩
        · have F := F.trans (.of_below hm4)
          have r0 := r0.kept hm4
          have rB := rB.kept hm4
          go_wp2_with fail
          refine hK _ _ (fun _ => F) ?_
          clear hK
          refine wpTree_two (i := 6) (j := 8) (by kernel_rfl) rfl rfl rfl rfl (fun m5 hm5 K hK => ?_) (fun m5 hm5 K hK => ?_)
          · have F := F.trans (.of_below hm5)
            have r0 := r0.kept hm5
            have rB := rB.kept hm5
            obtain ⟨v, hv, hv0, hv1⟩ : ∃ v : Int, m5.cell? ⟨E, q, none⟩ = some (.int .i64 v) ∧ 0 ≤ v ∧ v ≤ 1000001 := by
              rw [rB.cell]
              have : q = 0 ∨ q = 1 := by omega
              rcases this with rfl | rfl
              · exact ⟨_, rfl, by omega, by omega⟩
              · exact ⟨_, rfl, by omega, by omega⟩
            go_wp2_with fail
            clear rB hv
            refine hK _ _ (fun _ => F) ?_
            clear hK
            refine wpTree_one (i := 8) (by kernel_rfl) rfl rfl (fun m6 hm6 K hK => ?_)
            have F := F.trans (.of_below hm6)
            have r0 := r0.kept hm6
            obtain ⟨d0, d1, e0, e1⟩ := r0.two
            go_wp2_with fail
            clear d0 d1 e0 e1
            have F := (F.trans (.set_a 0 (.int .i64 x))).trans (.set_a 1 (.int .i64 y))
            have rA := (r0.set_ 0 (.int .i64 x)).set_ 1 (.int .i64 y)
            clear r0
            refine hK _ _ (fun _ => F) ?_
            clear hK
            refine wpTree_one (i := 9) (by kernel_rfl) rfl rfl (fun m7 hm7 K hK => ?_)
            have F := F.trans (.of_below hm7)
            have rA := rA.kept hm7
            go_wp2_with fail
            refine hK _ _ (fun _ => F) (wpTree_nil (by kernel_rfl) fun m9 hm9 => ?_)
            clear hK
            simp only [onlyN, Exit.then]
            have F := F.trans (.of_below hm9)
            have rV := rA.kept hm9
            obtain ⟨v0, v1, _, _⟩ := rV.two
            have BV := F.below B5 (Nat.le_refl _) (Nat.le_succ _) hbs
            have hA9 := hA _ F
            go_wp2_with fail
            refine bodyPost_ret (v := .tuple #[.slice A1 k1 c1, .agg #[.int .i64 x, .int .i64 y], .int .i64 v]) (by simp [results, Tryz.results38, go_sem, v0, v1]) rfl ?_
            exact ⟨A1, k1, c1, ants, x, y, v, rfl, hs, by omega, hkc, hx, hy, ⟨hv0, hv1⟩, hA9, BV⟩
          · have F := F.trans (.of_below hm5)
            have r0 := r0.kept hm5
            have rB := rB.kept hm5
            obtain ⟨d0, d1, e0, e1⟩ := r0.two
            go_wp2_with fail
            clear d0 d1 e0 e1
            have F := (F.trans (.set_a 0 (.int .i64 x))).trans (.set_a 1 (.int .i64 y))
            have rA := (r0.set_ 0 (.int .i64 x)).set_ 1 (.int .i64 y)
            have rB := (rB.far (p := ⟨w.heap.size, 0, none⟩) (by show E ≠ w.heap.size; omega) (.int .i64 x)).far (p := ⟨w.heap.size, 1, none⟩) (by show E ≠ w.heap.size; omega) (.int .i64 y)
            clear r0
            refine hK _ _ (fun _ => F) ?_
            clear hK
            refine wpTree_one (i := 6) (by kernel_rfl) rfl rfl (fun m6 hm6 K hK => ?_)
            have F := F.trans (.of_below hm6)
            have rA := rA.kept hm6
            have rB := rB.kept hm6
            obtain ⟨v, hv, hv0, hv1⟩ : ∃ v : Int, m6.cell? ⟨E, q, none⟩ = some (.int .i64 v) ∧ 0 ≤ v ∧ v ≤ 1000001 := by
              rw [rB.cell]
              have : q = 0 ∨ q = 1 := by omega
              rcases this with rfl | rfl
              · exact ⟨_, rfl, by omega, by omega⟩
              · exact ⟨_, rfl, by omega, by omega⟩
            go_wp2_with fail
            clear rB hv
            refine hK _ _ (fun _ => F) ?_
            clear hK
            refine wpTree_one (i := 9) (by kernel_rfl) rfl rfl (fun m7 hm7 K hK => ?_)
            have F := F.trans (.of_below hm7)
            have rA := rA.kept hm7
            go_wp2_with fail
            refine hK _ _ (fun _ => F) (wpTree_nil (by kernel_rfl) fun m9 hm9 => ?_)
            clear hK
            simp only [onlyN, Exit.then]
            have F := F.trans (.of_below hm9)
            have rV := rA.kept hm9
            obtain ⟨v0, v1, _, _⟩ := rV.two
            have BV := F.below B5 (Nat.le_refl _) (Nat.le_succ _) hbs
            have hA9 := hA _ F
            go_wp2_with fail
            refine bodyPost_ret (v := .tuple #[.slice A1 k1 c1, .agg #[.int .i64 x, .int .i64 y], .int .i64 v]) (by simp [results, Tryz.results38, go_sem, v0, v1]) rfl ?_
            exact ⟨A1, k1, c1, ants, x, y, v, rfl, hs, by omega, hkc, hx, hy, ⟨hv0, hv1⟩, hA9, BV⟩
      · have F := F.trans (.of_below hm3)
        have r0 := r0.kept hm3
        have rB := rB.kept hm3
        go_wp2_with fail
        refine hK _ _ (fun _ => F) ?_
        clear hK
        refine wpTree_two (i := 5) (j := 8) (by kernel_rfl) rfl rfl rfl rfl (fun m4 hm4 K hK => ?_) (fun m4 hm4 K hK => ?_)
        · have F := F.trans (.of_below hm4)
          have r0 := r0.kept hm4
          have rB := rB.kept hm4
          have hq : q < 2 := by omega
          go_wp2_with fail
          refine hK _ _ (fun _ => F) ?_
          clear hK
          refine wpTree_two (i := 6) (j := 8) (by kernel_rfl) rfl rfl rfl rfl (fun m5 hm5 K hK => ?_) (fun m5 hm5 K hK => ?_)
          · have F := F.trans (.of_below hm5)
            have r0 := r0.kept hm5
            have rB := rB.kept hm5
            obtain ⟨v, hv, hv0, hv1⟩ : ∃ v : Int, m5.cell? ⟨E, q, none⟩ = some (.int .i64 v) ∧ 0 ≤ v ∧ v ≤ 1000001 := by
              rw [rB.cell]
              have : q = 0 ∨ q = 1 := by omega
              rcases this with rfl | rfl
              · exact ⟨_, rfl, by omega, by omega⟩
              · exact ⟨_, rfl, by omega, by omega⟩
            go_wp2_with fail
            clear rB hv
            refine hK _ _ (fun _ => F) ?_
            clear hK
            refine wpTree_one (i := 8) (by kernel_rfl) rfl rfl (fun m6 hm6 K hK => ?_)
            have F := F.trans (.of_below hm6)
            have r0 := r0.kept hm6
            obtain ⟨d0, d1, e0, e1⟩ := r0.two
            go_wp2_with fail
            clear d0 d1 e0 e1
            have F := (F.trans (.set_a 0 (.int .i64 x))).trans (.set_a 1 (.int .i64 y))
            have rA := (r0.set_ 0 (.int .i64 x)).set_ 1 (.int .i64 y)
            clear r0
            refine hK _ _ (fun _ => F) ?_
            clear hK
            refine wpTree_one (i := 9) (by kernel_rfl) rfl rfl (fun m7 hm7 K hK => ?_)
            have F := F.trans (.of_below hm7)
            have rA := rA.kept hm7
            go_wp2_with fail
            refine hK _ _ (fun _ => F) (wpTree_nil (by kernel_rfl) fun m9 hm9 => ?_)
            clear hK
            simp only [onlyN, Exit.then]
            have F := F.trans (.of_below hm9)
            have rV := rA.kept hm9
            obtain ⟨v0, v1, _, _⟩ := rV.two
            have BV := F.below B5 (Nat.le_refl _) (Nat.le_succ _) hbs
            have hA9 := hA _ F
            go_wp2_with fail
            refine bodyPost_ret (v := .tuple #[.slice A1 k1 c1, .agg #[.int .i64 x, .int .i64 y], .int .i64 v]) (by simp [results, Tryz.results38, go_sem, v0, v1]) rfl ?_
            exact ⟨A1, k1, c1, ants, x, y, v, rfl, hs, by omega, hkc, hx, hy, ⟨hv0, hv1⟩, hA9, BV⟩
          · have F := F.trans (.of_below hm5)
            have r0 := r0.kept hm5
            have rB := rB.kept hm5
            obtain ⟨d0, d1, e0, e1⟩ := r0.two
            go_wp2_with fail
            clear d0 d1 e0 e1
            have F := (F.trans (.set_a 0 (.int .i64 x))).trans (.set_a 1 (.int .i64 y))
            have rA := (r0.set_ 0 (.int .i64 x)).set_ 1 (.int .i64 y)
            have rB := (rB.far (p := ⟨w.heap.size, 0, none⟩) (by show E ≠ w.heap.size; omega) (.int .i64 x)).far (p := ⟨w.heap.size, 1, none⟩) (by show E ≠ w.heap.size; omega) (.int .i64 y)
            clear r0
            refine hK _ _ (fun _ => F) ?_
            clear hK
            refine wpTree_one (i := 6) (by kernel_rfl) rfl rfl (fun m6 hm6 K hK => ?_)
            have F := F.trans (.of_below hm6)
            have rA := rA.kept hm6
            have rB := rB.kept hm6
            obtain ⟨v, hv, hv0, hv1⟩ : ∃ v : Int, m6.cell? ⟨E, q, none⟩ = some (.int .i64 v) ∧ 0 ≤ v ∧ v ≤ 1000001 := by
              rw [rB.cell]
              have : q = 0 ∨ q = 1 := by omega
              rcases this with rfl | rfl
              · exact ⟨_, rfl, by omega, by omega⟩
              · exact ⟨_, rfl, by omega, by omega⟩
            go_wp2_with fail
            clear rB hv
            refine hK _ _ (fun _ => F) ?_
            clear hK
            refine wpTree_one (i := 9) (by kernel_rfl) rfl rfl (fun m7 hm7 K hK => ?_)
            have F := F.trans (.of_below hm7)
            have rA := rA.kept hm7
            go_wp2_with fail
            refine hK _ _ (fun _ => F) (wpTree_nil (by kernel_rfl) fun m9 hm9 => ?_)
            clear hK
            simp only [onlyN, Exit.then]
            have F := F.trans (.of_below hm9)
            have rV := rA.kept hm9
            obtain ⟨v0, v1, _, _⟩ := rV.two
            have BV := F.below B5 (Nat.le_refl _) (Nat.le_succ _) hbs
            have hA9 := hA _ F
            go_wp2_with fail
            refine bodyPost_ret (v := .tuple #[.slice A1 k1 c1, .agg #[.int .i64 x, .int .i64 y], .int .i64 v]) (by simp [results, Tryz.results38, go_sem, v0, v1]) rfl ?_
            exact ⟨A1, k1, c1, ants, x, y, v, rfl, hs, by omega, hkc, hx, hy, ⟨hv0, hv1⟩, hA9, BV⟩
        · have F := F.trans (.of_below hm4)
          have r0 := r0.kept hm4
          have rB := rB.kept hm4
          obtain ⟨d0, d1, e0, e1⟩ := r0.two
          go_wp2_with fail
          clear d0 d1 e0 e1
          have F := (F.trans (.set_a 0 (.int .i64 x))).trans (.set_a 1 (.int .i64 y))
          have rA := (r0.set_ 0 (.int .i64 x)).set_ 1 (.int .i64 y)
          have rB := (rB.far (p := ⟨w.heap.size, 0, none⟩) (by show E ≠ w.heap.size; omega) (.int .i64 x)).far (p := ⟨w.heap.size, 1, none⟩) (by show E ≠ w.heap.size; omega) (.int .i64 y)
          clear r0
          refine hK _ _ (fun _ => F) ?_
          clear hK
          refine wpTree_one (i := 5) (by kernel_rfl) rfl rfl (fun m5 hm5 K hK => ?_)
          have F := F.trans (.of_below hm5)
          have rA := rA.kept hm5
          have rB := rB.kept hm5
          have hq : q < 2 := by omega
          go_wp2_with fail
          refine hK _ _ (fun _ => F) ?_
          clear hK
          refine wpTree_one (i := 6) (by kernel_rfl) rfl rfl (fun m6 hm6 K hK => ?_)
          have F := F.trans (.of_below hm6)
          have rA := rA.kept hm6
          have rB := rB.kept hm6
          obtain ⟨v, hv, hv0, hv1⟩ : ∃ v : Int, m6.cell? ⟨E, q, none⟩ = some (.int .i64 v) ∧ 0 ≤ v ∧ v ≤ 1000001 := by
            rw [rB.cell]
            have : q = 0 ∨ q = 1 := by omega
            rcases this with rfl | rfl
            · exact ⟨_, rfl, by omega, by omega⟩
            · exact ⟨_, rfl, by omega, by omega⟩
          go_wp2_with fail
          clear rB hv
          refine hK _ _ (fun _ => F) ?_
          clear hK
          refine wpTree_one (i := 9) (by kernel_rfl) rfl rfl (fun m7 hm7 K hK => ?_)
          have F := F.trans (.of_below hm7)
          have rA := rA.kept hm7
          go_wp2_with fail
          refine hK _ _ (fun _ => F) (wpTree_nil (by kernel_rfl) fun m9 hm9 => ?_)
          clear hK
          simp only [onlyN, Exit.then]
          have F := F.trans (.of_below hm9)
          have rV := rA.kept hm9
          obtain ⟨v0, v1, _, _⟩ := rV.two
          have BV := F.below B5 (Nat.le_refl _) (Nat.le_succ _) hbs
          have hA9 := hA _ F
          go_wp2_with fail
          refine bodyPost_ret (v := .tuple #[.slice A1 k1 c1, .agg #[.int .i64 x, .int .i64 y], .int .i64 v]) (by simp [results, Tryz.results38, go_sem, v0, v1]) rfl ?_
          exact ⟨A1, k1, c1, ants, x, y, v, rfl, hs, by omega, hkc, hx, hy, ⟨hv0, hv1⟩, hA9, BV⟩
    · have F := F.trans (.of_below hm1)
      have r0 := r0.kept hm1
      have hI := hI.kept hm1
      go_wp2_with fail
      refine (pick2 _ (p3 + 1) 2 _ (by omega) (by omega) hI).mono ?_
      rintro e n1 ⟨u, rfl, u0, u2, _, g5⟩
      obtain ⟨q, rfl⟩ : ∃ q : Nat, u = q := ⟨u.toNat, by omega⟩
      go_wp2_with fail
      have F := F.trans (GK g5)
      have r0 := r0.grown g5 (by simp)
      clear g5 hI
      refine hK _ _ (fun _ => F) ?_
      clear hK
      refine wpTree_two (i := 2) (j := 7) (by kernel_rfl) rfl rfl rfl rfl (fun m2 hm2 K hK => ?_) (fun m2 hm2 K hK => ?_)
      · have F := F.trans (.of_below hm2)
        have r0 := r0.kept hm2
        go_wp2_with fail
        have lE : w.heap.size + 1 < m2.heap.size := by have := F.size; omega
        have rB := Row.new m2 3 [.int .i64 0, .int .i64 1000001]
        have bv := bA1 (w := m2) (o := .cells #[.int .i64 0, .int .i64 1000001] 3)
        have F := F.trans (.of_below bv)
        have r0 := r0.kept bv
        refine hK _ _ (fun _ => F) ?_
        clear hK bv
        obtain ⟨E, hB⟩ : ∃ E, m2.heap.size = E := ⟨_, rfl⟩
        obtain ⟨V2, hV⟩ : ∃ V, m2.alloc (.cells #[.int .i64 0, .int .i64 1000001] 3) = V := ⟨_, rfl⟩
        rw [hV] at F rB r0 ⊢
        rw [hB] at rB lE ⊢
        clear hB hV
        refine wpTree_two (i := 5) (j := 7) (by kernel_rfl) rfl rfl rfl rfl (fun m3 hm3 K hK => ?_) (fun m3 hm3 K hK => ?_)
        · have F := F.trans (.of_below hm3)
          have r0 := r0.kept hm3
          have rB := rB.kept hm3
          have hq : q < 2 := by omega
          go_wp2_with fail
          refine hK _ _ (fun _ => F) ?_
          clear hK
          refine wpTree_two (i := 6) (j := 7) (by kernel_rfl) rfl rfl rfl rfl (fun m4 hm4 K hK => ?_) (fun m4 hm4 K hK => ?_)
          · have F := F.trans (.of_below hm4)
            have r0 := r0.kept hm4
            have rB := rB.kept hm4
            obtain ⟨v, hv, hv0, hv1⟩ : ∃ v : Int, m4.cell? ⟨E, q, none⟩ = some (.int .i64 v) ∧ 0 ≤ v ∧ v ≤ 1000001 := by
              rw [rB.cell]
              have : q = 0 ∨ q = 1 := by omega
              rcases this with rfl | rfl
              · exact ⟨_, rfl, by omega, by omega⟩
              · exact ⟨_, rfl, by omega, by omega⟩
            go_wp2_with fail
            clear rB hv
            refine hK _ _ (fun _ => F) ?_
            clear hK
            refine wpTree_one (i := 7) (by kernel_rfl) rfl rfl (fun m5 hm5 K hK => ?_)
            have F := F.trans (.of_below hm5)
            have r0 := r0.kept hm5
            go_wp2_with fail
            refine hK _ _ (fun _ => F) ?_
            clear hK
            refine wpTree_one (i := 8) (by kernel_rfl) rfl rfl (fun m6 hm6 K hK => ?_)
            have F := F.trans (.of_below hm6)
            have r0 := r0.kept hm6
            obtain ⟨d0, d1, e0, e1⟩ := r0.two
            go_wp2_with fail
            clear d0 d1 e0 e1
            have F := (F.trans (.set_a 0 (.int .i64 x))).trans (.set_a 1 (.int .i64 y))
            have rA := (r0.set_ 0 (.int .i64 x)).set_ 1 (.int .i64 y)
            clear r0
            refine hK _ _ (fun _ => F) ?_
            clear hK
            refine wpTree_one (i := 9) (by kernel_rfl) rfl rfl (fun m7 hm7 K hK => ?_)
            have F := F.trans (.of_below hm7)
            have rA := rA.kept hm7
            go_wp2_with fail
            refine hK _ _ (fun _ => F) (wpTree_nil (by kernel_rfl) fun m9 hm9 => ?_)
            clear hK
            simp only [onlyN, Exit.then]
            have F := F.trans (.of_below hm9)
            have rV := rA.kept hm9
            obtain ⟨v0, v1, _, _⟩ := rV.two
            have BV := F.below B5 (Nat.le_refl _) (Nat.le_succ _) hbs
            have hA9 := hA _ F
            go_wp2_with fail
            refine bodyPost_ret (v := .tuple #[.slice A1 k1 c1, .agg #[.int .i64 x, .int .i64 y], .int .i64 v]) (by simp [results, Tryz.results38, go_sem, v0, v1]) rfl ?_
            exact ⟨A1, k1, c1, ants, x, y, v, rfl, hs, by omega, hkc, hx, hy, ⟨hv0, hv1⟩, hA9, BV⟩
          · have F := F.trans (.of_below hm4)
            have r0 := r0.kept hm4
            have rB := rB.kept hm4
            go_wp2_with fail
            refine hK _ _ (fun _ => F) ?_
            clear hK
            refine wpTree_two (i := 6) (j := 8) (by kernel_rfl) rfl rfl rfl rfl (fun m5 hm5 K hK => ?_) (fun m5 hm5 K hK => ?_)
            · have F := F.trans (.of_below hm5)
              have r0 := r0.kept hm5
              have rB := rB.kept hm5
              obtain ⟨v, hv, hv0, hv1⟩ : ∃ v : Int, m5.cell? ⟨E, q, none⟩ = some (.int .i64 v) ∧ 0 ≤ v ∧ v ≤ 1000001 := by
                rw [rB.cell]
                have : q = 0 ∨ q = 1 := by omega
                rcases this with rfl | rfl
                · exact ⟨_, rfl, by omega, by omega⟩
                · exact ⟨_, rfl, by omega, by omega⟩
              go_wp2_with fail
              clear rB hv
              refine hK _ _ (fun _ => F) ?_
              clear hK
              refine wpTree_one (i := 8) (by kernel_rfl) rfl rfl (fun m6 hm6 K hK => ?_)
              have F := F.trans (.of_below hm6)
              have r0 := r0.kept hm6
              obtain ⟨d0, d1, e0, e1⟩ := r0.two
              go_wp2_with fail
              clear d0 d1 e0 e1
              have F := (F.trans (.set_a 0 (.int .i64 x))).trans (.set_a 1 (.int .i64 y))
              have rA := (r0.set_ 0 (.int .i64 x)).set_ 1 (.int .i64 y)
              clear r0
              refine hK _ _ (fun _ => F) ?_
              clear hK
              refine wpTree_one (i := 9) (by kernel_rfl) rfl rfl (fun m7 hm7 K hK => ?_)
              have F := F.trans (.of_below hm7)
              have rA := rA.kept hm7
              go_wp2_with fail
              refine hK _ _ (fun _ => F) (wpTree_nil (by kernel_rfl) fun m9 hm9 => ?_)
              clear hK
              simp only [onlyN, Exit.then]
              have F := F.trans (.of_below hm9)
              have rV := rA.kept hm9
              obtain ⟨v0, v1, _, _⟩ := rV.two
              have BV := F.below B5 (Nat.le_refl _) (Nat.le_succ _) hbs
              have hA9 := hA _ F
              go_wp2_with fail
              refine bodyPost_ret (v := .tuple #[.slice A1 k1 c1, .agg #[.int .i64 x, .int .i64 y], .int .i64 v]) (by simp [results, Tryz.results38, go_sem, v0, v1]) rfl ?_
              exact ⟨A1, k1, c1, ants, x, y, v, rfl, hs, by omega, hkc, hx, hy, ⟨hv0, hv1⟩, hA9, BV⟩
            · have F := F.trans (.of_below hm5)
              have r0 := r0.kept hm5
              have rB := rB.kept hm5
              obtain ⟨d0, d1, e0, e1⟩ := r0.two
              go_wp2_with fail
              clear d0 d1 e0 e1
              have F := (F.trans (.set_a 0 (.int .i64 x))).trans (.set_a 1 (.int .i64 y))
              have rA := (r0.set_ 0 (.int .i64 x)).set_ 1 (.int .i64 y)
              have rB := (rB.far (p := ⟨w.heap.size, 0, none⟩) (by show E ≠ w.heap.size; omega) (.int .i64 x)).far (p := ⟨w.heap.size, 1, none⟩) (by show E ≠ w.heap.size; omega) (.int .i64 y)
              clear r0
              refine hK _ _ (fun _ => F) ?_
              clear hK
              refine wpTree_one (i := 6) (by kernel_rfl) rfl rfl (fun m6 hm6 K hK => ?_)
              have F := F.trans (.of_below hm6)
              have rA := rA.kept hm6
              have rB := rB.kept hm6
              obtain ⟨v, hv, hv0, hv1⟩ : ∃ v : Int, m6.cell? ⟨E, q, none⟩ = some (.int .i64 v) ∧ 0 ≤ v ∧ v ≤ 1000001 := by
                rw [rB.cell]
                have : q = 0 ∨ q = 1 := by omega
                rcases this with rfl | rfl
                · exact ⟨_, rfl, by omega, by omega⟩
                · exact ⟨_, rfl, by omega, by omega⟩
              go_wp2_with fail
              clear rB hv
              refine hK _ _ (fun _ => F) ?_
              clear hK
              refine wpTree_one (i := 9) (by kernel_rfl) rfl rfl (fun m7 hm7 K hK => ?_)
              have F := F.trans (.of_below hm7)
              have rA := rA.kept hm7
              go_wp2_with fail
              refine hK _ _ (fun _ => F) (wpTree_nil (by kernel_rfl) fun m9 hm9 => ?_)
              clear hK
              simp only [onlyN, Exit.then]
              have F := F.trans (.of_below hm9)
              have rV := rA.kept hm9
              obtain ⟨v0, v1, _, _⟩ := rV.two
              have BV := F.below B5 (Nat.le_refl _) (Nat.le_succ _) hbs
              have hA9 := hA _ F
              go_wp2_with fail
              refine bodyPost_ret (v := .tuple #[.slice A1 k1 c1, .agg #[.int .i64 x, .int .i64 y], .int .i64 v]) (by simp [results, Tryz.results38, go_sem, v0, v1]) rfl ?_
              exact ⟨A1, k1, c1, ants, x, y, v, rfl, hs, by omega, hkc, hx, hy, ⟨hv0, hv1⟩, hA9, BV⟩
        · have F := F.trans (.of_below hm3)
          have r0 := r0.kept hm3
          have rB := rB.kept hm3
          go_wp2_with fail
          refine hK _ _ (fun _ => F) ?_
          clear hK
          refine wpTree_two (i := 5) (j := 8) (by kernel_rfl) rfl rfl rfl rfl (fun m4 hm4 K hK => ?_) (fun m4 hm4 K hK => ?_)
          · have F := F.trans (.of_below hm4)
            have r0 := r0.kept hm4
            have rB := rB.kept hm4
            have hq : q < 2 := by omega
            go_wp2_with fail
            refine hK _ _ (fun _ => F) ?_
            clear hK
            refine wpTree_two (i := 6) (j := 8) (by kernel_rfl) rfl rfl rfl rfl (fun m5 hm5 K hK => ?_) (fun m5 hm5 K hK => ?_)
            · have F := F.trans (.of_below hm5)
              have r0 := r0.kept hm5
              have rB := rB.kept hm5
              obtain ⟨v, hv, hv0, hv1⟩ : ∃ v : Int, m5.cell? ⟨E, q, none⟩ = some (.int .i64 v) ∧ 0 ≤ v ∧ v ≤ 1000001 := by
                rw [rB.cell]
                have : q = 0 ∨ q = 1 := by omega
                rcases this with rfl | rfl
                · exact ⟨_, rfl, by omega, by omega⟩
                · exact ⟨_, rfl, by omega, by omega⟩
              go_wp2_with fail
              clear rB hv
              refine hK _ _ (fun _ => F) ?_
              clear hK
              refine wpTree_one (i := 8) (by kernel_rfl) rfl rfl (fun m6 hm6 K hK => ?_)
              have F := F.trans (.of_below hm6)
              have r0 := r0.kept hm6
              obtain ⟨d0, d1, e0, e1⟩ := r0.two
              go_wp2_with fail
              clear d0 d1 e0 e1
              have F := (F.trans (.set_a 0 (.int .i64 x))).trans (.set_a 1 (.int .i64 y))
              have rA := (r0.set_ 0 (.int .i64 x)).set_ 1 (.int .i64 y)
              clear r0
              refine hK _ _ (fun _ => F) ?_
              clear hK
              refine wpTree_one (i := 9) (by kernel_rfl) rfl rfl (fun m7 hm7 K hK => ?_)
              have F := F.trans (.of_below hm7)
              have rA := rA.kept hm7
              go_wp2_with fail
              refine hK _ _ (fun _ => F) (wpTree_nil (by kernel_rfl) fun m9 hm9 => ?_)
              clear hK
              simp only [onlyN, Exit.then]
              have F := F.trans (.of_below hm9)
              have rV := rA.kept hm9
              obtain ⟨v0, v1, _, _⟩ := rV.two
              have BV := F.below B5 (Nat.le_refl _) (Nat.le_succ _) hbs
              have hA9 := hA _ F
              go_wp2_with fail
              refine bodyPost_ret (v := .tuple #[.slice A1 k1 c1, .agg #[.int .i64 x, .int .i64 y], .int .i64 v]) (by simp [results, Tryz.results38, go_sem, v0, v1]) rfl ?_
              exact ⟨A1, k1, c1, ants, x, y, v, rfl, hs, by omega, hkc, hx, hy, ⟨hv0, hv1⟩, hA9, BV⟩
            · have F := F.trans (.of_below hm5)
              have r0 := r0.kept hm5
              have rB := rB.kept hm5
              obtain ⟨d0, d1, e0, e1⟩ := r0.two
              go_wp2_with fail
              clear d0 d1 e0 e1
              have F := (F.trans (.set_a 0 (.int .i64 x))).trans (.set_a 1 (.int .i64 y))
              have rA := (r0.set_ 0 (.int .i64 x)).set_ 1 (.int .i64 y)
              have rB := (rB.far (p := ⟨w.heap.size, 0, none⟩) (by show E ≠ w.heap.size; omega) (.int .i64 x)).far (p := ⟨w.heap.size, 1, none⟩) (by show E ≠ w.heap.size; omega) (.int .i64 y)
              clear r0
              refine hK _ _ (fun _ => F) ?_
              clear hK
              refine wpTree_one (i := 6) (by kernel_rfl) rfl rfl (fun m6 hm6 K hK => ?_)
              have F := F.trans (.of_below hm6)
              have rA := rA.kept hm6
              have rB := rB.kept hm6
              obtain ⟨v, hv, hv0, hv1⟩ : ∃ v : Int, m6.cell? ⟨E, q, none⟩ = some (.int .i64 v) ∧ 0 ≤ v ∧ v ≤ 1000001 := by
                rw [rB.cell]
                have : q = 0 ∨ q = 1 := by omega
                rcases this with rfl | rfl
                · exact ⟨_, rfl, by omega, by omega⟩
                · exact ⟨_, rfl, by omega, by omega⟩
              go_wp2_with fail
              clear rB hv
              refine hK _ _ (fun _ => F) ?_
              clear hK
              refine wpTree_one (i := 9) (by kernel_rfl) rfl rfl (fun m7 hm7 K hK => ?_)
              have F := F.trans (.of_below hm7)
              have rA := rA.kept hm7
              go_wp2_with fail
              refine hK _ _ (fun _ => F) (wpTree_nil (by kernel_rfl) fun m9 hm9 => ?_)
              clear hK
              simp only [onlyN, Exit.then]
              have F := F.trans (.of_below hm9)
              have rV := rA.kept hm9
              obtain ⟨v0, v1, _, _⟩ := rV.two
              have BV := F.below B5 (Nat.le_refl _) (Nat.le_succ _) hbs
              have hA9 := hA _ F
              go_wp2_with fail
              refine bodyPost_ret (v := .tuple #[.slice A1 k1 c1, .agg #[.int .i64 x, .int .i64 y], .int .i64 v]) (by simp [results, Tryz.results38, go_sem, v0, v1]) rfl ?_
              exact ⟨A1, k1, c1, ants, x, y, v, rfl, hs, by omega, hkc, hx, hy, ⟨hv0, hv1⟩, hA9, BV⟩
          · have F := F.trans (.of_below hm4)
            have r0 := r0.kept hm4
            have rB := rB.kept hm4
            obtain ⟨d0, d1, e0, e1⟩ := r0.two
            go_wp2_with fail
            clear d0 d1 e0 e1
            have F := (F.trans (.set_a 0 (.int .i64 x))).trans (.set_a 1 (.int .i64 y))
            have rA := (r0.set_ 0 (.int .i64 x)).set_ 1 (.int .i64 y)
            have rB := (rB.far (p := ⟨w.heap.size, 0, none⟩) (by show E ≠ w.heap.size; omega) (.int .i64 x)).far (p := ⟨w.heap.size, 1, none⟩) (by show E ≠ w.heap.size; omega) (.int .i64 y)
            clear r0
            refine hK _ _ (fun _ => F) ?_
            clear hK
            refine wpTree_one (i := 5) (by kernel_rfl) rfl rfl (fun m5 hm5 K hK => ?_)
            have F := F.trans (.of_below hm5)
            have rA := rA.kept hm5
            have rB := rB.kept hm5
            have hq : q < 2 := by omega
            go_wp2_with fail
            refine hK _ _ (fun _ => F) ?_
            clear hK
            refine wpTree_one (i := 6) (by kernel_rfl) rfl rfl (fun m6 hm6 K hK => ?_)
            have F := F.trans (.of_below hm6)
            have rA := rA.kept hm6
            have rB := rB.kept hm6
            obtain ⟨v, hv, hv0, hv1⟩ : ∃ v : Int, m6.cell? ⟨E, q, none⟩ = some (.int .i64 v) ∧ 0 ≤ v ∧ v ≤ 1000001 := by
              rw [rB.cell]
              have : q = 0 ∨ q = 1 := by omega
              rcases this with rfl | rfl
              · exact ⟨_, rfl, by omega, by omega⟩
              · exact ⟨_, rfl, by omega, by omega⟩
            go_wp2_with fail
            clear rB hv
            refine hK _ _ (fun _ => F) ?_
            clear hK
            refine wpTree_one (i := 9) (by kernel_rfl) rfl rfl (fun m7 hm7 K hK => ?_)
            have F := F.trans (.of_below hm7)
            have rA := rA.kept hm7
            go_wp2_with fail
            refine hK _ _ (fun _ => F) (wpTree_nil (by kernel_rfl) fun m9 hm9 => ?_)
            clear hK
            simp only [onlyN, Exit.then]
            have F := F.trans (.of_below hm9)
            have rV := rA.kept hm9
            obtain ⟨v0, v1, _, _⟩ := rV.two
            have BV := F.below B5 (Nat.le_refl _) (Nat.le_succ _) hbs
            have hA9 := hA _ F
            go_wp2_with fail
            refine bodyPost_ret (v := .tuple #[.slice A1 k1 c1, .agg #[.int .i64 x, .int .i64 y], .int .i64 v]) (by simp [results, Tryz.results38, go_sem, v0, v1]) rfl ?_
            exact ⟨A1, k1, c1, ants, x, y, v, rfl, hs, by omega, hkc, hx, hy, ⟨hv0, hv1⟩, hA9, BV⟩
      · have F := F.trans (.of_below hm2)
        have r0 := r0.kept hm2
        go_wp2_with fail
        refine hK _ _ (fun _ => F) ?_
        clear hK
        refine wpTree_two (i := 2) (j := 8) (by kernel_rfl) rfl rfl rfl rfl (fun m3 hm3 K hK => ?_) (fun m3 hm3 K hK => ?_)
        · have F := F.trans (.of_below hm3)
          have r0 := r0.kept hm3
          go_wp2_with fail
          have lE : w.heap.size + 1 < m3.heap.size := by have := F.size; omega
          have rB := Row.new m3 3 [.int .i64 0, .int .i64 1000001]
          have bv := bA1 (w := m3) (o := .cells #[.int .i64 0, .int .i64 1000001] 3)
          have F := F.trans (.of_below bv)
          have r0 := r0.kept bv
          refine hK _ _ (fun _ => F) ?_
          clear hK bv
          obtain ⟨E, hB⟩ : ∃ E, m3.heap.size = E := ⟨_, rfl⟩
          obtain ⟨V3, hV⟩ : ∃ V, m3.alloc (.cells #[.int .i64 0, .int .i64 1000001] 3) = V := ⟨_, rfl⟩
          rw [hV] at F rB r0 ⊢
          rw [hB] at rB lE ⊢
          clear hB hV
          refine wpTree_two (i := 5) (j := 8) (by kernel_rfl) rfl rfl rfl rfl (fun m4 hm4 K hK => ?_) (fun m4 hm4 K hK => ?_)
          · have F := F.trans (.of_below hm4)
            have r0 := r0.kept hm4
            have rB := rB.kept hm4
            have hq : q < 2 := by omega
            go_wp2_with fail
            refine hK _ _ (fun _ => F) ?_
            clear hK
            refine wpTree_two (i := 6) (j := 8) (by kernel_rfl) rfl rfl rfl rfl (fun m5 hm5 K hK => ?_) (fun m5 hm5 K hK => ?_)
            · have F := F.trans (.of_below hm5)
              have r0 := r0.kept hm5
              have rB := rB.kept hm5
              obtain ⟨v, hv, hv0, hv1⟩ : ∃ v : Int, m5.cell? ⟨E, q, none⟩ = some (.int .i64 v) ∧ 0 ≤ v ∧ v ≤ 1000001 := by
                rw [rB.cell]
                have : q = 0 ∨ q = 1 := by omega
                rcases this with rfl | rfl
                · exact ⟨_, rfl, by omega, by omega⟩
                · exact ⟨_, rfl, by omega, by omega⟩
              go_wp2_with fail
              clear rB hv
              refine hK _ _ (fun _ => F) ?_
              clear hK
              refine wpTree_one (i := 8) (by kernel_rfl) rfl rfl (fun m6 hm6 K hK => ?_)
              have F := F.trans (.of_below hm6)
              have r0 := r0.kept hm6
              obtain ⟨d0, d1, e0, e1⟩ := r0.two
              go_wp2_with fail
              clear d0 d1 e0 e1
              have F := (F.trans (.set_a 0 (.int .i64 x))).trans (.set_a 1 (.int .i64 y))
              have rA := (r0.set_ 0 (.int .i64 x)).set_ 1 (.int .i64 y)
              clear r0
              refine hK _ _ (fun _ => F) ?_
              clear hK
              refine wpTree_one (i := 9) (by kernel_rfl) rfl rfl (fun m7 hm7 K hK => ?_)
              have F := F.trans (.of_below hm7)
              have rA := rA.kept hm7
              go_wp2_with fail
              refine hK _ _ (fun _ => F) (wpTree_nil (by kernel_rfl) fun m9 hm9 => ?_)
              clear hK
              simp only [onlyN, Exit.then]
              have F := F.trans (.of_below hm9)
              have rV := rA.kept hm9
              obtain ⟨v0, v1, _, _⟩ := rV.two
              have BV := F.below B5 (Nat.le_refl _) (Nat.le_succ _) hbs
              have hA9 := hA _ F
              go_wp2_with fail
              refine bodyPost_ret (v := .tuple #[.slice A1 k1 c1, .agg #[.int .i64 x, .int .i64 y], .int .i64 v]) (by simp [results, Tryz.results38, go_sem, v0, v1]) rfl ?_
              exact ⟨A1, k1, c1, ants, x, y, v, rfl, hs, by omega, hkc, hx, hy, ⟨hv0, hv1⟩, hA9, BV⟩
            · have F := F.trans (.of_below hm5)
              have r0 := r0.kept hm5
              have rB := rB.kept hm5
              obtain ⟨d0, d1, e0, e1⟩ := r0.two
              go_wp2_with fail
              clear d0 d1 e0 e1
              have F := (F.trans (.set_a 0 (.int .i64 x))).trans (.set_a 1 (.int .i64 y))
              have rA := (r0.set_ 0 (.int .i64 x)).set_ 1 (.int .i64 y)
              have rB := (rB.far (p := ⟨w.heap.size, 0, none⟩) (by show E ≠ w.heap.size; omega) (.int .i64 x)).far (p := ⟨w.heap.size, 1, none⟩) (by show E ≠ w.heap.size; omega) (.int .i64 y)
              clear r0
              refine hK _ _ (fun _ => F) ?_
              clear hK
              refine wpTree_one (i := 6) (by kernel_rfl) rfl rfl (fun m6 hm6 K hK => ?_)
              have F := F.trans (.of_below hm6)
              have rA := rA.kept hm6
              have rB := rB.kept hm6
              obtain ⟨v, hv, hv0, hv1⟩ : ∃ v : Int, m6.cell? ⟨E, q, none⟩ = some (.int .i64 v) ∧ 0 ≤ v ∧ v ≤ 1000001 := by
                rw [rB.cell]
                have : q = 0 ∨ q = 1 := by omega
                rcases this with rfl | rfl
                · exact ⟨_, rfl, by omega, by omega⟩
                · exact ⟨_, rfl, by omega, by omega⟩
              go_wp2_with fail
              clear rB hv
              refine hK _ _ (fun _ => F) ?_
              clear hK
              refine wpTree_one (i := 9) (by kernel_rfl) rfl rfl (fun m7 hm7 K hK => ?_)
              have F := F.trans (.of_below hm7)
              have rA := rA.kept hm7
              go_wp2_with fail
              refine hK _ _ (fun _ => F) (wpTree_nil (by kernel_rfl) fun m9 hm9 => ?_)
              clear hK
              simp only [onlyN, Exit.then]
              have F := F.trans (.of_below hm9)
              have rV := rA.kept hm9
              obtain ⟨v0, v1, _, _⟩ := rV.two
              have BV := F.below B5 (Nat.le_refl _) (Nat.le_succ _) hbs
              have hA9 := hA _ F
              go_wp2_with fail
              refine bodyPost_ret (v := .tuple #[.slice A1 k1 c1, .agg #[.int .i64 x, .int .i64 y], .int .i64 v]) (by simp [results, Tryz.results38, go_sem, v0, v1]) rfl ?_
              exact ⟨A1, k1, c1, ants, x, y, v, rfl, hs, by omega, hkc, hx, hy, ⟨hv0, hv1⟩, hA9, BV⟩
          · have F := F.trans (.of_below hm4)
            have r0 := r0.kept hm4
            have rB := rB.kept hm4
            obtain ⟨d0, d1, e0, e1⟩ := r0.two
            go_wp2_with fail
            clear d0 d1 e0 e1
            have F := (F.trans (.set_a 0 (.int .i64 x))).trans (.set_a 1 (.int .i64 y))
            have rA := (r0.set_ 0 (.int .i64 x)).set_ 1 (.int .i64 y)
            have rB := (rB.far (p := ⟨w.heap.size, 0, none⟩) (by show E ≠ w.heap.size; omega) (.int .i64 x)).far (p := ⟨w.heap.size, 1, none⟩) (by show E ≠ w.heap.size; omega) (.int .i64 y)
            clear r0
            refine hK _ _ (fun _ => F) ?_
            clear hK
            refine wpTree_one (i := 5) (by kernel_rfl) rfl rfl (fun m5 hm5 K hK => ?_)
            have F := F.trans (.of_below hm5)
            have rA := rA.kept hm5
            have rB := rB.kept hm5
            have hq : q < 2 := by omega
            go_wp2_with fail
            refine hK _ _ (fun _ => F) ?_
            clear hK
            refine wpTree_one (i := 6) (by kernel_rfl) rfl rfl (fun m6 hm6 K hK => ?_)
            have F := F.trans (.of_below hm6)
            have rA := rA.kept hm6
            have rB := rB.kept hm6
            obtain ⟨v, hv, hv0, hv1⟩ : ∃ v : Int, m6.cell? ⟨E, q, none⟩ = some (.int .i64 v) ∧ 0 ≤ v ∧ v ≤ 1000001 := by
              rw [rB.cell]
              have : q = 0 ∨ q = 1 := by omega
              rcases this with rfl | rfl
              · exact ⟨_, rfl, by omega, by omega⟩
              · exact ⟨_, rfl, by omega, by omega⟩
            go_wp2_with fail
            clear rB hv
            refine hK _ _ (fun _ => F) ?_
            clear hK
            refine wpTree_one (i := 9) (by kernel_rfl) rfl rfl (fun m7 hm7 K hK => ?_)
            have F := F.trans (.of_below hm7)
            have rA := rA.kept hm7
            go_wp2_with fail
            refine hK _ _ (fun _ => F) (wpTree_nil (by kernel_rfl) fun m9 hm9 => ?_)
            clear hK
            simp only [onlyN, Exit.then]
            have F := F.trans (.of_below hm9)
            have rV := rA.kept hm9
            obtain ⟨v0, v1, _, _⟩ := rV.two
            have BV := F.below B5 (Nat.le_refl _) (Nat.le_succ _) hbs
            have hA9 := hA _ F
            go_wp2_with fail
            refine bodyPost_ret (v := .tuple #[.slice A1 k1 c1, .agg #[.int .i64 x, .int .i64 y], .int .i64 v]) (by simp [results, Tryz.results38, go_sem, v0, v1]) rfl ?_
            exact ⟨A1, k1, c1, ants, x, y, v, rfl, hs, by omega, hkc, hx, hy, ⟨hv0, hv1⟩, hA9, BV⟩
        · have F := F.trans (.of_below hm3)
          have r0 := r0.kept hm3
          obtain ⟨d0, d1, e0, e1⟩ := r0.two
          go_wp2_with fail
          clear d0 d1 e0 e1
          have F := (F.trans (.set_a 0 (.int .i64 x))).trans (.set_a 1 (.int .i64 y))
          have rA := (r0.set_ 0 (.int .i64 x)).set_ 1 (.int .i64 y)
          clear r0
          refine hK _ _ (fun _ => F) ?_
          clear hK
          refine wpTree_one (i := 2) (by kernel_rfl) rfl rfl (fun m4 hm4 K hK => ?_)
          have F := F.trans (.of_below hm4)
          have rA := rA.kept hm4
          go_wp2_with fail
          have lE : w.heap.size + 1 < m4.heap.size := by have := F.size; omega
          have rB := Row.new m4 3 [.int .i64 0, .int .i64 1000001]
          have bv := bA1 (w := m4) (o := .cells #[.int .i64 0, .int .i64 1000001] 3)
          have F := F.trans (.of_below bv)
          have rA := rA.kept bv
          refine hK _ _ (fun _ => F) ?_
          clear hK bv
          obtain ⟨E, hB⟩ : ∃ E, m4.heap.size = E := ⟨_, rfl⟩
          obtain ⟨V4, hV⟩ : ∃ V, m4.alloc (.cells #[.int .i64 0, .int .i64 1000001] 3) = V := ⟨_, rfl⟩
          rw [hV] at F rB rA ⊢
          rw [hB] at rB lE ⊢
          clear hB hV
          refine wpTree_one (i := 5) (by kernel_rfl) rfl rfl (fun m5 hm5 K hK => ?_)
          have F := F.trans (.of_below hm5)
          have rA := rA.kept hm5
          have rB := rB.kept hm5
          have hq : q < 2 := by omega
          go_wp2_with fail
          refine hK _ _ (fun _ => F) ?_
          clear hK
          refine wpTree_one (i := 6) (by kernel_rfl) rfl rfl (fun m6 hm6 K hK => ?_)
          have F := F.trans (.of_below hm6)
          have rA := rA.kept hm6
          have rB := rB.kept hm6
          obtain ⟨v, hv, hv0, hv1⟩ : ∃ v : Int, m6.cell? ⟨E, q, none⟩ = some (.int .i64 v) ∧ 0 ≤ v ∧ v ≤ 1000001 := by
            rw [rB.cell]
            have : q = 0 ∨ q = 1 := by omega
            rcases this with rfl | rfl
            · exact ⟨_, rfl, by omega, by omega⟩
            · exact ⟨_, rfl, by omega, by omega⟩
          go_wp2_with fail
          clear rB hv
          refine hK _ _ (fun _ => F) ?_
          clear hK
          refine wpTree_one (i := 9) (by kernel_rfl) rfl rfl (fun m7 hm7 K hK => ?_)
          have F := F.trans (.of_below hm7)
          have rA := rA.kept hm7
          go_wp2_with fail
          refine hK _ _ (fun _ => F) (wpTree_nil (by kernel_rfl) fun m9 hm9 => ?_)
          clear hK
          simp only [onlyN, Exit.then]
          have F := F.trans (.of_below hm9)
          have rV := rA.kept hm9
          obtain ⟨v0, v1, _, _⟩ := rV.two
          have BV := F.below B5 (Nat.le_refl _) (Nat.le_succ _) hbs
          have hA9 := hA _ F
          go_wp2_with fail
          refine bodyPost_ret (v := .tuple #[.slice A1 k1 c1, .agg #[.int .i64 x, .int .i64 y], .int .i64 v]) (by simp [results, Tryz.results38, go_sem, v0, v1]) rfl ?_
          exact ⟨A1, k1, c1, ants, x, y, v, rfl, hs, by omega, hkc, hx, hy, ⟨hv0, hv1⟩, hA9, BV⟩
  · have hzI : (z == 0) = false := beq_eq_false_iff_ne.2 hz
    have HzI := Lib.hid hzI; clear hzI
    go_wp2_with fail
    have GK : ∀ {X Y : World}, X.grownBy Y (some (w.heap.size + 1)) → Kept2 w.heap.size (w.heap.size + 1) X Y := fun h => ⟨h.os, h.tape, h.output, h.size, fun j hj _ h2 => h.block j hj (fun e => h2 (by injection e))⟩
    have L1 : ∀ w', Kept2 w.heap.size (w.heap.size + 1) w4 w' → (Instr.loadAt 50 (.pointer (some ⟨w3.heap.size, 0, none⟩))).run Tryz.prog w' = .ok (.agg #[.int .i64 x, .int .i64 y]) w' := fun w' h =>
      ld_two (by kernel_rfl) (by kernel_rfl) ((h.row r1 (by omega) (by omega)).cell 0) ((h.row r1 (by omega) (by omega)).cell 1)
    refine wp_region_M [3, 6] (Kept2 w.heap.size (w.heap.size + 1) w4) (by kernel_rfl) (by kernel_rfl) (fun w w' h h' => h.trans (.of_below h')) (.of_below (Below.refl _ w4).drew) ?_
    obtain ⟨sp, hsp⟩ : ∃ sp : Nat → Bool, (fun i => [3, 6].contains i) = sp := ⟨_, rfl⟩
    rw [hsp]
    have HSP := Lib.hid hsp
    clear hsp
    refine wpMix_go (v := .slice A1 k1 c1) (by rw [← HSP.out]; rfl) rfl (stays_run fun w' h => ex_move rfl rfl) ?_
    simp only [Act.put, List.setIfInBounds_toArray, List.set_cons_succ, List.set_cons_zero, Nat.reduceAdd]
    refine wpMix_go (v := .agg #[.int .i64 x, .int .i64 y]) (by rw [← HSP.out]; rfl) rfl (stays_run fun w' h => ex_load rfl rfl (L1 w' h)) ?_
    simp only [Act.put, List.setIfInBounds_toArray, List.set_cons_succ, List.set_cons_zero, Nat.reduceAdd]
    refine wpMix_go (v := .pointer (some ⟨w.heap.size + 1, 0, none⟩)) (by rw [← HSP.out]; rfl) rfl (stays_run fun w' h => ex_move rfl rfl) ?_
    simp only [Act.put, List.setIfInBounds_toArray, List.set_cons_succ, List.set_cons_zero, Nat.reduceAdd]
    refine wpMix_mark (by rw [← HSP.out]; rfl) fun m1 hm1 K1 hK1 => ?_
    have E1 := (Below.refl w4.heap.size w4).drew.trans hm1
    go_wp2_with fail
    refine (pick2 _ (p3 + 1) 50 _ (by omega) (by omega) (hrd4.kept E1)).mono ?_
    rintro e m2 ⟨u, rfl, u0, u50, hrd5, g5⟩
    go_wp2_with fail
    have k2 := (Kept2.of_below (a := w.heap.size) (b := w.heap.size + 1) E1).trans (GK g5)
    refine hK1 _ _ k2 ?_
    have r02 := ((r0.kept E1).grown g5 (by simp))
    have j1 : IntKind.i64.wrap (1 + u) = 1 + u := IntWalk.i64_in _ (by omega)
    clear hK1 hm1 L1
    have J1 := Lib.hid j1; clear j1
    refine wpMix_go (v := .int .i64 (1 + u)) (by rw [← HSP.out]; rfl) rfl (stays_run fun w' h => by simp [go_sem, J1.out]) ?_
    simp only [Act.put, List.setIfInBounds_toArray, List.set_cons_succ, List.set_cons_zero, Nat.reduceAdd]
    refine wpMix_go (v := .slice A1 k1 c1) (by rw [← HSP.out]; rfl) rfl (stays_run fun w' h => by simp [go_sem]) ?_
    simp only [Act.put, List.setIfInBounds_toArray, List.set_cons_succ, List.set_cons_zero, Nat.reduceAdd]
    refine wpMix_mark (by rw [← HSP.out]; rfl) fun m3 hm3 K3 hK3 => ?_
    have r03 := r02.kept hm3
    obtain ⟨d0, d1, e0, e1⟩ := r03.two
    go_wp2_with fail
    have k3 := ((k2.trans (.of_below hm3)).trans (.set_a 0 (.int .i64 x))).trans (.set_a 1 (.int .i64 y))
    refine hK3 _ _ k3 ?_
    have r04 := (r03.set_ 0 (.int .i64 x)).set_ 1 (.int .i64 y)
    clear hK3 d0 d1 e0 e1
    refine wpMix_go (v := .int .i64 (1 + u)) (by rw [← HSP.out]; rfl) rfl (stays_run fun w' h => by simp [go_sem]) ?_
    simp only [Act.put, List.setIfInBounds_toArray, List.set_cons_succ, List.set_cons_zero, Nat.reduceAdd]
    refine wpMix_nil fun V hV => ?_
    simp only [onlyN, Exit.then]
    have kV := k3.trans (.of_below hV)
    have rV := r04.kept hV
    obtain ⟨v0, v1, _, _⟩ := rV.two
    have BV := kV.below B5 (Nat.le_refl _) (Nat.le_succ _) hbs
    have hA9 := hA V kV
    go_wp2_with fail
    refine bodyPost_ret (v := .tuple #[.slice A1 k1 c1, .agg #[.int .i64 x, .int .i64 y], .int .i64 (1 + u)]) (by simp [results, Tryz.results38, go_sem, v0, v1]) rfl ?_
    exact ⟨A1, k1, c1, ants, x, y, 1 + u, rfl, hs, by omega, hkc, hx, hy, by omega, hA9, BV⟩
end Go.Proofs.YtipgpafgampfbaaGreatDoor
