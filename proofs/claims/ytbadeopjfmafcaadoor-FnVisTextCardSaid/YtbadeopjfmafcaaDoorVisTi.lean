/- Visibilities' text: the program's VisText. -/
import Derived.Test.YtbadeopjfmafcaaDoorVisTs
import Derived.Test.YtbadeopjfmafcaaDoorBuild
import Derived.Test.YtbadeopjfmafcaaDoorTurn
import Derived.Shelf.Strings.BuilderK
namespace Go.Proofs.YtbadeopjfmafcaaDoor
open Go.RowKit Go.Shelf
attribute [local go_sem] Oper.semAt_some

theorem IsB.keptO {B b : Nat} {bs : List Value} {X Y : World} {row : Option Nat} (h : IsB B b bs X) (hg : X.grownBy Y row) (hrow : ∀ r, row = some r → ∃ o : Obj, X.heap[r]? = some o ∧ o.isCells = false) : IsB B b bs Y := by
  have key : ∀ p, Lib.BuilderAt 55 5 B b p bs X → Lib.BuilderAt 55 5 B b p bs Y := fun p hp => by
    have hlt := Lib.BuilderAt.lt hp
    obtain ⟨h1, v, h2, h3, h4⟩ := hp
    refine ⟨h1, v, (hg.block b hlt fun e => ?_).trans h2, own_over h3 hg fun j hj e => ?_, h4⟩
    · obtain ⟨o, ho, hc⟩ := hrow b e.symm
      rw [h2] at ho
      injection ho with ho
      subst ho
      cases hc
    · obtain ⟨o, ho, hc⟩ := hrow j e
      obtain ⟨_, _, cs, fr, h5⟩ := own_lt h3 hj
      rw [h5] at ho
      injection ho with ho
      subst ho
      cases hc
  exact h.imp (key _) (key _)
theorem bString_k (B b : Nat) (l : List UInt8) (w : World) (h : IsB B b (Lib.byteCells l) w) (hBw : B ≤ w.heap.size) :
    Calls Tryd.prog 44 #[.pointer (some ⟨b, 0, none⟩)] w fun e w' => e = .returned (.string ⟨l.toArray⟩) ∧ Below B w w' ∧ Lib.OthersKept 5 (some b) w w' :=
  (Any.Builder_String_any_k bLays bExtra B b l w (Lib.IsBuilderF.of h) hBw).mono fun _ _ ⟨h1, _, h2, h3⟩ => ⟨h1, h2, h3⟩
theorem IsB.heap {B b : Nat} {bs : List Value} {w : World} (h : IsB B b bs w) : ∃ cs, w.heap[b]? = some (.cells cs 55 (0, 0)) := by
  rcases h with ⟨_, v, h, _⟩ | ⟨_, v, h, _⟩
  · exact ⟨_, h⟩
  · exact ⟨_, h⟩
theorem IsB.keeps {B b : Nat} {bs : List Value} {w w' : World} (h : IsB B b bs w) (hk : Lib.OthersKept 5 (some b) w w') (hs : w.heap.size ≤ w'.heap.size) : KeepsOthers w w' :=
  ⟨hs, fun k o ho hc => hk k o ho (fun e => by
    injection e with e
    subst e
    obtain ⟨cs, h1⟩ := h.heap
    rw [h1] at ho
    injection ho with ho
    subst ho
    cases hc) (fun c fz e => by subst e; cases hc)⟩
theorem Boxed.others {b B : Nat} {t : TypeId} {v : Value} {w w' : World} (h : Boxed w B t v) (hk : Lib.OthersKept 5 (some b) w w') (hne : B ≠ b) (ht : t ≠ 5) : Boxed w' B t v :=
  hk B _ h (fun e => by injection e with e; exact hne e) (fun c fz e => by injection e with _ e _; exact ht e)
theorem flat_len {α β : Type} (f : α → List β) (g : α → Nat) : ∀ (ls : List α), (∀ x ∈ ls, (f x).length ≤ g x) → (ls.flatMap f).length ≤ (ls.map g).sum
  | [], _ => Nat.le_refl _
  | a :: t, h => by
    have ih := flat_len f g t fun x hx => h x (by simp [hx])
    have := h a (by simp)
    simp only [List.flatMap_cons, List.length_append, List.map_cons, List.sum_cons]; omega
theorem IsB.lt {B b : Nat} {bs : List Value} {w : World} (h : IsB B b bs w) : b < w.heap.size := by
  rcases h with h | h
  · exact Lib.BuilderAt.lt h
  · exact Lib.BuilderAt.lt h
/-- The lines of pairs of antennas. -/
def pairLines (n : Nat) (vs : List (Int × Int)) (ps : List (Nat × Nat)) : List UInt8 := ps.flatMap fun x => visLine x (vs.getD (bF n x.1 x.2).toNat (0, 0)) ++ [10]
theorem pairLines_snoc (n : Nat) (vs : List (Int × Int)) (ps : List (Nat × Nat)) (x : Nat × Nat) : pairLines n vs (ps ++ [x]) = pairLines n vs ps ++ (visLine x (vs.getD (bF n x.1 x.2).toNat (0, 0)) ++ [10]) := by
  unfold pairLines; rw [List.flatMap_append]; simp
theorem pos_of (n : Nat) (h2 : 2 ≤ n) (h7 : n ≤ 7) (k : Nat) (hk : k < (pairsN n).length) : bF n (pairAt n k).1 (pairAt n k).2 = k := by
  have hn : n = 2 ∨ n = 3 ∨ n = 4 ∨ n = 5 ∨ n = 6 ∨ n = 7 := by omega
  rcases hn with rfl | rfl | rfl | rfl | rfl | rfl
  · exact (by decide : ∀ k, k < (pairsN 2).length → bF 2 (pairAt 2 k).1 (pairAt 2 k).2 = k) k hk
  · exact (by decide : ∀ k, k < (pairsN 3).length → bF 3 (pairAt 3 k).1 (pairAt 3 k).2 = k) k hk
  · exact (by decide : ∀ k, k < (pairsN 4).length → bF 4 (pairAt 4 k).1 (pairAt 4 k).2 = k) k hk
  · exact (by decide : ∀ k, k < (pairsN 5).length → bF 5 (pairAt 5 k).1 (pairAt 5 k).2 = k) k hk
  · exact (by decide +kernel : ∀ k, k < (pairsN 6).length → bF 6 (pairAt 6 k).1 (pairAt 6 k).2 = k) k hk
  · exact (by decide +kernel : ∀ k, k < (pairsN 7).length → bF 7 (pairAt 7 k).1 (pairAt 7 k).2 = k) k hk
theorem pairLines_all (n : Nat) (vs : List (Int × Int)) (h2 : 2 ≤ n) (h7 : n ≤ 7) : pairLines n vs (pairsN n) = visB n vs (pairsN n).length := by
  unfold pairLines visB
  have e : pairsN n = (List.range (pairsN n).length).map (pairAt n) := by
    apply List.ext_getElem
    · simp
    · intro i h1 _
      simp [pairAt, List.getD_eq_getElem?_getD, h1]
  conv => lhs; rw [e, List.flatMap_map]
  rw [List.flatMap_def, List.flatMap_def]
  refine congrArg List.flatten (List.map_congr_left fun k hk => ?_)
  have hk' := List.mem_range.1 hk
  rw [pos_of n h2 h7 k hk', Int.toNat_natCast]
  rfl
/-- What holds between the rounds. -/
def VtI (n m cap : Nat) (A : Option Addr) (vs : List (Int × Int)) (w : World) (b : Nat) (pre : List (BP n)) (W : World) : Prop :=
  IsB b b (Lib.byteCells (pairLines n vs (pre.map (·.1)))) W ∧ Boxed W w.heap.size 3 (.int .i64 n) ∧ Boxed W (w.heap.size + 1) 36 (.slice A m cap) ∧ Boxed W (b + 1) 3 (.int .i64 n) ∧ Below w.heap.size w W
theorem VtI_own (n m cap : Nat) (A : Option Addr) (vs : List (Int × Int)) (w : World) (b N : Nat) (hN : w.heap.size ≤ N) : OwnFrom N (VtI n m cap A vs w b) := by
  intro s W W' row hs hg hr
  obtain ⟨h1, h2, h3, h5, h4⟩ := hs
  exact ⟨h1.keptO hg (fun r e => (hr r e).2), Boxed.keptO h2 hg (fun r e => (hr r e).2), Boxed.keptO h3 hg (fun r e => (hr r e).2), Boxed.keptO h5 hg (fun r e => (hr r e).2), ownFrom_below (β := Unit) (Nat.le_refl _) hN () W W' row h4 hg hr⟩

set_option maxRecDepth 100000 in
set_option maxHeartbeats 1000000 in
theorem visText_in (n m cap : Nat) (A : Option Addr) (vs : List (Int × Int)) (w : World) (hv : visV n vs = true) (hm : vs.length = m) (hr : Rd w w.heap.size A (vs.flatMap pairCells)) (ht : Tab w) :
    CallsIn Fence.wide 9 Tryd.prog 22 #[.int .i64 n, .slice A m cap] w fun e w' => e = .returned (.string ⟨(visB n vs m).toArray⟩) ∧ Below w.heap.size w w' := by
  obtain ⟨v1, v2, v3⟩ := visV_iff.1 hv
  have hpl := bm_pairs n (by omega) (by omega)
  have hm21 : m ≤ 21 := by have := bm_le n; omega
  have hmp : m = (pairsN n).length := by omega
  have Hm := Lib.hid hm; clear hm
  have Hv := Lib.hid hv; clear hv
  have V2 := Lib.hid v2; clear v2
  have Hpl := Lib.hid hpl; clear hpl
  have Hmp := Lib.hid hmp; clear hmp
  have V3 := Lib.hid v3; clear v3
  have Ht := Lib.hid ht; clear ht
  refine callsIn_of_wp_marks Tryd.func22 rfl trivial ?_ rfl
  simp only [Tryd.ntmps22, List.size_toArray, List.length_cons, List.length_nil, Nat.reduceAdd, Nat.reduceSub, Array.replicate_succ, Array.replicate_zero, List.push_toArray, List.append_toArray, List.nil_append, List.cons_append]
  have hr0 := hr.ext (bA2 (o := .cells #[.int .i64 n] 3) (o' := .cells #[.slice A m cap] 36))
  have r1 := (Row.new w 3 [.int .i64 n]).alloc (.cells #[.slice A m cap] 36)
  have r2 := Row.new1 w (.cells #[.int .i64 n] 3) 36 [.slice A m cap]
  obtain ⟨W0, hW0⟩ : ∃ W0, ((w.alloc (.cells #[.int .i64 n] 3)).alloc (.cells #[.slice A m cap] 36)) = W0 := ⟨_, rfl⟩
  have B0 : Below w.heap.size w W0 := by rw [← hW0]; exact bA2
  have hs0 : W0.heap.size = w.heap.size + 2 := by rw [← hW0]; simp
  have k1 : W0.cell? ⟨w.heap.size, 0, none⟩ = some (.int .i64 n) := by rw [← hW0]; exact r1.cell 0
  have k2 : W0.cell? ⟨w.heap.size + 1, 0, none⟩ = some (.slice A m cap) := by rw [← hW0]; exact r2.cell 0
  rw [hW0] at hr0 r1 r2
  gi_wp2_with fail
  refine ⟨trivial, (callsIn_wide.2 (visValid_any n A m cap vs _ Hm.out (by omega) hr0)).mono ?_⟩
  rintro e w1 ⟨rfl, b1⟩
  rw [Hv.out]
  have B1 := B0.trans (b1.mono B0.size)
  have hs1 := b1.size
  have bN : Boxed w1 w.heap.size 3 (.int .i64 n) := r1.kept b1
  have bL : Boxed w1 (w.heap.size + 1) 36 (.slice A m cap) := r2.kept b1
  have q1 : (w1.alloc (.cells #[.pointer none, .slice none 0 0] 55)).cell? ⟨w.heap.size, 0, none⟩ = some (.int .i64 n) := (bN.alloc _).cell
  have q2 : (w1.alloc (.cells #[.pointer none, .slice none 0 0] 55)).cell? ⟨w.heap.size + 1, 0, none⟩ = some (.slice A m cap) := (bL.alloc _).cell
  clear k1 k2 r1 r2 hr0
  have HW0 := Lib.hid hW0; clear hW0
  gi_wp2_with fail
  refine ⟨trivial, (callsIn_wide.2 (bases_any _ _)).mono ?_⟩
  rintro e w' ⟨rfl, rfl⟩
  gi_wp2_with fail
  have hB0 := (fresh_isB w1).ext (bA1 (w := w1.alloc (.cells #[.pointer none, .slice none 0 0] 55)) (o := .cells #[.int .i64 n] 3))
  have bC := Boxed.new (w1.alloc (.cells #[.pointer none, .slice none 0 0] 55)) 3 (.int .i64 n)
  rw [World.size_alloc] at bC
  have bN' := (bN.alloc (.cells #[.pointer none, .slice none 0 0] 55)).alloc (.cells #[.int .i64 n] 3)
  have bL' := (bL.alloc (.cells #[.pointer none, .slice none 0 0] 55)).alloc (.cells #[.int .i64 n] 3)
  have B2 : Below w.heap.size w ((w1.alloc (.cells #[.pointer none, .slice none 0 0] 55)).alloc (.cells #[.int .i64 n] 3)) := (B1.alloc B1.size _).alloc (by have := B1.size; simp; omega) _
  obtain ⟨b, hb⟩ : ∃ b, w1.heap.size = b := ⟨_, rfl⟩
  have hsz : ((w1.alloc (.cells #[.pointer none, .slice none 0 0] 55)).alloc (.cells #[.int .i64 n] 3)).heap.size = b + 2 := by simp [hb]
  have hwb : w.heap.size + 2 ≤ b := by omega
  rw [hb] at hB0 bC
  obtain ⟨W2, hW2⟩ : ∃ W2, ((w1.alloc (.cells #[.pointer none, .slice none 0 0] 55)).alloc (.cells #[.int .i64 n] 3)) = W2 := ⟨_, rfl⟩
  rw [hW2] at hB0 bC bN' bL' B2 hsz ⊢
  rw [hb]
  have hst := Ht.out.ext B2
  refine wpIn_rangeFunc_ownG rfl (by omega) (gf := 79) (lb := #[.pointer (some ⟨b + 1, 0, none⟩)]) rfl trivial (enters_of Tryd.func79 (by kernel_rfl) rfl)
    (bases_stops 8 n (by omega) (by omega) (b + 1) _ bC.cell (by omega)) KC_t (fun W l o o' _ h1 h2 _ => KC_b W l o o' h1 h2) (Below.refl _ _) (fun _ => rfl)
    (VtI n m cap A vs w b)
    (fun _ _ _ => False)
    (VtI_own n m cap A vs w b _ (by omega))
    (fun _ _ _ _ _ hs _ _ => hs)
    ⟨hB0, bN', bL', bC, B2⟩
    (fun x => { tmps := #[.int .i64 n, .slice A m cap, .pointer (some ⟨w.heap.size, 0, none⟩), .pointer (some ⟨w.heap.size + 1, 0, none⟩), .string ⟨#[]⟩, .pointer (some ⟨b, 0, none⟩), .int .i64 (x.1.1 : Nat), .int .i64 (x.1.2 : Nat), undef,
      .int .i64 n, .slice A m cap, .bool true, .bool false, .int .i64 n, .func (.func 79) #[] #[.pointer (some ⟨b + 1, 0, none⟩)], .int .i64 (x.1.1 : Nat), .int .i64 (x.1.2 : Nat), undef, undef, undef, undef, undef, undef, undef, undef, undef, undef, undef, undef, undef, undef, undef, undef, undef, undef, undef, undef, undef, undef, undef, undef, undef, undef], defers := [] }) ?assign ?body ?done ?stop
  case assign =>
    intro l x W K hK
    gi_wp2
    exact hK
  case body =>
    rintro l pre x W ⟨hB, hN, hL, hC, hbel⟩ hlt
    obtain ⟨x1, x2⟩ : x.1.1 < x.1.2 ∧ x.1.2 < n := x.2
    have hbd := bF_bd n x.1.1 x.1.2 (by omega) (by omega) (by omega)
    obtain ⟨k, hk⟩ : ∃ k : Nat, bF n x.1.1 x.1.2 = k := ⟨(bF n x.1.1 x.1.2).toNat, by omega⟩
    have hkm : k < m := by have := V2.out; have := Hm.out; omega
    have hkt : (bF n x.1.1 x.1.2).toNat = k := by rw [hk]; rfl
    have hg : vs[k]? = some (vs.getD k (0, 0)) := getD_of (by rw [Hm.out]; exact hkm)
    obtain ⟨bq, off, rfl, hb2, hc1, hc2⟩ := rd_pair (hr.below hbel) hg
    have hok := V3.out _ (List.mem_of_getElem? hg)
    obtain ⟨a, p, hap⟩ : ∃ a p, vs.getD k (0, 0) = (a, p) := ⟨_, _, rfl⟩
    have hps := pairLines_snoc n vs (pre.map (·.1)) x.1
    rw [hkt, hap] at hps
    rw [hap] at hc1 hc2 hok
    obtain ⟨⟨a1, a2⟩, p1, p2⟩ := visOk_iff.1 hok
    dsimp only at hc1 hc2 a1 a2 p1 p2
    have hpl2 : (pairLines n vs (pre.map (·.1))).length ≤ 100000 := by
      have h1 := flat_len (fun x : Nat × Nat => visLine x (vs.getD (bF n x.1 x.2).toNat (0, 0)) ++ [10]) (fun _ => 100) (pre.map (·.1)) fun y hy => by
        obtain ⟨z, _, rfl⟩ := List.mem_map.1 hy
        obtain ⟨z1, z2⟩ : z.1.1 < z.1.2 ∧ z.1.2 < n := z.2
        have zb := bF_bd n z.1.1 z.1.2 (by omega) (by omega) (by omega)
        have zo := V3.out _ (getD_mem (l := vs) (k := (bF n z.1.1 z.1.2).toNat) (d := (0, 0)) (by have := V2.out; omega))
        obtain ⟨z3, z4⟩ := visOk_iff.1 zo
        have e1 := itoa_short (n := ((z.1.1 : Nat) : Int)) (by omega) (by omega)
        have e2 := itoa_short (n := ((z.1.2 : Nat) : Int)) (by omega) (by omega)
        have e3 := itoa_short (n := (vs.getD (bF n z.1.1 z.1.2).toNat (0, 0)).1) (by omega) (by omega)
        have e4 := itoa_short (n := (vs.getD (bF n z.1.1 z.1.2).toNat (0, 0)).2) (by omega) (by omega)
        unfold visLine
        simp only [List.length_append, List.length_cons, List.length_nil]
        omega
      have h2 : ((pre.map (·.1)).map fun _ => 100).sum = 100 * pre.length := by
        rw [List.map_const']
        simp [List.sum_replicate_nat]; omega
      have h3 : pre.length ≤ 21 := by have := Hmp.out; omega
      unfold pairLines
      omega
    have hbs := hbel.size
    have fL : ∀ w', Below W.heap.size W w' → w'.cell? ⟨w.heap.size + 1, 0, none⟩ = some (.slice (some ⟨bq, off, none⟩) m cap) := fun w' h => (h.cell (p := ⟨w.heap.size + 1, 0, none⟩) hL.lt).trans hL.cell
    have fN : ∀ w', Below W.heap.size W w' → w'.cell? ⟨w.heap.size, 0, none⟩ = some (.int .i64 n) := fun w' h => (h.cell (p := ⟨w.heap.size, 0, none⟩) hN.lt).trans hN.cell
    have f1 : ∀ w', Below W.heap.size W w' → w'.cell? ⟨bq, off + k * 2, none⟩ = some (.int .i64 a) := fun w' h => (h.cell (p := ⟨bq, off + k * 2, none⟩) (Nat.lt_of_lt_of_le hb2 hbs)).trans hc1
    have f2 : ∀ w', Below W.heap.size W w' → w'.cell? ⟨bq, off + k * 2 + 1, none⟩ = some (.int .i64 p) := fun w' h => (h.cell (p := ⟨bq, off + k * 2 + 1, none⟩) (Nat.lt_of_lt_of_le hb2 hbs)).trans hc2
    have hI : -9223372036854775808 ≤ ((x.1.1 : Nat) : Int) ∧ ((x.1.1 : Nat) : Int) ≤ 9223372036854775807 := by omega
    have hJ : -9223372036854775808 ≤ ((x.1.2 : Nat) : Int) ∧ ((x.1.2 : Nat) : Int) ≤ 9223372036854775807 := by omega
    refine wpIn_block ?_
    gi_wp2_with fail
    refine wpIn_region_N [7, 8] [] (by kernel_rfl) (by kernel_rfl) (by kernel_rfl) ?_
    refine wpStill_go (v := .slice (some ⟨bq, off, none⟩) m cap) rfl rfl (stays_run fun w' h => ex_load rfl rfl (ld_one (by kernel_rfl) (fL w' h))) ?_
    simp only [Act.put, List.setIfInBounds_toArray, List.set_cons_succ, List.set_cons_zero]
    refine wpStill_go (v := .int .i64 n) rfl rfl (stays_run fun w' h => ex_load rfl rfl (ld_one (by kernel_rfl) (fN w' h))) ?_
    simp only [Act.put, List.setIfInBounds_toArray, List.set_cons_succ, List.set_cons_zero]
    refine wpStill_go (v := .int .i64 x.1.1) rfl rfl (stays_run fun w' h => ex_move rfl rfl) ?_
    simp only [Act.put, List.setIfInBounds_toArray, List.set_cons_succ, List.set_cons_zero]
    refine wpStill_go (v := .int .i64 x.1.2) rfl rfl (stays_run fun w' h => ex_move rfl rfl) ?_
    simp only [Act.put, List.setIfInBounds_toArray, List.set_cons_succ, List.set_cons_zero]
    refine wpStill_go (v := .int .i64 k) rfl rfl (stays_call (f := 54) (args := #[.int .i64 n, .int .i64 x.1.1, .int .i64 x.1.2]) (fun w' h => by simp [go_sem]) (fun w' _ => by rw [← hk]; exact calls_below (baseAt_lt n x.1.1 x.1.2 w' (by omega) (by omega) (by omega)))) ?_
    simp only [Act.put, List.setIfInBounds_toArray, List.set_cons_succ, List.set_cons_zero]
    refine wpStill_go (v := .pointer (some ⟨bq, off + k * 2, none⟩)) rfl rfl (stays_run fun w' h => ex_index rfl (by kernel_rfl) (by kernel_rfl) rfl rfl (hkm)) ?_
    simp only [Act.put, List.setIfInBounds_toArray, List.set_cons_succ, List.set_cons_zero]
    refine wpStill_go (v := .agg #[.int .i64 a, .int .i64 p]) rfl rfl (stays_run fun w' h => ex_load rfl rfl (ld_two (P := Tryd.prog) (t := 70) (by kernel_rfl) (by kernel_rfl) (f1 w' h) (f2 w' h))) ?_
    simp only [Act.put, List.setIfInBounds_toArray, List.set_cons_succ, List.set_cons_zero]
    refine wpStill_skip rfl (wpStill_skip rfl (wpStill_nil ?_))
    repeat (refine wpMark_skip rfl ?_)
    refine wpMark_go rfl (fun m1 hm1 K hK => ?_)
    go_wp2_with fail
    have F1 : Below W.heap.size W (m1.alloc (.cells #[.int .i64 0, .int .i64 0] 70)) := ((Below.refl _ _).drew.trans hm1).alloc hm1.size _
    refine hK _ _ (fun _ => F1) (wpMark_go rfl (fun m2 hm2 K hK => ?_))
    have e1 := (Row.new m1 70 [.int .i64 0, .int .i64 0]).kept hm2
    have c0 : m2.cell? ⟨m1.heap.size, 0, none⟩ = some (.int .i64 0) := e1.cell 0
    have c1 : m2.cell? ⟨m1.heap.size, 1, none⟩ = some (.int .i64 0) := e1.cell 1
    have z0 : m2.frozen? ⟨m1.heap.size, 0, none⟩ = false := e1.frozen 0
    have z1 : m2.frozen? ⟨m1.heap.size, 1, none⟩ = false := e1.frozen 1
    have F2 := F1.trans (hm2.mono F1.size)
    go_wp2_with fail
    have hsm1 : W.heap.size ≤ m1.heap.size := hm1.size
    have F3 := set2 (u := .int .i64 a) (v := .int .i64 p) F2 hsm1
    refine hK _ _ (fun _ => F3) (wpMark_nil fun m3 hm3 => ?_)
    have F4 := F3.trans (hm3.mono F3.size)
    have rv : Row m3 m1.heap.size 70 [.int .i64 a, .int .i64 p] := ((e1.set_ 0 (.int .i64 a)).set_ 1 (.int .i64 p)).kept hm3
    simp only [onlyN]
    have hB3 := hB.ext F4
    have hN3 : Boxed m3 w.heap.size 3 (.int .i64 n) := boxed_ext hN F4
    have hL3 : Boxed m3 (w.heap.size + 1) 36 (.slice (some ⟨bq, off, none⟩) m cap) := boxed_ext hL F4
    have hC3 : Boxed m3 (b + 1) 3 (.int .i64 n) := boxed_ext hC F4
    have B3 := hbel.trans (F4.mono hbs)
    have K3 := keeps_ext F4
    have hbW : b < W.heap.size := hB.lt
    have hbm : b ≤ m3.heap.size := Nat.le_trans (Nat.le_of_lt hbW) F4.size
    have hT := Lib.hid (Ht.out.ext B3)
    have g1 : ∀ w', Below m3.heap.size m3 w' → w'.cell? ⟨m1.heap.size, 0, none⟩ = some (.int .i64 a) := fun w' h => (rv.kept h).cell 0
    have g2 : ∀ w', Below m3.heap.size m3 w' → w'.cell? ⟨m1.heap.size, 1, none⟩ = some (.int .i64 p) := fun w' h => (rv.kept h).cell 1
    have cD : ∀ x : Int, -9223372036854775808 ≤ x ∧ x ≤ 9223372036854775807 → ∀ s, Lib.itoa x = s → ∀ w', Below m3.heap.size m3 w' → Calls Tryd.prog 43 #[.int .i64 x] w' fun e w'' => e = .returned (.string ⟨s.toArray⟩) ∧ Below w'.heap.size w' w'' := fun x hx s hs w' h => by
      subst hs; exact itoa_any x hx w' (hT.out.ext h)
    obtain ⟨I, hII⟩ : ∃ I, x.1.1 = I := ⟨_, rfl⟩
    obtain ⟨J, hJJ⟩ : ∃ J, x.1.2 = J := ⟨_, rfl⟩
    have hxx : x.1 = (I, J) := by rw [← hII, ← hJJ]
    simp only [hII, hJJ] at hI hJ x1 x2 ⊢
    rw [hxx] at hps
    clear fL fN f1 f2 hc1 hc2 F1 F2 F3 F4 e1 c0 c1 z0 z1 hm1 hm2 hm3 hB hN hL hC hok hg
    have Hps := Lib.hid hps; clear hps
    have HII := Lib.hid hII; clear hII
    have HJJ := Lib.hid hJJ; clear hJJ
    have Hxx := Lib.hid hxx; clear hxx
    obtain ⟨S0, hS0⟩ : ∃ S, ([] : List UInt8) = S := ⟨_, rfl⟩
    have l0 : S0.length ≤ 3000 := by rw [← hS0]; first | omega | simp
    obtain ⟨si, hsi⟩ : ∃ s, Lib.itoa (I : Int) = s := ⟨_, rfl⟩
    obtain ⟨sj, hsj⟩ : ∃ s, Lib.itoa (J : Int) = s := ⟨_, rfl⟩
    obtain ⟨sa, hsa⟩ : ∃ s, Lib.itoa a = s := ⟨_, rfl⟩
    obtain ⟨sp, hsp⟩ : ∃ s, Lib.itoa p = s := ⟨_, rfl⟩
    have li : si.length ≤ 21 := by rw [← hsi]; exact itoa_short (by omega) (by omega)
    have lj : sj.length ≤ 21 := by rw [← hsj]; exact itoa_short (by omega) (by omega)
    have la : sa.length ≤ 21 := by rw [← hsa]; exact itoa_short (by omega) (by omega)
    have lp : sp.length ≤ 21 := by rw [← hsp]; exact itoa_short (by omega) (by omega)
    obtain ⟨L1, h1⟩ : ∃ L, S0 ++ si = L := ⟨_, rfl⟩
    obtain ⟨L2, h2⟩ : ∃ L, L1 ++ [45] = L := ⟨_, rfl⟩
    obtain ⟨L3, h3⟩ : ∃ L, L2 ++ sj = L := ⟨_, rfl⟩
    obtain ⟨L4, h4⟩ : ∃ L, L3 ++ [32] = L := ⟨_, rfl⟩
    obtain ⟨L5, h5⟩ : ∃ L, L4 ++ sa = L := ⟨_, rfl⟩
    obtain ⟨L6, h6⟩ : ∃ L, L5 ++ [32] = L := ⟨_, rfl⟩
    obtain ⟨L7, h7⟩ : ∃ L, L6 ++ sp = L := ⟨_, rfl⟩
    obtain ⟨L8, h8⟩ : ∃ L, L7 ++ [10] = L := ⟨_, rfl⟩
    have l1 : L1.length ≤ 5000 := by rw [← h1, List.length_append]; omega
    have l2 : L2.length ≤ 5001 := by rw [← h2, List.length_append]; simp only [List.length_cons, List.length_nil]; omega
    have l3 : L3.length ≤ 6000 := by rw [← h3, List.length_append]; omega
    have l4 : L4.length ≤ 6001 := by rw [← h4, List.length_append]; simp only [List.length_cons, List.length_nil]; omega
    have l5 : L5.length ≤ 7000 := by rw [← h5, List.length_append]; omega
    have l6 : L6.length ≤ 7001 := by rw [← h6, List.length_append]; simp only [List.length_cons, List.length_nil]; omega
    have l7 : L7.length ≤ 8000 := by rw [← h7, List.length_append]; omega
    have l8 : L8.length ≤ 8001 := by rw [← h8, List.length_append]; simp only [List.length_cons, List.length_nil]; omega
    have e1 := app_eq h1
    have e2 : (ByteArray.mk L1.toArray ++ ByteArray.mk #[45] : ByteArray) = ⟨L2.toArray⟩ := app_eq h2
    have e3 := app_eq h3
    have e4 : (ByteArray.mk L3.toArray ++ ByteArray.mk #[32] : ByteArray) = ⟨L4.toArray⟩ := app_eq h4
    have e5 := app_eq h5
    have e6 : (ByteArray.mk L5.toArray ++ ByteArray.mk #[32] : ByteArray) = ⟨L6.toArray⟩ := app_eq h6
    have e7 := app_eq h7
    have e8 : (ByteArray.mk L7.toArray ++ ByteArray.mk #[10] : ByteArray) = ⟨L8.toArray⟩ := app_eq h8
    have hL8 : L8 = S0 ++ (visLine (I, J) (a, p) ++ [10]) := by
      rw [← h8, ← h7, ← h6, ← h5, ← h4, ← h3, ← h2, ← h1, ← hsi, ← hsj, ← hsa, ← hsp]
      simp [visLine]
    have b1 : ¬ 9223372036854775807 < S0.length + si.length := by omega
    have b2 : ¬ 9223372036854775807 < L1.length + 1 := by omega
    have b3 : ¬ 9223372036854775807 < L2.length + sj.length := by omega
    have b4 : ¬ 9223372036854775807 < L3.length + 1 := by omega
    have b5 : ¬ 9223372036854775807 < L4.length + sa.length := by omega
    have b6 : ¬ 9223372036854775807 < L5.length + 1 := by omega
    have b7 : ¬ 9223372036854775807 < L6.length + sp.length := by omega
    have b8 : ¬ 9223372036854775807 < L7.length + 1 := by omega
    have H1 := Lib.hid h1; clear h1
    have H2 := Lib.hid h2; clear h2
    have H3 := Lib.hid h3; clear h3
    have H4 := Lib.hid h4; clear h4
    have H5 := Lib.hid h5; clear h5
    have H6 := Lib.hid h6; clear h6
    have H7 := Lib.hid h7; clear h7
    have H8 := Lib.hid h8; clear h8
    have HL8 := Lib.hid hL8; clear hL8
    have hq : si = L1 := by rw [← H1.out, ← hS0]; rfl
    subst hq
    gi_wp2_with fail
    refine wpIn_region_N [17] [17] (by kernel_rfl) (by kernel_rfl) (by kernel_rfl) ?_
    refine wpStill_go (v := .int .i64 I) rfl rfl (stays_run fun w' h => ex_move rfl rfl) ?_
    simp only [Act.put, List.setIfInBounds_toArray, List.set_cons_succ, List.set_cons_zero]
    refine wpStill_go (v := .string ⟨si.toArray⟩) rfl rfl (stays_call (f := 43) (args := #[.int .i64 I]) (fun w' h => by simp [go_sem]) (fun w' _ => cD I hI si hsi w' ‹_›)) ?_
    simp only [Act.put, List.setIfInBounds_toArray, List.set_cons_succ, List.set_cons_zero]
    refine wpStill_go (v := .string ⟨L2.toArray⟩) rfl rfl (stays_run fun w' h => by simp [go_sem, e2, b2]) ?_
    simp only [Act.put, List.setIfInBounds_toArray, List.set_cons_succ, List.set_cons_zero]
    refine wpStill_go (v := .int .i64 J) rfl rfl (stays_run fun w' h => ex_move rfl rfl) ?_
    simp only [Act.put, List.setIfInBounds_toArray, List.set_cons_succ, List.set_cons_zero]
    refine wpStill_go (v := .string ⟨sj.toArray⟩) rfl rfl (stays_call (f := 43) (args := #[.int .i64 J]) (fun w' h => by simp [go_sem]) (fun w' _ => cD J hJ sj hsj w' ‹_›)) ?_
    simp only [Act.put, List.setIfInBounds_toArray, List.set_cons_succ, List.set_cons_zero]
    refine wpStill_go (v := .string ⟨L3.toArray⟩) rfl rfl (stays_run fun w' h => by simp [go_sem, e3, b3]) ?_
    simp only [Act.put, List.setIfInBounds_toArray, List.set_cons_succ, List.set_cons_zero]
    refine wpStill_go (v := .string ⟨L4.toArray⟩) rfl rfl (stays_run fun w' h => by simp [go_sem, e4, b4]) ?_
    simp only [Act.put, List.setIfInBounds_toArray, List.set_cons_succ, List.set_cons_zero]
    refine wpStill_go (v := .pointer (some ⟨m1.heap.size, 0, none⟩)) rfl rfl (stays_run fun w' h => by simp [go_sem]) ?_
    simp only [Act.put, List.setIfInBounds_toArray, List.set_cons_succ, List.set_cons_zero]
    refine wpStill_go (v := .int .i64 a) rfl rfl (stays_run fun w' h => ex_load rfl rfl (ld_one (by kernel_rfl) (g1 w' h))) ?_
    simp only [Act.put, List.setIfInBounds_toArray, List.set_cons_succ, List.set_cons_zero]
    refine wpStill_go (v := .string ⟨sa.toArray⟩) rfl rfl (stays_call (f := 43) (args := #[.int .i64 a]) (fun w' h => by simp [go_sem]) (fun w' _ => cD a (by omega) sa hsa w' ‹_›)) ?_
    simp only [Act.put, List.setIfInBounds_toArray, List.set_cons_succ, List.set_cons_zero]
    refine wpStill_go (v := .string ⟨L5.toArray⟩) rfl rfl (stays_run fun w' h => by simp [go_sem, e5, b5]) ?_
    simp only [Act.put, List.setIfInBounds_toArray, List.set_cons_succ, List.set_cons_zero]
    refine wpStill_go (v := .string ⟨L6.toArray⟩) rfl rfl (stays_run fun w' h => by simp [go_sem, e6, b6]) ?_
    simp only [Act.put, List.setIfInBounds_toArray, List.set_cons_succ, List.set_cons_zero]
    refine wpStill_go (v := .pointer (some ⟨m1.heap.size, 1, none⟩)) rfl rfl (stays_run fun w' h => by simp [go_sem]) ?_
    simp only [Act.put, List.setIfInBounds_toArray, List.set_cons_succ, List.set_cons_zero]
    refine wpStill_go (v := .int .i64 p) rfl rfl (stays_run fun w' h => ex_load rfl rfl (ld_one (by kernel_rfl) (g2 w' h))) ?_
    simp only [Act.put, List.setIfInBounds_toArray, List.set_cons_succ, List.set_cons_zero]
    refine wpStill_go (v := .string ⟨sp.toArray⟩) rfl rfl (stays_call (f := 43) (args := #[.int .i64 p]) (fun w' h => by simp [go_sem]) (fun w' _ => cD p (by omega) sp hsp w' ‹_›)) ?_
    simp only [Act.put, List.setIfInBounds_toArray, List.set_cons_succ, List.set_cons_zero]
    refine wpStill_go (v := .string ⟨L7.toArray⟩) rfl rfl (stays_run fun w' h => by simp [go_sem, e7, b7]) ?_
    simp only [Act.put, List.setIfInBounds_toArray, List.set_cons_succ, List.set_cons_zero]
    refine wpStill_go (v := .string ⟨L8.toArray⟩) rfl rfl (stays_run fun w' h => by simp [go_sem, e8, b8]) ?_
    simp only [Act.put, List.setIfInBounds_toArray, List.set_cons_succ, List.set_cons_zero]
    refine wpStill_skip rfl (wpStill_nil ?_)
    repeat (refine wpMark_skip rfl ?_)
    refine wpMark_go rfl (fun w4 h4 K hK => ?_)
    have hB4 := hB3.ext ((Below.refl _ _).drew.trans h4)
    have E4 : Below m3.heap.size m3 w4 := (Below.refl _ _).drew.trans h4
    have hlim : (Lib.byteCells (pairLines n vs (pre.map (·.1)))).length + (ByteArray.mk L8.toArray).size ≤ 140737488355328 := by
      rw [Lib.byteCells_length]
      have e : (ByteArray.mk L8.toArray).size = L8.length := rfl
      omega
    have Hlim := Lib.hid hlim
    clear hlim e2 e3 e4 e5 e6 e7 e8
    go_wp2_with fail
    refine (writeString_k b b _ ⟨L8.toArray⟩ w4 hB4 Hlim.out (Nat.le_trans hbm E4.size)).mono ?_
    rintro e w5 ⟨rfl, hB5, b5, k5⟩
    go_wp2_with fail
    refine hK _ _ (fun h => absurd h (by decide)) (wpMark_nil fun w6 h6 => ?_)
    simp only [onlyN]
    have hs5 := b5.size
    have C6 : Boxed w6 (b + 1) 3 (.int .i64 n) := boxed_ext (Boxed.others (boxed_ext hC3 E4) k5 (by omega) (by decide)) h6
    have N6 : Boxed w6 w.heap.size 3 (.int .i64 n) := boxed_ext (Boxed.others (boxed_ext hN3 E4) k5 (by omega) (by decide)) h6
    have L6' : Boxed w6 (w.heap.size + 1) 36 (.slice (some ⟨bq, off, none⟩) m cap) := boxed_ext (Boxed.others (boxed_ext hL3 E4) k5 (by omega) (by decide)) h6
    have hB6 := hB5.isB.ext h6
    have hsz3 := B3.size
    have B6 : Below w.heap.size w w6 := ((B3.trans (E4.mono hsz3)).trans (b5.mono (by omega))).trans (h6.mono (Nat.le_trans hsz3 (Nat.le_trans E4.size hs5)))
    refine ⟨((K3.trans (keeps_ext E4)).trans ((hB4.keeps k5 hs5).trans (keeps_ext h6))).from _, fun _ => Boxed.cell C6, ?_, N6, L6', C6, B6⟩
    rw [List.map_append, List.map_singleton, Hxx.out, Hps.out]
    have eL : L8 = visLine (I, J) (a, p) ++ [10] := by rw [HL8.out, ← hS0]; rfl
    rw [eL] at hB6
    simpa [Lib.byteCells, Lib.strCells] using hB6
  case done =>
    rintro D ys W hD rfl ⟨hB, hN, hL, hC, hbel⟩ hK
    gi_wp2_with fail
    refine ⟨trivial, (callsIn_wide.2 (bString_k b b _ W hB (Nat.le_of_lt hB.lt))).mono ?_⟩
    rintro e w' ⟨rfl, b5, k5⟩
    gi_wp2_with fail
    have hK' : w'.heap[D]? = some (.deferred (some [])) := k5 D _ hK (fun e => by injection e; omega) (fun c fz e => by cases e)
    refine ⟨by simp, .inl ⟨_, _, rfl, run_takeDeferred hK', ?_⟩⟩
    have hbel2 : Below w.heap.size w' (w'.putObj D (.deferred none)) := belowK_b (w := w) (Nat.le_refl _) w' D _ _ (by omega) hK' rfl rfl
    refine ⟨_, results_tmp rfl _ _ _, ?_, (hbel.trans (b5.mono (by omega))).trans hbel2⟩
    rw [pairsB_map, pairLines_all n vs (by omega) (by omega), Hmp.out]
    rfl
  case stop =>
    rintro D c pre W _ _ h _
    exact h.elim
theorem visText_no (n : Int) (A : Option Addr) (m cap : Nat) (vs : List (Int × Int)) (w : World) (hn : vs.length = m) (hm : m ≤ 1000000000) (hv : visV n vs = false) (hr : Rd w w.heap.size A (vs.flatMap pairCells)) :
    Calls Tryd.prog 22 #[.int .i64 n, .slice A m cap] w fun e w' => e = .returned (.string ⟨#[]⟩) ∧ Below w.heap.size w w' := by
  have hr0 := hr.ext (bA2 (o := .cells #[.int .i64 n] 3) (o' := .cells #[.slice A m cap] 36))
  have r1 := (Row.new w 3 [.int .i64 n]).alloc (.cells #[.slice A m cap] 36)
  have r2 := Row.new1 w (.cells #[.int .i64 n] 3) 36 [.slice A m cap]
  obtain ⟨W0, hW0⟩ : ∃ W0, ((w.alloc (.cells #[.int .i64 n] 3)).alloc (.cells #[.slice A m cap] 36)) = W0 := ⟨_, rfl⟩
  have B0 : Below w.heap.size w W0 := by rw [← hW0]; exact bA2
  have k1 : W0.cell? ⟨w.heap.size, 0, none⟩ = some (.int .i64 n) := by rw [← hW0]; exact r1.cell 0
  have k2 : W0.cell? ⟨w.heap.size + 1, 0, none⟩ = some (.slice A m cap) := by rw [← hW0]; exact r2.cell 0
  rw [hW0] at hr0
  clear r1 r2
  have Hn := Lib.hid hn; clear hn
  have Hv := Lib.hid hv; clear hv
  go_enter Tryd.func22, Tryd.ntmps22
  go_wp2_with fail
  refine (visValid_any n A m cap vs _ Hn.out hm hr0).mono ?_
  rintro e w1 ⟨rfl, b1⟩
  rw [Hv.out]
  go_wp2_with fail
  go_ret
  exact ⟨rfl, B0.trans (b1.mono B0.size)⟩
theorem visText_any (n : Int) (A : Option Addr) (m cap : Nat) (vs : List (Int × Int)) (w : World) (hn : vs.length = m) (hm : m ≤ 1000000000) (hr : Rd w w.heap.size A (vs.flatMap pairCells)) (ht : Tab w) :
    Calls Tryd.prog 22 #[.int .i64 n, .slice A m cap] w fun e w' => e = .returned (.string ⟨(visStr n vs).toArray⟩) ∧ Below w.heap.size w w' := by
  unfold visStr
  by_cases hv : visV n vs = true
  · rw [if_pos hv, hn]
    obtain ⟨N, rfl, _, _⟩ := visV_nat hv
    exact (callsIn_wide (n := 9)).1 (visText_in N m cap A vs w hv hn hr ht)
  · rw [if_neg hv]
    exact visText_no n A m cap vs w hn hm (by simpa using hv) hr
end Go.Proofs.YtbadeopjfmafcaaDoor
