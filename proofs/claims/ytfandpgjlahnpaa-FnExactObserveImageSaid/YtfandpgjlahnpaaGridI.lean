/- 'impl.ObserveGrid'. -/
import Derived.Test.YtfandpgjlahnpaaGridP
import Derived.Test.YtfandpgjlahnpaaObsI
import Derived.Test.YtfandpgjlahnpaaPairJ
import Derived.Test.YtfandpgjlahnpaaTrack
import Derived.Test.YtfandpgjlahnpaaTree
import Derived.Test.YtfandpgjlahnpaaGridC
import Derived.Test.YtfandpgjlahnpaaLawObs
namespace Go.Proofs.Ytfandpgjlahnpaa
open Go.RowKit Go.Shelf
attribute [local go_sem] Oper.semAt_some

/-- What holds between the rounds. -/
def GrI (n : Nat) (ants seen : List (Int × Int)) (A B : Option Addr) (ca m cb s g : Nat) (w : World) (pre : List (BP n)) (W : World) : Prop :=
  (∃ st, gridRun (gridEP ants seen n (pre.map (·.1))) = some st ∧ st.1.length = 16 ∧ st.2.length = 16 ∧ Row W g 31 (st.1.flatMap pairCells) ∧ Row W (g + 2) 4 (st.2.map Value.bool)) ∧
  Boxed W s 23 (.slice A n ca) ∧ Boxed W (s + 1) 55 (.slice B m cb) ∧ Boxed W (s + 2) 55 (.slice none 0 0) ∧ Boxed W (s + 3) 4 (.bool false) ∧
  Boxed W (g + 1) 55 (.slice (some ⟨g, 0, none⟩) 16 16) ∧ Boxed W (g + 3) 38 (.slice (some ⟨g + 2, 0, none⟩) 16 16) ∧ Boxed W (g + 4) 3 (.int .i64 n) ∧ Below w.heap.size w W
/-- What holds where the loop is left early. -/
def GrX (n : Nat) (ants seen : List (Int × Int)) (s : Nat) (w : World) (c : Code) (pre : List (BP n)) (W : World) : Prop :=
  c = .ret ∧ gridRun (gridEP ants seen n (pre.map (·.1))) = none ∧ Boxed W (s + 2) 55 (.slice none 0 0) ∧ Boxed W (s + 3) 4 (.bool false) ∧ Below w.heap.size w W
theorem GrI_own (n : Nat) (ants seen : List (Int × Int)) (A B : Option Addr) (ca m cb s g : Nat) (w : World) (N : Nat) (hN : w.heap.size ≤ N) : OwnFrom N (GrI n ants seen A B ca m cb s g w) := by
  intro p W W' row hs hg hr
  obtain ⟨⟨st, e, l1, l2, r1, r2⟩, h1, h2, h3, h4, h5, h6, h8, h7⟩ := hs
  have hr2 := fun r e => (hr r e).2
  exact ⟨⟨st, e, l1, l2, row_keptI r1 hg hr2, row_keptI r2 hg hr2⟩, Boxed.keptI h1 hg hr2, Boxed.keptI h2 hg hr2, Boxed.keptI h3 hg hr2, Boxed.keptI h4 hg hr2, Boxed.keptI h5 hg hr2, Boxed.keptI h6 hg hr2, Boxed.keptI h8 hg hr2, ownFrom_below (β := Unit) (Nat.le_refl _) hN () W W' row h7 hg hr⟩
theorem GrX_own (n : Nat) (ants seen : List (Int × Int)) (s : Nat) (w : World) (c : Code) (N : Nat) (hN : w.heap.size ≤ N) : OwnFrom N (GrX n ants seen s w c) := by
  intro p W W' row hs hg hr
  obtain ⟨h0, h1, h3, h4, h7⟩ := hs
  have hr2 := fun r e => (hr r e).2
  exact ⟨h0, h1, Boxed.keptI h3 hg hr2, Boxed.keptI h4 hg hr2, ownFrom_below (β := Unit) (Nat.le_refl _) hN () W W' row h7 hg hr⟩

/-- What holds between the rounds of the inner loop. -/
def GrJ (n : Nat) (gs : List (Int × Int)) (kn : List Bool) (c : Nat) (a : Int × Int) (A B : Option Addr) (ca m cb s g S : Nat) (X Y : Int) (w W0 : World) (i : Nat) (W : World) : Prop :=
  (∃ st, layN (gs, kn) c a i = some st ∧ st.1.length = 16 ∧ st.2.length = 16 ∧ Row W g 31 (st.1.flatMap pairCells) ∧ Row W (g + 2) 4 (st.2.map Value.bool)) ∧
  Row W S 121 (entC X Y a) ∧
  Boxed W s 23 (.slice A n ca) ∧ Boxed W (s + 1) 55 (.slice B m cb) ∧ Boxed W (s + 2) 55 (.slice none 0 0) ∧ Boxed W (s + 3) 4 (.bool false) ∧
  Boxed W (g + 1) 55 (.slice (some ⟨g, 0, none⟩) 16 16) ∧ Boxed W (g + 3) 38 (.slice (some ⟨g + 2, 0, none⟩) 16 16) ∧ Boxed W (g + 4) 3 (.int .i64 n) ∧ Below w.heap.size w W ∧ KeepsOthers W0 W

set_option maxRecDepth 100000 in
set_option maxHeartbeats 6000000 in
theorem observeGrid_in (A B : Option Addr) (n ca m cb : Nat) (ants seen : List (Int × Int)) (w : World) (hn : ants.length = n) (hm : seen.length = m) (hk : n ≤ ca) (hA : arrV ants = true) (hO : obsV n seen = true)
    (hr : Rd w w.heap.size A (ants.flatMap pairCells)) (hs : Rd w w.heap.size B (seen.flatMap pairCells)) :
    CallsIn Fence.wide 9 Try.prog 35 #[.slice A n ca, .slice B m cb] w fun e w' => Below w.heap.size w w' ∧
      ((∃ g, gridO ants seen = some g ∧ ∃ G, e = .returned (.tuple #[.slice (some ⟨G, 0, none⟩) 16 16, .bool true]) ∧ w.heap.size ≤ G ∧ Row w' G 31 (g.flatMap pairCells)) ∨
       (gridO ants seen = none ∧ e = .returned (.tuple #[.slice none 0 0, .bool false]))) := by
  obtain ⟨Z1, hZ1⟩ : ∃ Z1, List.replicate (16 * 2) (Value.int .i64 0) = Z1 := ⟨_, rfl⟩
  obtain ⟨Z2, hZ2⟩ : ∃ Z2, List.replicate 16 (Value.bool false) = Z2 := ⟨_, rfl⟩
  have hmk1 : ∀ W : World, (Instr.makeSlice 55 (.int .i64 16) (.int .i64 16)).run Try.prog W = .ok (.slice (some ⟨W.heap.size, 0, none⟩) 16 16) (W.alloc (.cells Z1.toArray 31)) := fun W => by
    rw [← hZ1]; exact run_make2 (P := Try.prog) 55 31 (.int .i64 0) (.agg #[.int .i64 0, .int .i64 0]) 16 Try.underlying55 (by kernel_rfl) rfl 16 (by omega) (by omega) W
  have hmk2 : ∀ W : World, (Instr.makeSlice 38 (.int .i64 16) (.int .i64 16)).run Try.prog W = .ok (.slice (some ⟨W.heap.size, 0, none⟩) 16 16) (W.alloc (.cells Z2.toArray 4)) := fun W => by
    rw [← hZ2]; exact run_make1 (P := Try.prog) 38 4 (.bool false) 1 Try.underlying38 (by kernel_rfl) rfl 16 (by omega) (by omega) W
  have hz1 : Z1 = grid0.1.flatMap pairCells := by rw [← hZ1]; rfl
  have hz2 : Z2 = grid0.2.map Value.bool := by rw [← hZ2]; rfl
  have hl := arrV_len hA
  obtain ⟨k0, hk0, _, _, hm2, hm21, hgv⟩ := obsV_of hO
  obtain rfl : n = k0 := by omega
  rw [hm] at hm2 hm21
  have h2 : 2 ≤ n := by omega
  have h7 : n ≤ 7 := by omega
  have hm1 : 1 ≤ m := by rw [hm2]; exact pairs_pos n h2 h7
  obtain ⟨bS, oS, rfl⟩ : ∃ b o, B = some ⟨b, o, none⟩ := by
    obtain ⟨b, o, rfl, _⟩ := rd_pair hs (getD_of (gs := seen) (k := 0) (by omega))
    exact ⟨b, o, rfl⟩
  have hgl := arrV_gLe hA
  clear hk0 hl
  have Hm2 := Lib.hid hm2; clear hm2
  have Hgl := Lib.hid hgl; clear hgl
  have Hgv := Lib.hid hgv; clear hgv
  have Hz1 := Lib.hid hz1; clear hz1
  have Hz2 := Lib.hid hz2; clear hz2
  have Hn := Lib.hid hn; clear hn
  have Hm := Lib.hid hm; clear hm
  have HA := Lib.hid hA; clear hA
  have HO := Lib.hid hO; clear hO
  clear hZ1 hZ2
  refine callsIn_of_wp_marks Try.func35 rfl trivial ?_ rfl
  simp only [Try.ntmps35, List.size_toArray, List.length_cons, List.length_nil, Nat.reduceAdd, Nat.reduceSub, Array.replicate_succ, Array.replicate_zero, List.push_toArray, List.append_toArray, List.nil_append, List.cons_append]
  gi_wp2_with fail
  have e2 := Boxed.new w 23 (.slice A n ca)
  have e3 := Boxed.new (w.alloc (.cells #[.slice A n ca] 23)) 55 (.slice (some ⟨bS, oS, none⟩) m cb)
  have e4 := Boxed.new ((w.alloc (.cells #[.slice A n ca] 23)).alloc (.cells #[.slice (some ⟨bS, oS, none⟩) m cb] 55)) 55 (.slice none 0 0)
  have e5 := Boxed.new (((w.alloc (.cells #[.slice A n ca] 23)).alloc (.cells #[.slice (some ⟨bS, oS, none⟩) m cb] 55)).alloc (.cells #[.slice none 0 0] 55)) 4 (.bool false)
  have b0 : Below w.heap.size w ((((w.alloc (.cells #[.slice A n ca] 23)).alloc (.cells #[.slice (some ⟨bS, oS, none⟩) m cb] 55)).alloc (.cells #[.slice none 0 0] 55)).alloc (.cells #[.bool false] 4)) := bA3.alloc (by simp; omega) _
  simp only [World.size_alloc] at e2 e3 e4 e5
  have e2 := ((e2.alloc (.cells #[.slice (some ⟨bS, oS, none⟩) m cb] 55)).alloc (.cells #[.slice none 0 0] 55)).alloc (.cells #[.bool false] 4)
  have e3 := (e3.alloc (.cells #[.slice none 0 0] 55)).alloc (.cells #[.bool false] 4)
  have e4 := e4.alloc (.cells #[.bool false] 4)
  obtain ⟨W1, hW1⟩ : ∃ W1, ((((w.alloc (.cells #[.slice A n ca] 23)).alloc (.cells #[.slice (some ⟨bS, oS, none⟩) m cb] 55)).alloc (.cells #[.slice none 0 0] 55)).alloc (.cells #[.bool false] 4)) = W1 := ⟨_, rfl⟩
  rw [hW1] at e2 e3 e4 e5 b0 ⊢
  clear hW1
  obtain ⟨s, hsw⟩ : ∃ s, w.heap.size = s := ⟨_, rfl⟩
  rw [hsw] at e2 e3 e4 e5 ⊢
  have Hsw := Lib.hid hsw
  clear hsw
  have hr1 := hr.ext b0
  have hs1 := hs.ext b0
  have c2 := e2.cell
  have c3 := e3.cell
  refine ⟨trivial, (callsIn_wide.2 (arrayValid_any A n ca ants _ Hn.out hk (by omega) hr1)).mono ?_⟩
  rintro e w1 ⟨rfl, b1⟩
  rw [HA.out]
  have B1 := b0.trans (b1.mono b0.size)
  have extX := (hr1.below b1).more b1.size; clear hr1; have hr1 := extX; clear extX
  have extX := (hs1.below b1).more b1.size; clear hs1; have hs1 := extX; clear extX
  have c2 := (bcl b1 e2.lt 0).trans c2
  have c3 := (bcl b1 e3.lt 0).trans c3
  have e2 := boxed_ext e2 b1
  have e3 := boxed_ext e3 b1
  have e4 := boxed_ext e4 b1
  have e5 := boxed_ext e5 b1
  clear b1
  gi_wp2_with fail
  refine ⟨trivial, (callsIn_wide.2 (isObservation_any n (some ⟨bS, oS, none⟩) m cb seen _ Hm.out (by omega) hs1)).mono ?_⟩
  rintro e w2 ⟨rfl, b2⟩
  rw [HO.out]
  have B2 := B1.trans (b2.mono B1.size)
  have extX := (hr1.below b2).more b2.size; clear hr1; have hr1 := extX; clear extX
  have extX := (hs1.below b2).more b2.size; clear hs1; have hs1 := extX; clear extX
  have c2 := (bcl b2 e2.lt 0).trans c2
  have c3 := (bcl b2 e3.lt 0).trans c3
  have e2 := boxed_ext e2 b2
  have e3 := boxed_ext e3 b2
  have e4 := boxed_ext e4 b2
  have e5 := boxed_ext e5 b2
  have l2 := e2.lt
  have l3 := e3.lt
  have l5 := e5.lt
  clear b2 B1 b0
  obtain ⟨g, hg⟩ : ∃ g, w2.heap.size = g := ⟨_, rfl⟩
  have alls : ∀ {j : Nat} {T : TypeId} {v : Value}, Boxed w2 j T v → Boxed ((((w2.alloc (.cells Z1.toArray 31)).alloc (.cells #[.slice (some ⟨g, 0, none⟩) 16 16] 55)).alloc (.cells Z2.toArray 4)).alloc (.cells #[.slice (some ⟨g + 1 + 1, 0, none⟩) 16 16] 38)) j T v := fun h => (((h.alloc _).alloc _).alloc _).alloc _
  have c2' := (alls e2).cell
  have g0 := Row.new w2 31 Z1
  have e6 := Boxed.new (w2.alloc (.cells Z1.toArray 31)) 55 (.slice (some ⟨g, 0, none⟩) 16 16)
  have k0 := Row.new ((w2.alloc (.cells Z1.toArray 31)).alloc (.cells #[.slice (some ⟨g, 0, none⟩) 16 16] 55)) 4 Z2
  have e7 := Boxed.new (((w2.alloc (.cells Z1.toArray 31)).alloc (.cells #[.slice (some ⟨g, 0, none⟩) 16 16] 55)).alloc (.cells Z2.toArray 4)) 38 (.slice (some ⟨g + 1 + 1, 0, none⟩) 16 16)
  have bq : Below w2.heap.size w2 ((((w2.alloc (.cells Z1.toArray 31)).alloc (.cells #[.slice (some ⟨g, 0, none⟩) 16 16] 55)).alloc (.cells Z2.toArray 4)).alloc (.cells #[.slice (some ⟨g + 1 + 1, 0, none⟩) 16 16] 38)) := bA3.alloc (by simp; omega) _
  simp only [World.size_alloc, hg] at g0 e6 k0 e7
  have g0 := ((g0.alloc (.cells #[.slice (some ⟨g, 0, none⟩) 16 16] 55)).alloc (.cells Z2.toArray 4)).alloc (.cells #[.slice (some ⟨g + 1 + 1, 0, none⟩) 16 16] 38)
  have e6 := (e6.alloc (.cells Z2.toArray 4)).alloc (.cells #[.slice (some ⟨g + 1 + 1, 0, none⟩) 16 16] 38)
  have k0 := k0.alloc (.cells #[.slice (some ⟨g + 1 + 1, 0, none⟩) 16 16] 38)
  have e2 := alls e2
  have e3 := alls e3
  have e4 := alls e4
  have e5 := alls e5
  have Hg := Lib.hid hg
  rw [← hg] at c2'
  clear hg alls
  gi_wp2_with fail
  refine ⟨trivial, (callsIn_wide.2 (bases_any _ _)).mono ?_⟩
  rintro e w' ⟨rfl, rfl⟩
  gi_wp2_with fail
  rw [Hg.out]
  clear c2' c2 c3 hmk1 hmk2
  have hsg : s + 4 ≤ g := by rw [← Hg.out]; omega
  have hB0 : Below w.heap.size w ((((w2.alloc (.cells Z1.toArray 31)).alloc (.cells #[.slice (some ⟨g, 0, none⟩) 16 16] 55)).alloc (.cells Z2.toArray 4)).alloc (.cells #[.slice (some ⟨g + 1 + 1, 0, none⟩) 16 16] 38)) := B2.trans (bq.mono B2.size)
  have hsz : g + 4 = ((((w2.alloc (.cells Z1.toArray 31)).alloc (.cells #[.slice (some ⟨g, 0, none⟩) 16 16] 55)).alloc (.cells Z2.toArray 4)).alloc (.cells #[.slice (some ⟨g + 1 + 1, 0, none⟩) 16 16] 38)).heap.size := by simp [Hg.out]
  obtain ⟨V, hV⟩ : ∃ V, ((((w2.alloc (.cells Z1.toArray 31)).alloc (.cells #[.slice (some ⟨g, 0, none⟩) 16 16] 55)).alloc (.cells Z2.toArray 4)).alloc (.cells #[.slice (some ⟨g + 1 + 1, 0, none⟩) 16 16] 38)) = V := ⟨_, rfl⟩
  simp only [hV] at g0 e6 k0 e7 e2 e3 e4 e5 hB0 hsz ⊢
  clear hV bq
  have e8 := Boxed.new V 3 (.int .i64 n)
  rw [← hsz] at e8
  have hb : GrI n ants seen A (some ⟨bS, oS, none⟩) ca m cb s g w [] (V.alloc (.cells #[.int .i64 n] 3)) :=
    ⟨⟨grid0, rfl, rfl, rfl, by rw [← Hz1.out]; exact g0.alloc _, by rw [← Hz2.out]; exact k0.alloc _⟩, e2.alloc _, e3.alloc _, e4.alloc _, e5.alloc _, e6.alloc _, e7.alloc _, e8, hB0.alloc hB0.size _⟩
  have hsz0 : g + 5 = (V.alloc (.cells #[.int .i64 n] 3)).heap.size := by rw [World.size_alloc, ← hsz]
  obtain ⟨W0, hW0⟩ : ∃ W0, V.alloc (.cells #[.int .i64 n] 3) = W0 := ⟨_, rfl⟩
  rw [hW0] at hb hsz0 ⊢
  have hs0 := hB0.size
  have Hb := Lib.hid hb
  clear g0 e6 k0 e7 e2 e3 e4 e5 e8 hB0 hsz hb hW0 B2 l2 l3 hr1 hs1
  refine wpIn_rangeFunc_ownG rfl (by omega) (gf := 122) (lb := #[.pointer (some ⟨g + 1 + 1 + 1 + 1, 0, none⟩)]) rfl trivial (enters_of Try.func122 (by kernel_rfl) rfl)
    (bases_stops 8 n h2 h7 (g + 1 + 1 + 1 + 1) _ (Hb.out.2.2.2.2.2.2.2.1.cell) (by omega)) KC_t (fun W l o o' _ h1 h2 _ => KC_b W l o o' h1 h2) (Below.refl _ _) (fun _ => rfl)
    (GrI n ants seen A (some ⟨bS, oS, none⟩) ca m cb s g w)
    (GrX n ants seen s w)
    (GrI_own n ants seen A _ ca m cb s g w _ (by have := Hsw.out; omega))
    (fun c => GrX_own n ants seen s w c _ (by have := Hsw.out; omega))
    Hb.out
    (fun x => { tmps := #[.slice A n ca, .slice (some ⟨bS, oS, none⟩) m cb, .pointer (some ⟨s, 0, none⟩), .pointer (some ⟨s + 1, 0, none⟩), .pointer (some ⟨s + 1 + 1, 0, none⟩), .pointer (some ⟨s + 1 + 1 + 1, 0, none⟩), .pointer (some ⟨g + 1, 0, none⟩), .pointer (some ⟨g + 1 + 1 + 1, 0, none⟩), .int .i64 (x.1.1 : Nat), .int .i64 (x.1.2 : Nat), undef, undef, undef, undef, undef,
      .slice A n ca, .bool true, .bool false, .bool false, .slice A n ca, .int .i64 n, .slice (some ⟨bS, oS, none⟩) m cb, .bool true, .bool false, .bool false, .slice (some ⟨g, 0, none⟩) 16 16, .slice (some ⟨g + 1 + 1, 0, none⟩) 16 16, .slice A n ca, .int .i64 n, .func (.func 122) #[] #[.pointer (some ⟨g + 1 + 1 + 1 + 1, 0, none⟩)], .int .i64 (x.1.1 : Nat), .int .i64 (x.1.2 : Nat),
      undef, undef, undef, undef, undef, undef, undef, undef, undef, undef, undef, undef, undef, undef, undef, undef, undef, undef, undef, undef, undef, undef, undef, undef, undef, undef, undef, undef, undef, undef, undef, undef, undef, undef, undef, undef, undef, undef, undef, undef, undef, undef, undef, undef, undef, undef, undef, undef, undef, undef, undef, undef, undef, undef, undef, undef], defers := [] }) ?assign ?body ?done ?stop
  case assign =>
    intro l x W K hK
    gi_wp2
    exact hK
  case body =>
    rintro l pre x W ⟨⟨⟨gs, kn⟩, hst, l1, l2, rG, rK⟩, b2, b3, b4, b5, b6, b7, b8, hbel⟩ hlt
    obtain ⟨x1, x2⟩ : x.1.1 < x.1.2 ∧ x.1.2 < n := x.2
    have hbs := hbel.size
    refine wpIn_block ?_
    have f2 : ∀ w', Below W.heap.size W w' → w'.cell? ⟨s, 0, none⟩ = some (.slice A n ca) := fun w' h => (bcl h b2.lt 0).trans b2.cell
    have f3 : ∀ w', Below W.heap.size W w' → w'.cell? ⟨s + 1, 0, none⟩ = some (.slice (some ⟨bS, oS, none⟩) m cb) := fun w' h => (bcl h b3.lt 0).trans b3.cell
    have hrW := (hr.below hbel).more hbs
    have hsW := (hs.below hbel).more hbs
    obtain ⟨hbn, hbl⟩ := bN_lt (p := x.1) h2 h7 x1 x2
    rw [← Hm2.out] at hbl
    have hbi := fun w' => baseAt_lt n x.1.1 x.1.2 w' (by omega) (by omega) (by omega)
    rw [hbn] at hbi
    obtain ⟨_, _, e, Lg⟩ := ld_pair hsW (k := bN n x.1) (by rw [Hm.out]; exact hbl)
    cases e
    obtain ⟨a, ha⟩ : ∃ a, seen.getD (bN n x.1) (0, 0) = a := ⟨_, rfl⟩
    obtain ⟨X, hX⟩ : ∃ X, vecX ants x.1.1 x.1.2 = X := ⟨_, rfl⟩
    obtain ⟨Y, hY⟩ : ∃ Y, vecY ants x.1.1 x.1.2 = Y := ⟨_, rfl⟩
    obtain ⟨c, hc⟩ : ∃ c, vecC ants x.1.1 x.1.2 = c := ⟨_, rfl⟩
    have hcI : cellI X Y = (c : Int) := by rw [← hc, ← hX, ← hY]; exact cellN_cast _ _
    have hoI : cellI (-X) (-Y) = (oppN c : Int) := by rw [cellN_cast, cellN_neg, ← hc, ← hX, ← hY]; rfl
    have hc16 : c < 16 := by rw [← hc]; exact vecC_lt _ _ _
    have hvb := vec_bd Hgl.out x.1.1 x.1.2
    rw [hX, hY] at hvb
    have hvec := fun w' (h : Below W.heap.size W w') => vector_any A n ca ants x.1.1 x.1.2 w' Hn.out (by omega) x2 Hgl.out (hrW.ext h)
    rw [hX, hY] at hvec
    rw [ha] at Lg
    have hga := gLe_get (fun y hy => by
      have h := List.all_eq_true.1 Hgv.out y hy
      exact gv_iff.1 h : gLe 1000000000 seen) (by omega) (bN n x.1)
    rw [ha] at hga
    have htwo := gridRun_two (p := x.1) hst ha hc
    obtain ⟨kb, hkb⟩ : ∃ kb, bN n x.1 = kb := ⟨_, rfl⟩
    rw [hkb] at hbi hbl Lg
    have Hst := Lib.hid hst; clear hst
    have Ha := Lib.hid ha; clear ha
    have HX := Lib.hid hX; clear hX
    have HY := Lib.hid hY; clear hY
    have Hc := Lib.hid hc; clear hc
    have HcI := Lib.hid hcI; clear hcI
    have HoI := Lib.hid hoI; clear hoI
    have Htwo := Lib.hid htwo; clear htwo
    have Hkb := Lib.hid hkb; clear hkb
    have Hbn := Lib.hid hbn; clear hbn
    dsimp only at l1 l2 rG rK
    gi_wp2_with fail
    refine wpIn_region_T [12, 13, 14, 15] [] [true, true, true, true, true, true, true, true, true, true, true, true, false, false, false, false] 4 (Below W.heap.size W)
      (fun a' w' => ∃ H1 H2, a' = ⟨#[.slice A n ca, .slice (some ⟨bS, oS, none⟩) m cb, .pointer (some ⟨s, 0, none⟩), .pointer (some ⟨s + 1, 0, none⟩), .pointer (some ⟨s + 1 + 1, 0, none⟩), .pointer (some ⟨s + 1 + 1 + 1, 0, none⟩), .pointer (some ⟨g + 1, 0, none⟩), .pointer (some ⟨g + 1 + 1 + 1, 0, none⟩), .int .i64 (x.1.1 : Nat), .int .i64 (x.1.2 : Nat), .pointer (some ⟨H1, 0, none⟩), .pointer (some ⟨H2, 0, none⟩), undef, undef, undef, .slice A n ca, .bool true, .bool false, .bool false, .slice A n ca, .int .i64 n, .slice (some ⟨bS, oS, none⟩) m cb, .bool true, .bool false, .bool false, .slice (some ⟨g, 0, none⟩) 16 16, .slice (some ⟨g + 1 + 1, 0, none⟩) 16 16, .slice A n ca, .int .i64 n, .func (.func 122) #[] #[.pointer (some ⟨g + 1 + 1 + 1 + 1, 0, none⟩)], .int .i64 (x.1.1 : Nat), .int .i64 (x.1.2 : Nat), .slice A n ca, .int .i64 (x.1.1 : Nat), .int .i64 (x.1.2 : Nat), .agg #[.int .i64 X, .int .i64 Y], .slice (some ⟨bS, oS, none⟩) m cb, .slice A n ca, .int .i64 n, .int .i64 (x.1.1 : Nat), .int .i64 (x.1.2 : Nat), .int .i64 kb, .pointer (some ⟨bS, oS + kb * 2, none⟩), .agg #[.int .i64 a.1, .int .i64 a.2], undef, undef, undef, undef, undef, undef, undef, undef, undef, undef, undef, undef, undef, undef, undef, undef, undef, undef, undef, undef, undef, undef, undef, undef, undef, undef, undef, undef, undef, undef, undef, undef, undef, undef, undef, undef, undef, undef, undef, undef, undef, undef, undef, undef], []⟩ ∧ Row w' H1 35 [.int .i64 X, .int .i64 Y] ∧ Row w' H2 31 [.int .i64 a.1, .int .i64 a.2] ∧ Below W.heap.size W w' ∧ W.heap.size ≤ H1 ∧ W.heap.size ≤ H2 ∧ H1 ≠ H2)
      (by kernel_rfl) (by kernel_rfl) (by kernel_rfl) (fun _ _ h h' => h.trans (h'.mono h.size)) (Below.refl _ _).drew ?next ?walk
    case walk =>
      refine wpStill_go (v := .slice A n ca) rfl rfl (stays_run fun w' h => ex_load rfl rfl (ld_one (by kernel_rfl) (f2 w' h))) ?_
      simp only [Act.put, List.setIfInBounds_toArray, List.set_cons_succ, List.set_cons_zero, Nat.reduceAdd]
      refine wpStill_go (v := .int .i64 x.1.1) rfl rfl (stays_run fun w' h => ex_move rfl rfl) ?_
      simp only [Act.put, List.setIfInBounds_toArray, List.set_cons_succ, List.set_cons_zero, Nat.reduceAdd]
      refine wpStill_go (v := .int .i64 x.1.2) rfl rfl (stays_run fun w' h => ex_move rfl rfl) ?_
      simp only [Act.put, List.setIfInBounds_toArray, List.set_cons_succ, List.set_cons_zero, Nat.reduceAdd]
      refine wpStill_go (v := .agg #[.int .i64 X, .int .i64 Y]) rfl rfl (stays_call (f := 70) (args := #[.slice A n ca, .int .i64 x.1.1, .int .i64 x.1.2]) (fun w' h => by simp [go_sem]) (fun w' _ => hvec w' ‹_›)) ?_
      simp only [Act.put, List.setIfInBounds_toArray, List.set_cons_succ, List.set_cons_zero, Nat.reduceAdd]
      refine wpStill_go (v := .slice (some ⟨bS, oS, none⟩) m cb) rfl rfl (stays_run fun w' h => ex_load rfl rfl (ld_one (by kernel_rfl) (f3 w' h))) ?_
      simp only [Act.put, List.setIfInBounds_toArray, List.set_cons_succ, List.set_cons_zero, Nat.reduceAdd]
      refine wpStill_go (v := .slice A n ca) rfl rfl (stays_run fun w' h => ex_load rfl rfl (ld_one (by kernel_rfl) (f2 w' h))) ?_
      simp only [Act.put, List.setIfInBounds_toArray, List.set_cons_succ, List.set_cons_zero, Nat.reduceAdd]
      refine wpStill_go (v := .int .i64 n) rfl rfl (stays_run fun w' h => ex_len rfl (by kernel_rfl) rfl) ?_
      simp only [Act.put, List.setIfInBounds_toArray, List.set_cons_succ, List.set_cons_zero, Nat.reduceAdd]
      refine wpStill_go (v := .int .i64 x.1.1) rfl rfl (stays_run fun w' h => ex_move rfl rfl) ?_
      simp only [Act.put, List.setIfInBounds_toArray, List.set_cons_succ, List.set_cons_zero, Nat.reduceAdd]
      refine wpStill_go (v := .int .i64 x.1.2) rfl rfl (stays_run fun w' h => ex_move rfl rfl) ?_
      simp only [Act.put, List.setIfInBounds_toArray, List.set_cons_succ, List.set_cons_zero, Nat.reduceAdd]
      refine wpStill_go (v := .int .i64 kb) rfl rfl (stays_call (f := 101) (args := #[.int .i64 n, .int .i64 x.1.1, .int .i64 x.1.2]) (fun w' h => by simp [go_sem]) (fun w' _ => (hbi w').mono fun e w'' ⟨h, h2⟩ => ⟨h, h2 ▸ Below.refl _ _⟩)) ?_
      simp only [Act.put, List.setIfInBounds_toArray, List.set_cons_succ, List.set_cons_zero, Nat.reduceAdd]
      refine wpStill_go (v := .pointer (some ⟨bS, oS + kb * 2, none⟩)) rfl rfl (stays_run fun w' h => ex_index rfl (by kernel_rfl) (by kernel_rfl) rfl rfl (hbl)) ?_
      simp only [Act.put, List.setIfInBounds_toArray, List.set_cons_succ, List.set_cons_zero, Nat.reduceAdd]
      refine wpStill_go (v := .agg #[.int .i64 a.1, .int .i64 a.2]) rfl rfl (stays_run fun w' h => ex_load rfl rfl (Lg w' h)) ?_
      simp only [Act.put, List.setIfInBounds_toArray, List.set_cons_succ, List.set_cons_zero, Nat.reduceAdd]
      refine wpStill_skip rfl (wpStill_skip rfl (wpStill_skip rfl (wpStill_skip rfl (wpStill_nil ?_))))
      refine wpTree_two (i := 12) (j := 13) (by kernel_rfl) rfl rfl rfl rfl (fun m1 hm1 K hK => ?_) (fun m1 hm1 K hK => ?_)
      · have E1 := (Below.refl W.heap.size W).drew.trans hm1
        go_wp2_with fail
        have E1a := E1.alloc E1.size (.cells #[.int .i64 0, .int .i64 0] 35)
        refine hK _ _ (fun _ => E1a) ?_
        clear hK
        have ra := Row.new m1 35 [.int .i64 0, .int .i64 0]
        obtain ⟨Ha, hHa⟩ : ∃ Ha, m1.heap.size = Ha := ⟨_, rfl⟩
        rw [hHa] at ra ⊢
        have hHaW : W.heap.size ≤ Ha := by rw [← hHa]; exact E1.size
        obtain ⟨V1, hV1⟩ : ∃ V1, m1.alloc (.cells #[.int .i64 0, .int .i64 0] 35) = V1 := ⟨_, rfl⟩
        rw [hV1] at ra E1a ⊢
        clear hV1 hHa hm1 E1
        refine wpTree_one (i := 13) (by kernel_rfl) rfl rfl (fun m2 hm2 K hK => ?_)
        have E2 := E1a.trans (hm2.mono E1a.size)
        have ra2 := ra.kept hm2
        go_wp2_with fail
        have E2a := E2.alloc E2.size (.cells #[.int .i64 0, .int .i64 0] 31)
        refine hK _ _ (fun _ => E2a) ?_
        clear hK
        have rb := Row.new m2 31 [.int .i64 0, .int .i64 0]
        have ra3 := ra2.alloc (.cells #[.int .i64 0, .int .i64 0] 31)
        have hab : Ha < m2.heap.size := ra2.lt
        obtain ⟨Hb, hHb⟩ : ∃ Hb, m2.heap.size = Hb := ⟨_, rfl⟩
        rw [hHb] at rb hab ⊢
        have hHbW : W.heap.size ≤ Hb := by omega
        obtain ⟨V2, hV2⟩ : ∃ V2, m2.alloc (.cells #[.int .i64 0, .int .i64 0] 31) = V2 := ⟨_, rfl⟩
        rw [hV2] at rb ra3 E2a ⊢
        clear hV2 hHb hm2 E2 E1a ra ra2
        have hne : Hb ≠ Ha := by omega
        refine wpTree_one (i := 14) (by kernel_rfl) rfl rfl (fun m3 hm3 K hK => ?_)
        have E3 := E2a.trans (hm3.mono E2a.size)
        have sA := ra3.kept hm3
        have sG := rb.kept hm3
        obtain ⟨c0, c1, c2, c3⟩ := sA.two
        go_wp2_with fail
        have E3s := (E3.setCell (p := ⟨Ha, 0, none⟩) (by assumption) (.int .i64 X)).setCell (p := ⟨Ha, 1, none⟩) (by assumption) (.int .i64 Y)
        refine hK _ _ (fun _ => E3s) ?_
        clear hK
        have sA := (sA.set_ 0 (.int .i64 X)).set_ 1 (.int .i64 Y)
        have sG := (sG.far (p := ⟨Ha, 0, none⟩) hne (.int .i64 X)).far (p := ⟨Ha, 1, none⟩) hne (.int .i64 Y)
        simp only [List.set_cons_zero, List.set_cons_succ] at sA
        obtain ⟨V3, hV3⟩ : ∃ V3, (m3.setCell ⟨Ha, 0, none⟩ (.int .i64 X)).setCell ⟨Ha, 1, none⟩ (.int .i64 Y) = V3 := ⟨_, rfl⟩
        rw [hV3] at sA sG E3s ⊢
        clear hV3 hm3 E3 E2a ra3 rb c0 c1 c2 c3
        refine wpTree_one (i := 15) (by kernel_rfl) rfl rfl (fun m4 hm4 K hK => ?_)
        have E4 := E3s.trans (hm4.mono E3s.size)
        have sA := sA.kept hm4
        have sG := sG.kept hm4
        obtain ⟨c0, c1, c2, c3⟩ := sG.two
        go_wp2_with fail
        have E4s := (E4.setCell (p := ⟨Hb, 0, none⟩) (by assumption) (.int .i64 a.1)).setCell (p := ⟨Hb, 1, none⟩) (by assumption) (.int .i64 a.2)
        refine hK _ _ (fun _ => E4s) (wpTree_nil (by kernel_rfl) fun m5 hm5 => ?_)
        have sG := (sG.set_ 0 (.int .i64 a.1)).set_ 1 (.int .i64 a.2)
        have sA := (sA.far (p := ⟨Hb, 0, none⟩) (Ne.symm hne) (.int .i64 a.1)).far (p := ⟨Hb, 1, none⟩) (Ne.symm hne) (.int .i64 a.2)
        simp only [List.set_cons_zero, List.set_cons_succ] at sG
        exact ⟨Ha, Hb, rfl, sA.kept hm5, sG.kept hm5, E4s.trans (hm5.mono E4s.size), by assumption, by assumption, Ne.symm hne⟩
      · have E1 := (Below.refl W.heap.size W).drew.trans hm1
        go_wp2_with fail
        have E1a := E1.alloc E1.size (.cells #[.int .i64 0, .int .i64 0] 31)
        refine hK _ _ (fun _ => E1a) ?_
        clear hK
        have ra := Row.new m1 31 [.int .i64 0, .int .i64 0]
        obtain ⟨Ha, hHa⟩ : ∃ Ha, m1.heap.size = Ha := ⟨_, rfl⟩
        rw [hHa] at ra ⊢
        have hHaW : W.heap.size ≤ Ha := by rw [← hHa]; exact E1.size
        obtain ⟨V1, hV1⟩ : ∃ V1, m1.alloc (.cells #[.int .i64 0, .int .i64 0] 31) = V1 := ⟨_, rfl⟩
        rw [hV1] at ra E1a ⊢
        clear hV1 hHa hm1 E1
        refine wpTree_one (i := 12) (by kernel_rfl) rfl rfl (fun m2 hm2 K hK => ?_)
        have E2 := E1a.trans (hm2.mono E1a.size)
        have ra2 := ra.kept hm2
        go_wp2_with fail
        have E2a := E2.alloc E2.size (.cells #[.int .i64 0, .int .i64 0] 35)
        refine hK _ _ (fun _ => E2a) ?_
        clear hK
        have rb := Row.new m2 35 [.int .i64 0, .int .i64 0]
        have ra3 := ra2.alloc (.cells #[.int .i64 0, .int .i64 0] 35)
        have hab : Ha < m2.heap.size := ra2.lt
        obtain ⟨Hb, hHb⟩ : ∃ Hb, m2.heap.size = Hb := ⟨_, rfl⟩
        rw [hHb] at rb hab ⊢
        have hHbW : W.heap.size ≤ Hb := by omega
        obtain ⟨V2, hV2⟩ : ∃ V2, m2.alloc (.cells #[.int .i64 0, .int .i64 0] 35) = V2 := ⟨_, rfl⟩
        rw [hV2] at rb ra3 E2a ⊢
        clear hV2 hHb hm2 E2 E1a ra ra2
        have hne : Ha ≠ Hb := by omega
        refine wpTree_one (i := 14) (by kernel_rfl) rfl rfl (fun m3 hm3 K hK => ?_)
        have E3 := E2a.trans (hm3.mono E2a.size)
        have sA := rb.kept hm3
        have sG := ra3.kept hm3
        obtain ⟨c0, c1, c2, c3⟩ := sA.two
        go_wp2_with fail
        have E3s := (E3.setCell (p := ⟨Hb, 0, none⟩) (by assumption) (.int .i64 X)).setCell (p := ⟨Hb, 1, none⟩) (by assumption) (.int .i64 Y)
        refine hK _ _ (fun _ => E3s) ?_
        clear hK
        have sA := (sA.set_ 0 (.int .i64 X)).set_ 1 (.int .i64 Y)
        have sG := (sG.far (p := ⟨Hb, 0, none⟩) hne (.int .i64 X)).far (p := ⟨Hb, 1, none⟩) hne (.int .i64 Y)
        simp only [List.set_cons_zero, List.set_cons_succ] at sA
        obtain ⟨V3, hV3⟩ : ∃ V3, (m3.setCell ⟨Hb, 0, none⟩ (.int .i64 X)).setCell ⟨Hb, 1, none⟩ (.int .i64 Y) = V3 := ⟨_, rfl⟩
        rw [hV3] at sA sG E3s ⊢
        clear hV3 hm3 E3 E2a ra3 rb c0 c1 c2 c3
        refine wpTree_one (i := 15) (by kernel_rfl) rfl rfl (fun m4 hm4 K hK => ?_)
        have E4 := E3s.trans (hm4.mono E3s.size)
        have sA := sA.kept hm4
        have sG := sG.kept hm4
        obtain ⟨c0, c1, c2, c3⟩ := sG.two
        go_wp2_with fail
        have E4s := (E4.setCell (p := ⟨Ha, 0, none⟩) (by assumption) (.int .i64 a.1)).setCell (p := ⟨Ha, 1, none⟩) (by assumption) (.int .i64 a.2)
        refine hK _ _ (fun _ => E4s) (wpTree_nil (by kernel_rfl) fun m5 hm5 => ?_)
        have sG := (sG.set_ 0 (.int .i64 a.1)).set_ 1 (.int .i64 a.2)
        have sA := (sA.far (p := ⟨Ha, 0, none⟩) (Ne.symm hne) (.int .i64 a.1)).far (p := ⟨Ha, 1, none⟩) (Ne.symm hne) (.int .i64 a.2)
        simp only [List.set_cons_zero, List.set_cons_succ] at sG
        exact ⟨Hb, Ha, rfl, sA.kept hm5, sG.kept hm5, E4s.trans (hm5.mono E4s.size), by assumption, by assumption, Ne.symm hne⟩
    case next =>
      rintro a' V ⟨H1, H2, rfl, rv, ra, hbV, hH1, hH2, hne⟩
      have rG := rG.kept hbV
      have rK := rK.kept hbV
      have b2 := boxed_ext b2 hbV
      have b3 := boxed_ext b3 hbV
      have b4 := boxed_ext b4 hbV
      have b5 := boxed_ext b5 hbV
      have b6 := boxed_ext b6 hbV
      have b7 := boxed_ext b7 hbV
      have b8 := boxed_ext b8 hbV
      have hbel2 := hbel.trans (hbV.mono hbs)
      have kV := keeps_ext hbV
      simp only [Exit.then]
      gi_wp2_with fail
      refine wpIn_region_N [8, 9] [] (by kernel_rfl) (by kernel_rfl) (by kernel_rfl) ?_
      refine wpStill_go (v := .agg #[.int .i64 X, .int .i64 Y]) rfl rfl (stays_run fun w' h => ex_load rfl rfl (ld_two (by kernel_rfl) (by kernel_rfl) ((rv.kept ‹_›).cell 0) ((rv.kept ‹_›).cell 1))) ?_
      simp only [Act.put, List.setIfInBounds_toArray, List.set_cons_succ, List.set_cons_zero, Nat.reduceAdd]
      refine wpStill_go (v := .agg #[.int .i64 a.1, .int .i64 a.2]) rfl rfl (stays_run fun w' h => ex_load rfl rfl (ld_two (by kernel_rfl) (by kernel_rfl) ((ra.kept ‹_›).cell 0) ((ra.kept ‹_›).cell 1))) ?_
      simp only [Act.put, List.setIfInBounds_toArray, List.set_cons_succ, List.set_cons_zero, Nat.reduceAdd]
      refine wpStill_go (v := .agg #[.int .i64 X, .int .i64 Y, .int .i64 a.1, .int .i64 a.2]) rfl rfl (stays_run fun w' h => by simp [go_sem]) ?_
      simp only [Act.put, List.setIfInBounds_toArray, List.set_cons_succ, List.set_cons_zero, Nat.reduceAdd]
      refine wpStill_go (v := .agg #[.int .i64 X, .int .i64 Y]) rfl rfl (stays_run fun w' h => ex_load rfl rfl (ld_two (by kernel_rfl) (by kernel_rfl) ((rv.kept ‹_›).cell 0) ((rv.kept ‹_›).cell 1))) ?_
      simp only [Act.put, List.setIfInBounds_toArray, List.set_cons_succ, List.set_cons_zero, Nat.reduceAdd]
      refine wpStill_go (v := .agg #[.int .i64 (-X), .int .i64 (-Y)]) rfl rfl (stays_call (f := 102) (args := #[.agg #[.int .i64 X, .int .i64 Y]]) (fun w' h => by simp [go_sem]) (fun w' _ => antOpp_any X Y w' (by omega) (by omega))) ?_
      simp only [Act.put, List.setIfInBounds_toArray, List.set_cons_succ, List.set_cons_zero, Nat.reduceAdd]
      refine wpStill_go (v := .agg #[.int .i64 a.1, .int .i64 a.2]) rfl rfl (stays_run fun w' h => ex_load rfl rfl (ld_two (by kernel_rfl) (by kernel_rfl) ((ra.kept ‹_›).cell 0) ((ra.kept ‹_›).cell 1))) ?_
      simp only [Act.put, List.setIfInBounds_toArray, List.set_cons_succ, List.set_cons_zero, Nat.reduceAdd]
      refine wpStill_go (v := .agg #[.int .i64 a.1, .int .i64 (-a.2)]) rfl rfl (stays_call (f := 103) (args := #[.agg #[.int .i64 a.1, .int .i64 a.2]]) (fun w' h => by simp [go_sem]) (fun w' _ => gaussConj_any a.1 a.2 w' (by omega))) ?_
      simp only [Act.put, List.setIfInBounds_toArray, List.set_cons_succ, List.set_cons_zero, Nat.reduceAdd]
      refine wpStill_go (v := .agg #[.int .i64 (-X), .int .i64 (-Y), .int .i64 a.1, .int .i64 (-a.2)]) rfl rfl (stays_run fun w' h => by simp [go_sem]) ?_
      simp only [Act.put, List.setIfInBounds_toArray, List.set_cons_succ, List.set_cons_zero, Nat.reduceAdd]
      refine wpStill_skip rfl (wpStill_skip rfl ?_)
      refine wpStill_go (v := .int .i64 0) rfl rfl (stays_run fun w' h => ex_move rfl rfl) ?_
      simp only [Act.put, List.setIfInBounds_toArray, List.set_cons_succ, List.set_cons_zero, Nat.reduceAdd]
      refine wpStill_nil ?_
      repeat (refine wpMark_skip rfl ?_)
      refine wpMark_go rfl (fun m1 hm1 K hK => ?_)
      go_wp2_with fail
      have F1 : Below V.heap.size V (m1.alloc (.cells #[.int .i64 X, .int .i64 Y, .int .i64 a.1, .int .i64 a.2, .int .i64 (-X), .int .i64 (-Y), .int .i64 a.1, .int .i64 (-a.2)] 121)) := ((Below.refl V.heap.size V).drew.trans hm1).alloc hm1.size _
      have rS := Row.new m1 121 [.int .i64 X, .int .i64 Y, .int .i64 a.1, .int .i64 a.2, .int .i64 (-X), .int .i64 (-Y), .int .i64 a.1, .int .i64 (-a.2)]
      refine hK _ _ (fun _ => F1) (wpMark_go rfl (fun m2 hm2 K hK => ?_))
      have F2 := F1.trans (hm2.mono F1.size)
      have rS := rS.kept hm2
      go_wp2_with fail
      refine hK _ _ (fun _ => F2) (wpMark_skip rfl (wpMark_nil fun V3 hm3 => ?_))
      have F3 := F2.trans (hm3.mono F2.size)
      have rS := rS.kept hm3
      have hSV : V.heap.size ≤ m1.heap.size := hm1.size
      obtain ⟨S, hS⟩ : ∃ S, m1.heap.size = S := ⟨_, rfl⟩
      rw [hS] at rS hSV ⊢
      clear hK hS hm1 hm2 hm3 F1 F2
      have hgV := rG.lt
      have hkV := rK.lt
      have rG := rG.kept F3
      have rK := rK.kept F3
      have b2 := boxed_ext b2 F3
      have b3 := boxed_ext b3 F3
      have b4 := boxed_ext b4 F3
      have b5 := boxed_ext b5 F3
      have b6 := boxed_ext b6 F3
      have b7 := boxed_ext b7 F3
      have b8 := boxed_ext b8 F3
      have hbel3 := hbel2.trans (F3.mono hbel2.size)
      have kV := kV.trans (keeps_ext F3)
      simp only [onlyN, Exit.then]
      clear F3 hbV f2 f3 hrW hsW hbi hvec Lg
      gi_wp2_with fail
      have hJ : GrJ n gs kn c a A (some ⟨bS, oS, none⟩) ca m cb s g S X Y w W 0 V3 := ⟨⟨_, rfl, l1, l2, rG, rK⟩, rS, b2, b3, b4, b5, b6, b7, b8, hbel3, kV⟩
      clear rG rK rS b2 b3 b4 b5 b6 b7 b8 hbel3 kV
      gi_loopw [54] (fun p wr => ∃ i : Nat, i ≤ 2 ∧ p = .int .i64 i ∧ GrJ n gs kn c a A (some ⟨bS, oS, none⟩) ca m cb s g S X Y w W i wr) (fun p _ => 2 - (intOf p).toNat)
      case atStart => exact ⟨0, by omega, rfl, hJ⟩
      case round =>
        obtain ⟨i, hi, rfl, ⟨⟨g1, kn1⟩, hst1, l11, l12, rG, rK⟩, rS, b2, b3, b4, b5, b6, b7, b8, hbel3, kV⟩ := hrel
        by_cases hlt2 : i < 2
        · obtain ⟨x', y', p, d, n0, n1, n2, n3, hdI, hd16, hlay⟩ := entC_at X Y a c (gs, kn) HcI.out HoI.out hc16 i hlt2
          have s0 := (rS.cell (i * 4)).trans n0
          have s1 := (rS.cell (i * 4 + 1)).trans n1
          have s2 := (rS.cell (i * 4 + 2)).trans n2
          have s3 := (rS.cell (i * 4 + 3)).trans n3
          have hnoX : gput (g1, kn1) d p = none → gridRun (gridEP ants seen n ((pre ++ [x]).map (·.1))) = none := fun h => by
            rw [List.map_append, List.map_singleton, Htwo.out]
            refine layN_no hlt2 ?_
            rw [hlay, hst1]
            exact h
          have hyes : ∀ st2, gput (g1, kn1) d p = some st2 → layN (gs, kn) c a (i + 1) = some st2 := fun st2 h => by rw [hlay, hst1]; exact h
          have hnoX := And.intro hnoX hyes
          dsimp only at l11 l12 rG rK
          clear hyes
          have Hst1 := Lib.hid hst1; clear hst1
          have Hlay := Lib.hid hlay; clear hlay
          have HnoX := Lib.hid hnoX; clear hnoX
          have HdI := Lib.hid hdI; clear hdI
          clear n0 n1 n2 n3
          gi_wp2_with fail
          refine ⟨trivial, ((callsIn_wide.2 (cellAt_any x' y' _)).inRound l).mono ?_⟩
          rintro e w5 ⟨rfl, rfl⟩
          rw [HdI.out]
          have rt := Row.new wr 121 [.int .i64 x', .int .i64 y', .int .i64 p.1, .int .i64 p.2]
          have E := bA1 (w := wr) (o := .cells #[.int .i64 x', .int .i64 y', .int .i64 p.1, .int .i64 p.2] 121)
          have hSw := rS.lt
          have rG := rG.kept E
          have rK := rK.kept E
          have rS := rS.kept E
          have b2 := boxed_ext b2 E
          have b3 := boxed_ext b3 E
          have b4 := boxed_ext b4 E
          have b5 := boxed_ext b5 E
          have b6 := boxed_ext b6 E
          have b7 := boxed_ext b7 E
          have b8 := boxed_ext b8 E
          have hbel3 := hbel3.alloc hbel3.size (.cells #[.int .i64 x', .int .i64 y', .int .i64 p.1, .int .i64 p.2] 121)
          have kV := kV.trans (keeps_ext E)
          obtain ⟨U, hU⟩ : ∃ U, wr.alloc (.cells #[.int .i64 x', .int .i64 y', .int .i64 p.1, .int .i64 p.2] 121) = U := ⟨_, rfl⟩
          obtain ⟨H3, hH3⟩ : ∃ H3, wr.heap.size = H3 := ⟨_, rfl⟩
          rw [hU] at rt rG rK rS b2 b3 b4 b5 b6 b7 b8 hbel3 kV ⊢
          simp only [hH3] at rt hSw ⊢
          clear E hU s0 s1 s2 s3
          obtain ⟨mk, hmk⟩ : ∃ mk, kn1.getD d false = mk := ⟨_, rfl⟩
          obtain ⟨z, hz⟩ : ∃ z, g1.getD d (0, 0) = z := ⟨_, rfl⟩
          have pk := bools_get (cs := kn1) (k := d) (by rw [l12]; exact hd16)
          rw [hmk] at pk
          have cK := (rK.cell d).trans pk
          have hz? := getD_of (gs := g1) (k := d) (by rw [l11]; exact hd16)
          rw [hz] at hz?
          obtain ⟨p0, p1⟩ := pairCells_get g1 d z hz?
          have cG0 := (rG.cell (d * 2)).trans p0
          have cG1 := (rG.cell (d * 2 + 1)).trans p1
          have f6 : ∀ w', Below U.heap.size U w' → w'.cell? ⟨g + 1, 0, none⟩ = some (.slice (some ⟨g, 0, none⟩) 16 16) := fun w' h => (bcl h b6.lt 0).trans b6.cell
          have f7 : ∀ w', Below U.heap.size U w' → w'.cell? ⟨g + 1 + 1 + 1, 0, none⟩ = some (.slice (some ⟨g + 1 + 1, 0, none⟩) 16 16) := fun w' h => (bcl h b7.lt 0).trans b7.cell
          have LK : ∀ w', Below U.heap.size U w' → w'.cell? ⟨g + 1 + 1, 0 + d * 1, none⟩ = some (.bool mk) := fun w' h => by rw [Nat.zero_add, Nat.mul_one]; exact (bcl h rK.lt _).trans cK
          have LG : ∀ w', Below U.heap.size U w' → (Instr.loadAt 31 (.pointer (some ⟨g, 0 + d * 2, none⟩))).run Try.prog w' = .ok (.agg #[.int .i64 z.1, .int .i64 z.2]) w' := fun w' h => by
            rw [Nat.zero_add]; exact ld_two (by kernel_rfl) (by kernel_rfl) ((bcl h rG.lt _).trans cG0) ((bcl h rG.lt _).trans cG1)
          have La : ∀ w', Below U.heap.size U w' → (Instr.loadAt 31 (.pointer (some ⟨H3, 2, none⟩))).run Try.prog w' = .ok (.agg #[.int .i64 p.1, .int .i64 p.2]) w' := fun w' h => ld_two (by kernel_rfl) (by kernel_rfl) ((rt.kept h).cell 2) ((rt.kept h).cell 3)
          have Hno := Lib.hid (fun h1 h2 => gput_no (g := g1) (kn := kn1) (i := d) (x := p) h1 h2)
          have Hyes := Lib.hid (fun h => gput_yes (g := g1) (kn := kn1) (i := d) (x := p) h)
          have PK := Lib.hid pk
          have P0 := Lib.hid p0
          have P1 := Lib.hid p1
          clear pk p0 p1 cK cG0 cG1
          have Hmk := Lib.hid hmk; clear hmk
          have Hz := Lib.hid hz; clear hz
          have Hz? := Lib.hid hz?; clear hz?
          gi_wp2_with fail
          cases mk
          · have HGP := Lib.hid (Hyes.out (.inl Hmk.out))
            refine wpIn_region_N [] [] (by kernel_rfl) (by kernel_rfl) (by kernel_rfl) ?_
            refine wpStill_go (v := .slice (some ⟨g + 1 + 1, 0, none⟩) 16 16) rfl rfl (stays_run fun w' h => ex_load rfl rfl (ld_one (by kernel_rfl) (f7 w' h))) ?_
            simp only [Act.put, List.setIfInBounds_toArray, List.set_cons_succ, List.set_cons_zero, Nat.reduceAdd]
            refine wpStill_go (v := .int .i64 d) rfl rfl (stays_run fun w' h => ex_move rfl rfl) ?_
            simp only [Act.put, List.setIfInBounds_toArray, List.set_cons_succ, List.set_cons_zero, Nat.reduceAdd]
            refine wpStill_go (v := .pointer (some ⟨g + 1 + 1, 0 + d * 1, none⟩)) rfl rfl (stays_run fun w' h => ex_index rfl (by kernel_rfl) (by kernel_rfl) rfl rfl (hd16)) ?_
            simp only [Act.put, List.setIfInBounds_toArray, List.set_cons_succ, List.set_cons_zero, Nat.reduceAdd]
            refine wpStill_go (v := .bool false) rfl rfl (stays_run fun w' h => ex_load rfl rfl (ld_one (by kernel_rfl) (LK w' h))) ?_
            simp only [Act.put, List.setIfInBounds_toArray, List.set_cons_succ, List.set_cons_zero, Nat.reduceAdd]
            refine wpStill_go (v := .bool false) rfl rfl (stays_run fun w' h => ex_move rfl rfl) ?_
            simp only [Act.put, List.setIfInBounds_toArray, List.set_cons_succ, List.set_cons_zero, Nat.reduceAdd]
            refine wpStill_off rfl (by kernel_rfl) ?_
            simp only [Act.put, List.setIfInBounds_toArray, List.set_cons_succ, List.set_cons_zero, Nat.reduceAdd]
            refine wpStill_off rfl (by kernel_rfl) ?_
            simp only [Act.put, List.setIfInBounds_toArray, List.set_cons_succ, List.set_cons_zero, Nat.reduceAdd]
            refine wpStill_off rfl (by kernel_rfl) ?_
            simp only [Act.put, List.setIfInBounds_toArray, List.set_cons_succ, List.set_cons_zero, Nat.reduceAdd]
            refine wpStill_off rfl (by kernel_rfl) ?_
            simp only [Act.put, List.setIfInBounds_toArray, List.set_cons_succ, List.set_cons_zero, Nat.reduceAdd]
            refine wpStill_off rfl (by kernel_rfl) ?_
            simp only [Act.put, List.setIfInBounds_toArray, List.set_cons_succ, List.set_cons_zero, Nat.reduceAdd]
            refine wpStill_off rfl (by kernel_rfl) ?_
            simp only [Act.put, List.setIfInBounds_toArray, List.set_cons_succ, List.set_cons_zero, Nat.reduceAdd]
            refine wpStill_off rfl (by kernel_rfl) ?_
            simp only [Act.put, List.setIfInBounds_toArray, List.set_cons_succ, List.set_cons_zero, Nat.reduceAdd]
            refine wpStill_go (v := .bool false) rfl rfl (stays_run fun w' h => by simp [go_sem]) ?_
            simp only [Act.put, List.setIfInBounds_toArray, List.set_cons_succ, List.set_cons_zero, Nat.reduceAdd]
            refine wpStill_nil ?_
            repeat (refine wpMark_skip rfl ?_)
            refine wpMark_nil fun U2 hU2 => ?_
            have hU2 := (Below.refl U.heap.size U).drew.trans hU2
            simp only [onlyN, Exit.then]
            have rt := rt.kept hU2
            have rG := rG.kept hU2
            have rK := rK.kept hU2
            have rS := rS.kept hU2
            have b2 := boxed_ext b2 hU2
            have b3 := boxed_ext b3 hU2
            have b4 := boxed_ext b4 hU2
            have b5 := boxed_ext b5 hU2
            have b6 := boxed_ext b6 hU2
            have b7 := boxed_ext b7 hU2
            have b8 := boxed_ext b8 hU2
            have hbel3 := hbel3.trans (hU2.mono hbel3.size)
            have kV := kV.trans (keeps_ext hU2)
            have hHU : H3 < U2.heap.size := rt.lt
            have kc : ∀ {j i : Nat} {v : Value} {w' : World}, Kept2 g (g + 1 + 1) U2 w' → j < U2.heap.size → j ≠ g → j ≠ g + 1 + 1 → U2.cell? ⟨j, i, none⟩ = some v → w'.cell? ⟨j, i, none⟩ = some v := fun h hj h1 h2 hc => by
              have := h.block _ hj h1 h2
              unfold World.cell? at hc ⊢
              simpa only [this] using hc
            have F6 : ∀ w', Kept2 g (g + 1 + 1) U2 w' → w'.cell? ⟨g + 1, 0, none⟩ = some (.slice (some ⟨g, 0, none⟩) 16 16) := fun w' h => kc h b6.lt (by omega) (by omega) b6.cell
            have F7 : ∀ w', Kept2 g (g + 1 + 1) U2 w' → w'.cell? ⟨g + 1 + 1 + 1, 0, none⟩ = some (.slice (some ⟨g + 1 + 1, 0, none⟩) 16 16) := fun w' h => kc h b7.lt (by omega) (by omega) b7.cell
            have La : ∀ w', Kept2 g (g + 1 + 1) U2 w' → (Instr.loadAt 31 (.pointer (some ⟨H3, 2, none⟩))).run Try.prog w' = .ok (.agg #[.int .i64 p.1, .int .i64 p.2]) w' := fun w' h => ld_two (by kernel_rfl) (by kernel_rfl) (kc h hHU (by omega) (by omega) (rt.cell 2)) (kc h hHU (by omega) (by omega) (rt.cell 3))
            clear f6 f7 LK LG
            gi_wp2_with fail
            refine wpIn_region_C [7, 8, 9] [] (Kept2 g (g + 1 + 1) U2) (by kernel_rfl) (by kernel_rfl) (by kernel_rfl) (fun w w' h h' => h.trans (.of_below h')) (.of_below (Below.refl _ U2).drew) ?_
            refine wpStill_go (v := .slice (some ⟨g + 1 + 1, 0, none⟩) 16 16) rfl rfl (stays_run fun w' h => ex_load rfl rfl (ld_one (by kernel_rfl) (F7 w' h))) ?_
            simp only [Act.put, List.setIfInBounds_toArray, List.set_cons_succ, List.set_cons_zero, Nat.reduceAdd]
            refine wpStill_go (v := .int .i64 d) rfl rfl (stays_run fun w' h => ex_move rfl rfl) ?_
            simp only [Act.put, List.setIfInBounds_toArray, List.set_cons_succ, List.set_cons_zero, Nat.reduceAdd]
            refine wpStill_go (v := .slice (some ⟨g, 0, none⟩) 16 16) rfl rfl (stays_run fun w' h => ex_load rfl rfl (ld_one (by kernel_rfl) (F6 w' h))) ?_
            simp only [Act.put, List.setIfInBounds_toArray, List.set_cons_succ, List.set_cons_zero, Nat.reduceAdd]
            refine wpStill_go (v := .int .i64 d) rfl rfl (stays_run fun w' h => ex_move rfl rfl) ?_
            simp only [Act.put, List.setIfInBounds_toArray, List.set_cons_succ, List.set_cons_zero, Nat.reduceAdd]
            refine wpStill_go (v := .pointer (some ⟨H3, 2, none⟩)) rfl rfl (stays_run fun w' h => by simp [go_sem]) ?_
            simp only [Act.put, List.setIfInBounds_toArray, List.set_cons_succ, List.set_cons_zero, Nat.reduceAdd]
            refine wpStill_go (v := .agg #[.int .i64 p.1, .int .i64 p.2]) rfl rfl (stays_run fun w' h => ex_load rfl rfl (La w' h)) ?_
            simp only [Act.put, List.setIfInBounds_toArray, List.set_cons_succ, List.set_cons_zero, Nat.reduceAdd]
            refine wpStill_go (v := .pointer (some ⟨g + 1 + 1, 0 + d * 1, none⟩)) rfl rfl (stays_run fun w' h => ex_index rfl (by kernel_rfl) (by kernel_rfl) rfl rfl (hd16)) ?_
            simp only [Act.put, List.setIfInBounds_toArray, List.set_cons_succ, List.set_cons_zero, Nat.reduceAdd]
            refine wpStill_skip rfl (wpStill_skip rfl (wpStill_skip rfl (wpStill_nil ?_)))
            repeat (refine wpMark_skip rfl ?_)
            clear F6 F7 La
            refine wpMark_go rfl (fun m1 hm1 K hK => ?_)
            have E1 := (Below.refl U2.heap.size U2).drew.trans hm1
            have cK1 := ((rK.kept E1).cell d).trans PK.out
            have fK1 := (rK.kept E1).frozen d
            have hgo2 : g + 1 + 1 ≠ g := by omega
            have rK1 := (rK.kept E1).set_ d (.bool true)
            have rG1 := (rG.kept E1).far (p := ⟨g + 1 + 1, d, none⟩) (by show g ≠ g + 1 + 1; omega) (.bool true)
            have k1 : Kept2 g (g + 1 + 1) U2 (m1.setCell ⟨g + 1 + 1, d, none⟩ (.bool true)) := (Kept2.of_below E1).trans (Kept2.set_b d _)
            have q1 := (keeps_ext E1).trans (KeepsOthers.setCell m1 ⟨g + 1 + 1, d, none⟩ (.bool true))
            go_wp2_with fail
            refine hK _ _ (fun _ => k1) ?_
            obtain ⟨V1, hV1⟩ : ∃ V1, m1.setCell ⟨g + 1 + 1, d, none⟩ (.bool true) = V1 := ⟨_, rfl⟩
            rw [hV1] at rK1 rG1 k1 q1 ⊢
            clear hK cK1 fK1 hV1 E1 hm1
            refine wpMark_go rfl (fun m2 hm2 K hK => ?_)
            have k2 := k1.trans (.of_below hm2)
            go_wp2_with fail
            refine hK _ _ (fun _ => k2) ?_
            clear hK
            refine wpMark_go rfl (fun m3 hm3 K hK => ?_)
            have E3 := hm2.trans hm3
            have k3 := k1.trans (.of_below E3)
            have rG3 := rG1.kept E3
            have rK3 := rK1.kept E3
            have cG30 := (rG3.cell (d * 2)).trans P0.out
            have cG31 := (rG3.cell (d * 2 + 1)).trans P1.out
            have fG30 := rG3.frozen (d * 2)
            have fG31 := rG3.frozen (d * 2 + 1)
            have rG4 := (rG3.set_ (d * 2) (.int .i64 p.1)).set_ (d * 2 + 1) (.int .i64 p.2)
            have rK4 := (rK3.far (p := ⟨g, d * 2, none⟩) (by show g + 1 + 1 ≠ g; omega) (.int .i64 p.1)).far (p := ⟨g, d * 2 + 1, none⟩) (by show g + 1 + 1 ≠ g; omega) (.int .i64 p.2)
            rw [pairs_set g1 d p (by rw [l11]; exact hd16)] at rG4
            rw [← List.map_set] at rK4
            have k4 : Kept2 g (g + 1 + 1) U2 ((m3.setCell ⟨g, d * 2, none⟩ (.int .i64 p.1)).setCell ⟨g, d * 2 + 1, none⟩ (.int .i64 p.2)) := (k3.trans (Kept2.set_a (d * 2) _)).trans (Kept2.set_a (d * 2 + 1) _)
            have q4 := ((q1.trans (keeps_ext E3)).trans (KeepsOthers.setCell m3 ⟨g, d * 2, none⟩ (.int .i64 p.1))).trans (KeepsOthers.setCell _ ⟨g, d * 2 + 1, none⟩ (.int .i64 p.2))
            go_wp2_with fail
            refine hK _ _ (fun _ => k4) (wpMark_nil fun U4 hU4 => ?_)
            simp only [onlyN]
            have k5 := k4.trans (.of_below hU4)
            have rG5 := rG4.kept hU4
            have rK5 := rK4.kept hU4
            have q5 := q4.trans (keeps_ext hU4)
            have rS5 := k5.row rS (by omega) (by omega)
            have bx : ∀ {j : Nat} {T : TypeId} {v : Value}, Boxed U2 j T v → j ≠ g → j ≠ g + 1 + 1 → Boxed U4 j T v := fun h h1 h2 => (k5.block _ h.lt h1 h2).trans h
            have hbel5 := k5.below hbel3 (by have := Hsw.out; omega) (by have := Hsw.out; omega) hbel3.size
            have hJ2 : GrJ n gs kn c a A (some ⟨bS, oS, none⟩) ca m cb s g S X Y w W (i + 1) U4 :=
              ⟨⟨_, HnoX.out.2 _ HGP.out, by rw [List.length_set]; exact l11, by rw [List.length_set]; exact l12, rG5, rK5⟩, rS5, bx b2 (by omega) (by omega), bx b3 (by omega) (by omega), bx b4 (by omega) (by omega), bx b5 (by omega) (by omega), bx b6 (by omega) (by omega), bx b7 (by omega) (by omega), bx b8 (by omega) (by omega), hbel5, kV.trans q5⟩
            have HJ2 := Lib.hid hJ2
            clear hJ2 bx k5 rG5 rK5 q5 rS5 hbel5 k4 rG4 rK4 q4 cG30 cG31 fG30 fG31 k3 rG3 rK3 E3 hm3 hK k1 rK1 rG1 q1 hm2 k2 hU4
            gi_wp2_with fail
            go_roundw
            case rel => exact ⟨i + 1, by omega, by go_num, HJ2.out⟩
            case measure => simp [intOf]; omega
          · by_cases hzp : z = p
            · have HGP := Lib.hid (Hyes.out (.inr (Hz.out.trans hzp)))
              have Hzp := Lib.hid hzp
              clear hzp
              refine wpIn_region_N [] [] (by kernel_rfl) (by kernel_rfl) (by kernel_rfl) ?_
              refine wpStill_go (v := .slice (some ⟨g + 1 + 1, 0, none⟩) 16 16) rfl rfl (stays_run fun w' h => ex_load rfl rfl (ld_one (by kernel_rfl) (f7 w' h))) ?_
              simp only [Act.put, List.setIfInBounds_toArray, List.set_cons_succ, List.set_cons_zero, Nat.reduceAdd]
              refine wpStill_go (v := .int .i64 d) rfl rfl (stays_run fun w' h => ex_move rfl rfl) ?_
              simp only [Act.put, List.setIfInBounds_toArray, List.set_cons_succ, List.set_cons_zero, Nat.reduceAdd]
              refine wpStill_go (v := .pointer (some ⟨g + 1 + 1, 0 + d * 1, none⟩)) rfl rfl (stays_run fun w' h => ex_index rfl (by kernel_rfl) (by kernel_rfl) rfl rfl (hd16)) ?_
              simp only [Act.put, List.setIfInBounds_toArray, List.set_cons_succ, List.set_cons_zero, Nat.reduceAdd]
              refine wpStill_go (v := .bool true) rfl rfl (stays_run fun w' h => ex_load rfl rfl (ld_one (by kernel_rfl) (LK w' h))) ?_
              simp only [Act.put, List.setIfInBounds_toArray, List.set_cons_succ, List.set_cons_zero, Nat.reduceAdd]
              refine wpStill_go (v := .bool true) rfl rfl (stays_run fun w' h => ex_move rfl rfl) ?_
              simp only [Act.put, List.setIfInBounds_toArray, List.set_cons_succ, List.set_cons_zero, Nat.reduceAdd]
              refine wpStill_go (v := .slice (some ⟨g, 0, none⟩) 16 16) rfl rfl (stays_run fun w' h => ex_load rfl rfl (ld_one (by kernel_rfl) (f6 w' h))) ?_
              simp only [Act.put, List.setIfInBounds_toArray, List.set_cons_succ, List.set_cons_zero, Nat.reduceAdd]
              refine wpStill_go (v := .int .i64 d) rfl rfl (stays_run fun w' h => ex_move rfl rfl) ?_
              simp only [Act.put, List.setIfInBounds_toArray, List.set_cons_succ, List.set_cons_zero, Nat.reduceAdd]
              refine wpStill_go (v := .pointer (some ⟨g, 0 + d * 2, none⟩)) rfl rfl (stays_run fun w' h => ex_index rfl (by kernel_rfl) (by kernel_rfl) rfl rfl (hd16)) ?_
              simp only [Act.put, List.setIfInBounds_toArray, List.set_cons_succ, List.set_cons_zero, Nat.reduceAdd]
              refine wpStill_go (v := .agg #[.int .i64 z.1, .int .i64 z.2]) rfl rfl (stays_run fun w' h => ex_load rfl rfl (LG w' h)) ?_
              simp only [Act.put, List.setIfInBounds_toArray, List.set_cons_succ, List.set_cons_zero, Nat.reduceAdd]
              refine wpStill_go (v := .pointer (some ⟨H3, 2, none⟩)) rfl rfl (stays_run fun w' h => by simp [go_sem]) ?_
              simp only [Act.put, List.setIfInBounds_toArray, List.set_cons_succ, List.set_cons_zero, Nat.reduceAdd]
              refine wpStill_go (v := .agg #[.int .i64 p.1, .int .i64 p.2]) rfl rfl (stays_run fun w' h => ex_load rfl rfl (La w' h)) ?_
              simp only [Act.put, List.setIfInBounds_toArray, List.set_cons_succ, List.set_cons_zero, Nat.reduceAdd]
              refine wpStill_go (v := .bool false) rfl rfl (stays_run fun w' h => by simp [go_sem, Hzp.out]) ?_
              simp only [Act.put, List.setIfInBounds_toArray, List.set_cons_succ, List.set_cons_zero, Nat.reduceAdd]
              refine wpStill_go (v := .bool false) rfl rfl (stays_run fun w' h => by simp [go_sem]) ?_
              simp only [Act.put, List.setIfInBounds_toArray, List.set_cons_succ, List.set_cons_zero, Nat.reduceAdd]
              refine wpStill_nil ?_
              repeat (refine wpMark_skip rfl ?_)
              refine wpMark_nil fun U2 hU2 => ?_
              have hU2 := (Below.refl U.heap.size U).drew.trans hU2
              simp only [onlyN, Exit.then]
              have rt := rt.kept hU2
              have rG := rG.kept hU2
              have rK := rK.kept hU2
              have rS := rS.kept hU2
              have b2 := boxed_ext b2 hU2
              have b3 := boxed_ext b3 hU2
              have b4 := boxed_ext b4 hU2
              have b5 := boxed_ext b5 hU2
              have b6 := boxed_ext b6 hU2
              have b7 := boxed_ext b7 hU2
              have b8 := boxed_ext b8 hU2
              have hbel3 := hbel3.trans (hU2.mono hbel3.size)
              have kV := kV.trans (keeps_ext hU2)
              have hHU : H3 < U2.heap.size := rt.lt
              have kc : ∀ {j i : Nat} {v : Value} {w' : World}, Kept2 g (g + 1 + 1) U2 w' → j < U2.heap.size → j ≠ g → j ≠ g + 1 + 1 → U2.cell? ⟨j, i, none⟩ = some v → w'.cell? ⟨j, i, none⟩ = some v := fun h hj h1 h2 hc => by
                have := h.block _ hj h1 h2
                unfold World.cell? at hc ⊢
                simpa only [this] using hc
              have F6 : ∀ w', Kept2 g (g + 1 + 1) U2 w' → w'.cell? ⟨g + 1, 0, none⟩ = some (.slice (some ⟨g, 0, none⟩) 16 16) := fun w' h => kc h b6.lt (by omega) (by omega) b6.cell
              have F7 : ∀ w', Kept2 g (g + 1 + 1) U2 w' → w'.cell? ⟨g + 1 + 1 + 1, 0, none⟩ = some (.slice (some ⟨g + 1 + 1, 0, none⟩) 16 16) := fun w' h => kc h b7.lt (by omega) (by omega) b7.cell
              have La : ∀ w', Kept2 g (g + 1 + 1) U2 w' → (Instr.loadAt 31 (.pointer (some ⟨H3, 2, none⟩))).run Try.prog w' = .ok (.agg #[.int .i64 p.1, .int .i64 p.2]) w' := fun w' h => ld_two (by kernel_rfl) (by kernel_rfl) (kc h hHU (by omega) (by omega) (rt.cell 2)) (kc h hHU (by omega) (by omega) (rt.cell 3))
              clear f6 f7 LK LG
              gi_wp2_with fail
              refine wpIn_region_C [7, 8, 9] [] (Kept2 g (g + 1 + 1) U2) (by kernel_rfl) (by kernel_rfl) (by kernel_rfl) (fun w w' h h' => h.trans (.of_below h')) (.of_below (Below.refl _ U2).drew) ?_
              refine wpStill_go (v := .slice (some ⟨g + 1 + 1, 0, none⟩) 16 16) rfl rfl (stays_run fun w' h => ex_load rfl rfl (ld_one (by kernel_rfl) (F7 w' h))) ?_
              simp only [Act.put, List.setIfInBounds_toArray, List.set_cons_succ, List.set_cons_zero, Nat.reduceAdd]
              refine wpStill_go (v := .int .i64 d) rfl rfl (stays_run fun w' h => ex_move rfl rfl) ?_
              simp only [Act.put, List.setIfInBounds_toArray, List.set_cons_succ, List.set_cons_zero, Nat.reduceAdd]
              refine wpStill_go (v := .slice (some ⟨g, 0, none⟩) 16 16) rfl rfl (stays_run fun w' h => ex_load rfl rfl (ld_one (by kernel_rfl) (F6 w' h))) ?_
              simp only [Act.put, List.setIfInBounds_toArray, List.set_cons_succ, List.set_cons_zero, Nat.reduceAdd]
              refine wpStill_go (v := .int .i64 d) rfl rfl (stays_run fun w' h => ex_move rfl rfl) ?_
              simp only [Act.put, List.setIfInBounds_toArray, List.set_cons_succ, List.set_cons_zero, Nat.reduceAdd]
              refine wpStill_go (v := .pointer (some ⟨H3, 2, none⟩)) rfl rfl (stays_run fun w' h => by simp [go_sem]) ?_
              simp only [Act.put, List.setIfInBounds_toArray, List.set_cons_succ, List.set_cons_zero, Nat.reduceAdd]
              refine wpStill_go (v := .agg #[.int .i64 p.1, .int .i64 p.2]) rfl rfl (stays_run fun w' h => ex_load rfl rfl (La w' h)) ?_
              simp only [Act.put, List.setIfInBounds_toArray, List.set_cons_succ, List.set_cons_zero, Nat.reduceAdd]
              refine wpStill_go (v := .pointer (some ⟨g + 1 + 1, 0 + d * 1, none⟩)) rfl rfl (stays_run fun w' h => ex_index rfl (by kernel_rfl) (by kernel_rfl) rfl rfl (hd16)) ?_
              simp only [Act.put, List.setIfInBounds_toArray, List.set_cons_succ, List.set_cons_zero, Nat.reduceAdd]
              refine wpStill_skip rfl (wpStill_skip rfl (wpStill_skip rfl (wpStill_nil ?_)))
              repeat (refine wpMark_skip rfl ?_)
              clear F6 F7 La
              refine wpMark_go rfl (fun m1 hm1 K hK => ?_)
              have E1 := (Below.refl U2.heap.size U2).drew.trans hm1
              have cK1 := ((rK.kept E1).cell d).trans PK.out
              have fK1 := (rK.kept E1).frozen d
              have hgo2 : g + 1 + 1 ≠ g := by omega
              have rK1 := (rK.kept E1).set_ d (.bool true)
              have rG1 := (rG.kept E1).far (p := ⟨g + 1 + 1, d, none⟩) (by show g ≠ g + 1 + 1; omega) (.bool true)
              have k1 : Kept2 g (g + 1 + 1) U2 (m1.setCell ⟨g + 1 + 1, d, none⟩ (.bool true)) := (Kept2.of_below E1).trans (Kept2.set_b d _)
              have q1 := (keeps_ext E1).trans (KeepsOthers.setCell m1 ⟨g + 1 + 1, d, none⟩ (.bool true))
              go_wp2_with fail
              refine hK _ _ (fun _ => k1) ?_
              obtain ⟨V1, hV1⟩ : ∃ V1, m1.setCell ⟨g + 1 + 1, d, none⟩ (.bool true) = V1 := ⟨_, rfl⟩
              rw [hV1] at rK1 rG1 k1 q1 ⊢
              clear hK cK1 fK1 hV1 E1 hm1
              refine wpMark_go rfl (fun m2 hm2 K hK => ?_)
              have k2 := k1.trans (.of_below hm2)
              go_wp2_with fail
              refine hK _ _ (fun _ => k2) ?_
              clear hK
              refine wpMark_go rfl (fun m3 hm3 K hK => ?_)
              have E3 := hm2.trans hm3
              have k3 := k1.trans (.of_below E3)
              have rG3 := rG1.kept E3
              have rK3 := rK1.kept E3
              have cG30 := (rG3.cell (d * 2)).trans P0.out
              have cG31 := (rG3.cell (d * 2 + 1)).trans P1.out
              have fG30 := rG3.frozen (d * 2)
              have fG31 := rG3.frozen (d * 2 + 1)
              have rG4 := (rG3.set_ (d * 2) (.int .i64 p.1)).set_ (d * 2 + 1) (.int .i64 p.2)
              have rK4 := (rK3.far (p := ⟨g, d * 2, none⟩) (by show g + 1 + 1 ≠ g; omega) (.int .i64 p.1)).far (p := ⟨g, d * 2 + 1, none⟩) (by show g + 1 + 1 ≠ g; omega) (.int .i64 p.2)
              rw [pairs_set g1 d p (by rw [l11]; exact hd16)] at rG4
              rw [← List.map_set] at rK4
              have k4 : Kept2 g (g + 1 + 1) U2 ((m3.setCell ⟨g, d * 2, none⟩ (.int .i64 p.1)).setCell ⟨g, d * 2 + 1, none⟩ (.int .i64 p.2)) := (k3.trans (Kept2.set_a (d * 2) _)).trans (Kept2.set_a (d * 2 + 1) _)
              have q4 := ((q1.trans (keeps_ext E3)).trans (KeepsOthers.setCell m3 ⟨g, d * 2, none⟩ (.int .i64 p.1))).trans (KeepsOthers.setCell _ ⟨g, d * 2 + 1, none⟩ (.int .i64 p.2))
              go_wp2_with fail
              refine hK _ _ (fun _ => k4) (wpMark_nil fun U4 hU4 => ?_)
              simp only [onlyN]
              have k5 := k4.trans (.of_below hU4)
              have rG5 := rG4.kept hU4
              have rK5 := rK4.kept hU4
              have q5 := q4.trans (keeps_ext hU4)
              have rS5 := k5.row rS (by omega) (by omega)
              have bx : ∀ {j : Nat} {T : TypeId} {v : Value}, Boxed U2 j T v → j ≠ g → j ≠ g + 1 + 1 → Boxed U4 j T v := fun h h1 h2 => (k5.block _ h.lt h1 h2).trans h
              have hbel5 := k5.below hbel3 (by have := Hsw.out; omega) (by have := Hsw.out; omega) hbel3.size
              have hJ2 : GrJ n gs kn c a A (some ⟨bS, oS, none⟩) ca m cb s g S X Y w W (i + 1) U4 :=
                ⟨⟨_, HnoX.out.2 _ HGP.out, by rw [List.length_set]; exact l11, by rw [List.length_set]; exact l12, rG5, rK5⟩, rS5, bx b2 (by omega) (by omega), bx b3 (by omega) (by omega), bx b4 (by omega) (by omega), bx b5 (by omega) (by omega), bx b6 (by omega) (by omega), bx b7 (by omega) (by omega), bx b8 (by omega) (by omega), hbel5, kV.trans q5⟩
              have HJ2 := Lib.hid hJ2
              clear hJ2 bx k5 rG5 rK5 q5 rS5 hbel5 k4 rG4 rK4 q4 cG30 cG31 fG30 fG31 k3 rG3 rK3 E3 hm3 hK k1 rK1 rG1 q1 hm2 k2 hU4
              gi_wp2_with fail
              go_roundw
              case rel => exact ⟨i + 1, by omega, by go_num, HJ2.out⟩
              case measure => simp [intOf]; omega
            · have HGP := Lib.hid (HnoX.out.1 (Hno.out Hmk.out (by rw [Hz.out]; exact hzp)))
              have Hzp := Lib.hid hzp
              clear hzp
              refine wpIn_region_N [] [] (by kernel_rfl) (by kernel_rfl) (by kernel_rfl) ?_
              refine wpStill_go (v := .slice (some ⟨g + 1 + 1, 0, none⟩) 16 16) rfl rfl (stays_run fun w' h => ex_load rfl rfl (ld_one (by kernel_rfl) (f7 w' h))) ?_
              simp only [Act.put, List.setIfInBounds_toArray, List.set_cons_succ, List.set_cons_zero, Nat.reduceAdd]
              refine wpStill_go (v := .int .i64 d) rfl rfl (stays_run fun w' h => ex_move rfl rfl) ?_
              simp only [Act.put, List.setIfInBounds_toArray, List.set_cons_succ, List.set_cons_zero, Nat.reduceAdd]
              refine wpStill_go (v := .pointer (some ⟨g + 1 + 1, 0 + d * 1, none⟩)) rfl rfl (stays_run fun w' h => ex_index rfl (by kernel_rfl) (by kernel_rfl) rfl rfl (hd16)) ?_
              simp only [Act.put, List.setIfInBounds_toArray, List.set_cons_succ, List.set_cons_zero, Nat.reduceAdd]
              refine wpStill_go (v := .bool true) rfl rfl (stays_run fun w' h => ex_load rfl rfl (ld_one (by kernel_rfl) (LK w' h))) ?_
              simp only [Act.put, List.setIfInBounds_toArray, List.set_cons_succ, List.set_cons_zero, Nat.reduceAdd]
              refine wpStill_go (v := .bool true) rfl rfl (stays_run fun w' h => ex_move rfl rfl) ?_
              simp only [Act.put, List.setIfInBounds_toArray, List.set_cons_succ, List.set_cons_zero, Nat.reduceAdd]
              refine wpStill_go (v := .slice (some ⟨g, 0, none⟩) 16 16) rfl rfl (stays_run fun w' h => ex_load rfl rfl (ld_one (by kernel_rfl) (f6 w' h))) ?_
              simp only [Act.put, List.setIfInBounds_toArray, List.set_cons_succ, List.set_cons_zero, Nat.reduceAdd]
              refine wpStill_go (v := .int .i64 d) rfl rfl (stays_run fun w' h => ex_move rfl rfl) ?_
              simp only [Act.put, List.setIfInBounds_toArray, List.set_cons_succ, List.set_cons_zero, Nat.reduceAdd]
              refine wpStill_go (v := .pointer (some ⟨g, 0 + d * 2, none⟩)) rfl rfl (stays_run fun w' h => ex_index rfl (by kernel_rfl) (by kernel_rfl) rfl rfl (hd16)) ?_
              simp only [Act.put, List.setIfInBounds_toArray, List.set_cons_succ, List.set_cons_zero, Nat.reduceAdd]
              refine wpStill_go (v := .agg #[.int .i64 z.1, .int .i64 z.2]) rfl rfl (stays_run fun w' h => ex_load rfl rfl (LG w' h)) ?_
              simp only [Act.put, List.setIfInBounds_toArray, List.set_cons_succ, List.set_cons_zero, Nat.reduceAdd]
              refine wpStill_go (v := .pointer (some ⟨H3, 2, none⟩)) rfl rfl (stays_run fun w' h => by simp [go_sem]) ?_
              simp only [Act.put, List.setIfInBounds_toArray, List.set_cons_succ, List.set_cons_zero, Nat.reduceAdd]
              refine wpStill_go (v := .agg #[.int .i64 p.1, .int .i64 p.2]) rfl rfl (stays_run fun w' h => ex_load rfl rfl (La w' h)) ?_
              simp only [Act.put, List.setIfInBounds_toArray, List.set_cons_succ, List.set_cons_zero, Nat.reduceAdd]
              refine wpStill_go (v := .bool true) rfl rfl (stays_run fun w' h => by rcases pair_bne Hzp.out with h1 | ⟨h1, h2⟩ <;> simp [go_sem, *]) ?_
              simp only [Act.put, List.setIfInBounds_toArray, List.set_cons_succ, List.set_cons_zero, Nat.reduceAdd]
              refine wpStill_go (v := .bool true) rfl rfl (stays_run fun w' h => by simp [go_sem]) ?_
              simp only [Act.put, List.setIfInBounds_toArray, List.set_cons_succ, List.set_cons_zero, Nat.reduceAdd]
              refine wpStill_nil ?_
              repeat (refine wpMark_skip rfl ?_)
              refine wpMark_nil fun U2 hU2 => ?_
              have hU2 := (Below.refl U.heap.size U).drew.trans hU2
              simp only [onlyN, Exit.then]
              have b4 := boxed_ext b4 hU2
              have b5 := boxed_ext b5 hU2
              have hbel3 := hbel3.trans (hU2.mono hbel3.size)
              have kV := kV.trans (keeps_ext hU2)
              have c4 := b4.cell
              have c5 := b5.cell
              have d4 := b4.frozen
              have d5 := b5.frozen
              clear f6 f7 LK LG La rt rG rK rS b2 b3 b6 b7 b8 hU2
              gi_wp2_with fail
              have kk := (kV.trans (KeepsOthers.setCell U2 ⟨s + 1 + 1, 0, none⟩ (.slice none 0 0))).trans (KeepsOthers.setCell _ ⟨s + 1 + 1 + 1, 0, none⟩ (.bool false))
              have x4 := (b4.set (.slice none 0 0)).kept (grownBy_setCell' _ (s + 1 + 1 + 1) (.bool false)) (by simp)
              have x5 := (b5.kept (grownBy_setCell' _ (s + 1 + 1) (.slice none 0 0)) (by simp)).set (.bool false)
              refine ⟨kk.from _, rfl, HGP.out, x4, x5, (hbel3.setCell (p := ⟨s + 1 + 1, 0, none⟩) (by show w.heap.size ≤ s + 1 + 1; have := Hsw.out; omega) _).setCell (p := ⟨s + 1 + 1 + 1, 0, none⟩) (by show w.heap.size ≤ s + 1 + 1 + 1; have := Hsw.out; omega) _⟩
        · obtain rfl : i = 2 := by omega
          gi_wp2_with fail
          refine ⟨kV.from _, fun _ => b8.cell, ⟨⟨(g1, kn1), ?_, l11, l12, rG, rK⟩, b2, b3, b4, b5, b6, b7, b8, hbel3⟩⟩
          rw [List.map_append, List.map_singleton, Htwo.out]
          exact hst1
  case done =>
    rintro D ys W hD rfl ⟨⟨st, hst, l1, l2, rG, rK⟩, b2, b3, b4, b5, b6, b7, b8, hbel⟩ hK
    rw [pairsB_map] at hst
    have Hgo := Lib.hid (gridO_end Hn.out h7 hst)
    have c4 := b4.cell
    have c5 := b5.cell
    have c6 := b6.cell
    have d4 := b4.frozen
    have d5 := b5.frozen
    have hne : g + 1 ≠ s + 1 + 1 := by omega
    have Hst := Lib.hid hst; clear hst
    gi_wp2_with fail
    have kk := (KeepsOthers.setCell W ⟨s + 1 + 1, 0, none⟩ (.slice (some ⟨g, 0, none⟩) 16 16)).trans (KeepsOthers.setCell _ ⟨s + 1 + 1 + 1, 0, none⟩ (.bool true))
    have hK2 := kk.same D _ hK rfl
    have x4 := (b4.set (.slice (some ⟨g, 0, none⟩) 16 16)).kept (grownBy_setCell' _ (s + 1 + 1 + 1) (.bool true)) (by simp)
    have x5 := (b5.kept (grownBy_setCell' _ (s + 1 + 1) (.slice (some ⟨g, 0, none⟩) 16 16)) (by simp)).set (.bool true)
    have xb := (hbel.setCell (p := ⟨s + 1 + 1, 0, none⟩) (by show w.heap.size ≤ s + 1 + 1; have := Hsw.out; omega) (.slice (some ⟨g, 0, none⟩) 16 16)).setCell (p := ⟨s + 1 + 1 + 1, 0, none⟩) (by show w.heap.size ≤ s + 1 + 1 + 1; have := Hsw.out; omega) (.bool true)
    have xr := (rG.far (p := ⟨s + 1 + 1, 0, none⟩) (by show g ≠ s + 1 + 1; omega) (.slice (some ⟨g, 0, none⟩) 16 16)).far (p := ⟨s + 1 + 1 + 1, 0, none⟩) (by show g ≠ s + 1 + 1 + 1; omega) (.bool true)
    obtain ⟨W2, hW2⟩ : ∃ W2, (W.setCell ⟨s + 1 + 1, 0, none⟩ (.slice (some ⟨g, 0, none⟩) 16 16)).setCell ⟨s + 1 + 1 + 1, 0, none⟩ (.bool true) = W2 := ⟨_, rfl⟩
    rw [hW2] at kk hK2 x4 x5 xb xr ⊢
    have hbel2 : Below w.heap.size W2 (W2.putObj D (.deferred none)) := belowK_b (w := w) (Nat.le_refl _) W2 D _ _ (by have := Hsw.out; omega) hK2 rfl rfl
    have hp : ∀ {b : Nat} {t : TypeId} {v : Value}, Boxed W2 b t v → (W2.putObj D (.deferred none)).cell? ⟨b, 0, none⟩ = some v := fun h => (Boxed.keptI h (grownBy_putObj' W2 D (.deferred none)) (fun r e => by cases e; exact ⟨_, hK2, rfl⟩)).cell
    have p4 := hp x4
    have p5 := hp x5
    have hrow := row_keptI xr (grownBy_putObj' W2 D (.deferred none)) (fun r e => by cases e; exact ⟨_, hK2, rfl⟩)
    refine ⟨by simp, .inl ⟨_, _, rfl, run_takeDeferred hK2, ?_⟩⟩
    refine ⟨_, (by simp [results, Try.results35, go_sem, p4, p5]), xb.trans hbel2, .inl ⟨st.1, Hgo.out, g, rfl, by have := Hsw.out; omega, hrow⟩⟩
  case stop =>
    rintro D c pre W hD hS ⟨rfl, hno, b4, b5, hbel⟩ hK
    have hS2 : pre.map (·.1) <+: pairsN n := by rw [← pairsB_map]; exact List.IsPrefix.map _ hS
    have Hgo := Lib.hid (gridO_pre Hn.out h7 hS2 hno)
    clear hno hS hS2
    have c4 := b4.cell
    have c5 := b5.cell
    gi_wp2_with fail
    have hbel2 : Below w.heap.size W (W.putObj D (.deferred none)) := belowK_b (w := w) (Nat.le_refl _) W D _ _ (by have := Hsw.out; omega) hK rfl rfl
    have hp : ∀ {b : Nat} {t : TypeId} {v : Value}, Boxed W b t v → (W.putObj D (.deferred none)).cell? ⟨b, 0, none⟩ = some v := fun h => (Boxed.keptI h (grownBy_putObj' W D (.deferred none)) (fun r e => by cases e; exact ⟨_, hK, rfl⟩)).cell
    have p4 := hp b4
    have p5 := hp b5
    refine ⟨by simp, .inl ⟨_, _, rfl, run_takeDeferred hK, ?_⟩⟩
    refine ⟨_, (by simp [results, Try.results35, go_sem, p4, p5]), hbel.trans hbel2, .inr ⟨Hgo.out, rfl⟩⟩

/-- 'impl.ObserveGrid' where the array and the observation are valid. -/
theorem observeGrid_yes (A B : Option Addr) (n ca m cb : Nat) (ants seen : List (Int × Int)) (w : World) (hn : ants.length = n) (hm : seen.length = m) (hk : n ≤ ca) (hA : arrV ants = true) (hO : obsV n seen = true)
    (hr : Rd w w.heap.size A (ants.flatMap pairCells)) (hs : Rd w w.heap.size B (seen.flatMap pairCells)) :
    Calls Try.prog 35 #[.slice A n ca, .slice B m cb] w fun e w' => Below w.heap.size w w' ∧
      ((∃ g, gridO ants seen = some g ∧ ∃ G, e = .returned (.tuple #[.slice (some ⟨G, 0, none⟩) 16 16, .bool true]) ∧ w.heap.size ≤ G ∧ Row w' G 31 (g.flatMap pairCells)) ∨
       (gridO ants seen = none ∧ e = .returned (.tuple #[.slice none 0 0, .bool false]))) := callsIn_wide.1 (observeGrid_in A B n ca m cb ants seen w hn hm hk hA hO hr hs)
end Go.Proofs.Ytfandpgjlahnpaa
