/- 'impl.TrackScale' by 1 and 'impl.CoverOf'. -/
import Derived.Test.YtfandpgjlahnpaaPairI
namespace Go.Proofs.Ytfandpgjlahnpaa
open Go.RowKit Go.Shelf
attribute [local go_sem] Oper.semAt_some

/-- The coverage of the first baselines. -/
def covP (ants : List (Int × Int)) (ps : List (Nat × Nat)) : List Bool := (List.range 16).map fun k => ps.any fun p => vecC ants p.1 p.2 == k || oppN (vecC ants p.1 p.2) == k
theorem covP_len (ants : List (Int × Int)) (ps : List (Nat × Nat)) : (covP ants ps).length = 16 := by simp [covP]
theorem covP_all (ants : List (Int × Int)) : covP ants (pairsN ants.length) = covL ants := rfl
theorem covP_snoc (ants : List (Int × Int)) (ps : List (Nat × Nat)) (x : Nat × Nat) : covP ants (ps ++ [x]) = ((covP ants ps).set (vecC ants x.1 x.2) true).set (oppN (vecC ants x.1 x.2)) true := by
  apply List.ext_getElem (by simp [covP])
  intro i h1 h2
  rw [List.getElem_set, List.getElem_set]
  simp only [covP, List.getElem_map, List.getElem_range, List.any_append, List.any_cons, List.any_nil, Bool.or_false]
  by_cases e2 : oppN (vecC ants x.1 x.2) = i
  · rw [if_pos e2]; simp [e2]
  · rw [if_neg e2]
    by_cases e1 : vecC ants x.1 x.2 = i
    · rw [if_pos e1]; simp [e1]
    · rw [if_neg e1]; simp [e1, e2]
theorem row_keptI {X Y : World} {g : Nat} {T : TypeId} {xs : List Value} {row : Option Nat} (h : Row X g T xs) (hg : X.grownBy Y row) (hrow : ∀ r, row = some r → ∃ o : Obj, X.heap[r]? = some o ∧ o.isCells = false) : Row Y g T xs := by
  refine h.grown hg fun e => ?_
  obtain ⟨o, ho, hc⟩ := hrow g e.symm
  rw [show X.heap[g]? = _ from h] at ho
  cases ho
  cases hc
/-- What holds between the rounds. -/
def TsI (n : Nat) (ants : List (Int × Int)) (w : World) (pre : List (BP n)) (W : World) : Prop :=
  Row W w.heap.size 4 ((covP ants (pre.map (·.1))).map Value.bool) ∧ Boxed W (w.heap.size + 1) 38 (.slice (some ⟨w.heap.size, 0, none⟩) 16 16) ∧ Boxed W (w.heap.size + 2) 3 (.int .i64 n) ∧ Below w.heap.size w W
theorem TsI_own (n : Nat) (ants : List (Int × Int)) (w : World) (N : Nat) (hN : w.heap.size ≤ N) : OwnFrom N (TsI n ants w) := by
  intro p W W' row hs hg hr
  obtain ⟨h1, h2, h3, h4⟩ := hs
  have hr2 := fun r e => (hr r e).2
  exact ⟨row_keptI h1 hg hr2, Boxed.keptI h2 hg hr2, Boxed.keptI h3 hg hr2, ownFrom_below (β := Unit) (Nat.le_refl _) hN () W W' row h4 hg hr⟩

set_option maxRecDepth 100000 in
set_option maxHeartbeats 1000000 in
theorem trackScale_in (A : Option Addr) (n ca : Nat) (ants : List (Int × Int)) (w : World) (hn : ants.length = n) (hk : n ≤ ca) (hva : arrV ants = true) (hr : Rd w w.heap.size A (ants.flatMap pairCells)) :
    CallsIn Fence.wide 9 Try.prog 109 #[.slice A n ca, .int .i64 1] w fun e w' =>
      ∃ g, e = .returned (.tuple #[.slice (some ⟨g, 0, none⟩) 16 16, .bool true]) ∧ w.heap.size ≤ g ∧ Row w' g 4 ((covL ants).map Value.bool) ∧ Below w.heap.size w w' := by
  obtain ⟨Z, hZ⟩ : ∃ Z, List.replicate 16 (Value.bool false) = Z := ⟨_, rfl⟩
  have hmk : ∀ W : World, (Instr.makeSlice 38 (.int .i64 16) (.int .i64 16)).run Try.prog W = .ok (.slice (some ⟨W.heap.size, 0, none⟩) 16 16) (W.alloc (.cells Z.toArray 4)) := fun W => by
    rw [← hZ]; exact run_make1 (P := Try.prog) 38 4 (.bool false) 1 Try.underlying38 (by kernel_rfl) rfl 16 (by omega) (by omega) W
  have hz2 : Z = (covP ants []).map Value.bool := by rw [← hZ]; rfl
  have hl := arrV_len hva
  have hgl := arrV_gLe hva
  have h2 : 2 ≤ n := by omega
  have h7 : n ≤ 7 := by omega
  have Hz2 := Lib.hid hz2
  clear hl hZ hz2
  have Hn := Lib.hid hn; clear hn
  have Hva := Lib.hid hva; clear hva
  have Hgl := Lib.hid hgl; clear hgl
  have bA := (Boxed.new w 23 (.slice A n ca)).alloc (.cells #[.int .i64 1] 3)
  have bK := Boxed.new (w.alloc (.cells #[.slice A n ca] 23)) 3 (.int .i64 1)
  rw [World.size_alloc] at bK
  have hr' := hr.ext (bA2 (o := .cells #[.slice A n ca] 23) (o' := .cells #[.int .i64 1] 3))
  refine callsIn_of_wp_marks Try.func109 rfl trivial ?_ rfl
  simp only [Try.ntmps109, List.size_toArray, List.length_cons, List.length_nil, Nat.reduceAdd, Nat.reduceSub, Array.replicate_succ, Array.replicate_zero, List.push_toArray, List.append_toArray, List.nil_append, List.cons_append]
  gi_wp2_with fail
  refine ⟨trivial, (callsIn_wide.2 (arrayValid_any A n ca ants _ Hn.out hk (by omega) hr')).mono ?_⟩
  rintro e w1 ⟨rfl, b1⟩
  rw [Hva.out]
  have bA := boxed_ext bA b1
  have bK := boxed_ext bK b1
  have hr1 := hr'.ext b1
  have B1 := bA2.trans (b1.mono bA2.size)
  have cA := bA.cell
  have cK := bK.cell
  have hlA := bA.lt
  have hlK := bK.lt
  clear b1 hr'
  gi_wp2_with fail
  refine ⟨trivial, (callsIn_wide.2 (bases_any _ _)).mono ?_⟩
  rintro e w' ⟨rfl, rfl⟩
  gi_wp2_with fail
  clear hmk
  have e1 := Row.new w1 4 Z
  have e2 := Boxed.new (w1.alloc (.cells Z.toArray 4)) 38 (.slice (some ⟨w1.heap.size, 0, none⟩) 16 16)
  have e3 := Boxed.new ((w1.alloc (.cells Z.toArray 4)).alloc (.cells #[.slice (some ⟨w1.heap.size, 0, none⟩) 16 16] 38)) 3 (.int .i64 n)
  simp only [World.size_alloc] at e2 e3
  have hb : TsI n ants w1 [] (((w1.alloc (.cells Z.toArray 4)).alloc (.cells #[.slice (some ⟨w1.heap.size, 0, none⟩) 16 16] 38)).alloc (.cells #[.int .i64 n] 3)) := by
    refine ⟨?_, e2.alloc _, e3, bA3⟩
    have := (e1.alloc (.cells #[.slice (some ⟨w1.heap.size, 0, none⟩) 16 16] 38)).alloc (.cells #[.int .i64 n] 3)
    rw [Hz2.out] at this ⊢
    exact this
  have hsz : w1.heap.size + 3 = (((w1.alloc (.cells Z.toArray 4)).alloc (.cells #[.slice (some ⟨w1.heap.size, 0, none⟩) 16 16] 38)).alloc (.cells #[.int .i64 n] 3)).heap.size := by simp
  obtain ⟨W0, hW0⟩ : ∃ W0, (((w1.alloc (.cells Z.toArray 4)).alloc (.cells #[.slice (some ⟨w1.heap.size, 0, none⟩) 16 16] 38)).alloc (.cells #[.int .i64 n] 3)) = W0 := ⟨_, rfl⟩
  rw [hW0] at hb hsz ⊢
  have Hb := Lib.hid hb
  clear e1 e2 e3 hb hW0 cA cK
  obtain ⟨g, hg⟩ : ∃ g, w1.heap.size = g := ⟨_, rfl⟩
  rw [hg] at hsz hlA hlK ⊢
  have Hg := Lib.hid hg
  refine wpIn_rangeFunc_ownG rfl (by omega) (gf := 122) (lb := #[.pointer (some ⟨g + 1 + 1, 0, none⟩)]) rfl trivial (enters_of Try.func122 (by kernel_rfl) rfl)
    (bases_stops 8 n h2 h7 (g + 1 + 1) _ (by have := Hb.out.2.2.1.cell; rw [Hg.out] at this; exact this) (by omega)) KC_t (fun W l o o' _ h1 h2 _ => KC_b W l o o' h1 h2) (Below.refl _ _) (fun _ => rfl)
    (TsI n ants w1)
    (fun _ _ _ => False)
    (TsI_own n ants w1 _ (by omega))
    (fun _ _ _ _ _ hs _ _ => hs)
    Hb.out
    (fun x => { tmps := #[.slice A n ca, .int .i64 1, .pointer (some ⟨w.heap.size, 0, none⟩), .pointer (some ⟨w.heap.size + 1, 0, none⟩), .slice none 0 0, .bool false, .pointer (some ⟨g + 1, 0, none⟩), .int .i64 (x.1.1 : Nat), .int .i64 (x.1.2 : Nat), undef, .slice A n ca,
      .bool true, .bool false, .bool false, .int .i64 1, .bool false, .bool false, .bool false, .int .i64 1, .bool false, .bool false, .slice (some ⟨g, 0, none⟩) 16 16, .slice A n ca, .int .i64 n, .func (.func 122) #[] #[.pointer (some ⟨g + 1 + 1, 0, none⟩)], .int .i64 (x.1.1 : Nat), .int .i64 (x.1.2 : Nat),
      undef, undef, undef, undef, undef, undef, undef, undef, undef, undef, undef, undef, undef, undef, undef, undef, undef, undef, undef, undef, undef, undef, undef, undef, undef, undef, undef, undef, undef], defers := [] }) ?assign ?body ?done ?stop
  case assign =>
    intro l x W K hK
    gi_wp2
    exact hK
  case body =>
    rintro l pre x W ⟨h1, h2', h3, hbel⟩ hlt
    rw [Hg.out] at h1 h2' h3
    have hbs := hbel.size
    have cA := (bcl hbel (by rw [Hg.out]; exact hlA) 0).trans bA.cell
    have cK := (bcl hbel (by rw [Hg.out]; exact hlK) 0).trans bK.cell
    have hrW := (hr1.below hbel).more hbs
    obtain ⟨x1, x2⟩ : x.1.1 < x.1.2 ∧ x.1.2 < n := x.2
    refine wpIn_block ?_
    have Hbel := Lib.hid hbel
    clear hbel
    gi_wp2_with fail
    refine ⟨trivial, ((callsIn_wide.2 (vector_any A n ca ants x.1.1 x.1.2 _ Hn.out (by omega) x2 Hgl.out hrW)).inRound l).mono ?_⟩
    rintro e w4 ⟨rfl, b4⟩
    obtain ⟨X, hX⟩ : ∃ X, vecX ants x.1.1 x.1.2 = X := ⟨_, rfl⟩
    obtain ⟨Y, hY⟩ : ∃ Y, vecY ants x.1.1 x.1.2 = Y := ⟨_, rfl⟩
    obtain ⟨c, hc⟩ : ∃ c, vecC ants x.1.1 x.1.2 = c := ⟨_, rfl⟩
    have hcI : cellI X Y = (c : Int) := by rw [← hc, ← hX, ← hY]; exact cellN_cast _ _
    have hcO : cellI (-X) (-Y) = (oppN c : Int) := by rw [← hc, cellN_cast, ← hX, ← hY, cellN_neg]; rfl
    have hc16 : c < 16 := by rw [← hc]; exact vecC_lt _ _ _
    have ho16 := oppN_lt c
    have hvb := vec_bd Hgl.out x.1.1 x.1.2
    rw [hX, hY] at hvb
    rw [hX, hY]
    have j1 : IntKind.i64.wrap X = X := IntWalk.i64_in _ (by omega)
    have j2 : IntKind.i64.wrap Y = Y := IntWalk.i64_in _ (by omega)
    have j3 : IntKind.i64.wrap (-X) = -X := IntWalk.i64_in _ (by omega)
    have j4 : IntKind.i64.wrap (-Y) = -Y := IntWalk.i64_in _ (by omega)
    have j5 : IntKind.i64.wrap (-1) = -1 := IntWalk.i64_in _ (by omega)
    have hsn := covP_snoc ants (pre.map (·.1)) x.1
    rw [hc] at hsn
    have J1 := Lib.hid j1
    have J2 := Lib.hid j2
    have J3 := Lib.hid j3
    have J4 := Lib.hid j4
    have J5 := Lib.hid j5
    have Hsn := Lib.hid hsn
    clear j1 j2 j3 j4 j5 hsn hX hY hc
    gi_wp2_with fail
    have E1 : Below W.heap.size W (w4.alloc (.cells #[.int .i64 X, .int .i64 Y] 35)) := b4.alloc b4.size _
    have rv := Row.new w4 35 [.int .i64 X, .int .i64 Y]
    obtain ⟨V, hV⟩ : ∃ V, w4.alloc (.cells #[.int .i64 X, .int .i64 Y] 35) = V := ⟨_, rfl⟩
    obtain ⟨H, hH⟩ : ∃ H, w4.heap.size = H := ⟨_, rfl⟩
    have hHW : W.heap.size ≤ H := by rw [← hH]; exact b4.size
    rw [hV] at rv E1 ⊢
    rw [hH] at rv ⊢
    have hgW : g < W.heap.size := h1.lt
    have h1 := h1.kept E1
    have h2' := boxed_ext h2' E1
    have h3 := boxed_ext h3 E1
    have bKV := boxed_ext (show Boxed W (w.heap.size + 1) 3 (.int .i64 1) from (Hbel.out.block _ (by rw [Hg.out]; exact hlK)).trans bK) E1
    have hbV := Hbel.out.trans (E1.mono hbs)
    have kV := keeps_ext E1
    clear hV hH b4 E1 hrW cA cK
    obtain ⟨P, hP⟩ : ∃ P, covP ants (pre.map (·.1)) = P := ⟨_, rfl⟩
    have hPl : P.length = 16 := by rw [← hP]; exact covP_len _ _
    rw [hP] at h1
    have HP := Lib.hid hP
    clear hP
    refine wpIn_region_N [11] [11] (by kernel_rfl) (by kernel_rfl) (by kernel_rfl) ?_
    refine wpStill_go (v := .slice (some ⟨g, 0, none⟩) 16 16) rfl rfl (stays_run fun w' h => ex_load rfl rfl (ld_one (by kernel_rfl) ((bcl ‹_› h2'.lt 0).trans h2'.cell))) ?_
    simp only [Act.put, List.setIfInBounds_toArray, List.set_cons_succ, List.set_cons_zero, Nat.reduceAdd]
    refine wpStill_go (v := .int .i64 1) rfl rfl (stays_run fun w' h => ex_load rfl rfl (ld_one (by kernel_rfl) ((bcl ‹_› bKV.lt 0).trans bKV.cell))) ?_
    simp only [Act.put, List.setIfInBounds_toArray, List.set_cons_succ, List.set_cons_zero, Nat.reduceAdd]
    refine wpStill_go (v := .pointer (some ⟨H, 0, none⟩)) rfl rfl (stays_run fun w' h => by simp [go_sem]) ?_
    simp only [Act.put, List.setIfInBounds_toArray, List.set_cons_succ, List.set_cons_zero, Nat.reduceAdd]
    refine wpStill_go (v := .int .i64 X) rfl rfl (stays_run fun w' h => ex_load rfl rfl (ld_one (by kernel_rfl) ((rv.kept ‹_›).cell 0))) ?_
    simp only [Act.put, List.setIfInBounds_toArray, List.set_cons_succ, List.set_cons_zero, Nat.reduceAdd]
    refine wpStill_go (v := .int .i64 X) rfl rfl (stays_run fun w' h => by simp [go_sem, J1.out]) ?_
    simp only [Act.put, List.setIfInBounds_toArray, List.set_cons_succ, List.set_cons_zero, Nat.reduceAdd]
    refine wpStill_go (v := .int .i64 1) rfl rfl (stays_run fun w' h => ex_load rfl rfl (ld_one (by kernel_rfl) ((bcl ‹_› bKV.lt 0).trans bKV.cell))) ?_
    simp only [Act.put, List.setIfInBounds_toArray, List.set_cons_succ, List.set_cons_zero, Nat.reduceAdd]
    refine wpStill_go (v := .pointer (some ⟨H, 1, none⟩)) rfl rfl (stays_run fun w' h => by simp [go_sem]) ?_
    simp only [Act.put, List.setIfInBounds_toArray, List.set_cons_succ, List.set_cons_zero, Nat.reduceAdd]
    refine wpStill_go (v := .int .i64 Y) rfl rfl (stays_run fun w' h => ex_load rfl rfl (ld_one (by kernel_rfl) ((rv.kept ‹_›).cell 1))) ?_
    simp only [Act.put, List.setIfInBounds_toArray, List.set_cons_succ, List.set_cons_zero, Nat.reduceAdd]
    refine wpStill_go (v := .int .i64 Y) rfl rfl (stays_run fun w' h => by simp [go_sem, J2.out]) ?_
    simp only [Act.put, List.setIfInBounds_toArray, List.set_cons_succ, List.set_cons_zero, Nat.reduceAdd]
    refine wpStill_go (v := .int .i64 (c : Nat)) rfl rfl (stays_call (f := 71) (args := #[.int .i64 X, .int .i64 Y]) (fun w' h => by simp [go_sem]) (fun w' _ => by rw [← hcI]; exact (cellAt_any _ _ w').mono fun e w'' ⟨h, h2⟩ => ⟨h, h2 ▸ Below.refl _ _⟩)) ?_
    simp only [Act.put, List.setIfInBounds_toArray, List.set_cons_succ, List.set_cons_zero, Nat.reduceAdd]
    refine wpStill_go (v := .pointer (some ⟨g, 0 + c * 1, none⟩)) rfl rfl (stays_run fun w' h => ex_index rfl (by kernel_rfl) (by kernel_rfl) rfl rfl (hc16)) ?_
    simp only [Act.put, List.setIfInBounds_toArray, List.set_cons_succ, List.set_cons_zero, Nat.reduceAdd]
    refine wpStill_skip rfl ?_
    refine wpStill_nil ?_
    repeat (refine wpMark_skip rfl ?_)
    refine wpMark_go rfl (fun m1 hm1 K hK => ?_)
    have F1 := (Below.refl V.heap.size V).drew.trans hm1
    have r1 := h1.kept F1
    have ck := r1.cell c
    have fk := r1.frozen c
    rw [List.getElem?_map, List.getElem?_eq_getElem (by rw [hPl]; exact hc16)] at ck
    simp only [Option.map_some] at ck
    have rs := r1.set_ c (.bool true)
    rw [← List.map_set] at rs
    have hbF := hbV.trans (F1.mono hbV.size)
    have hgB : w1.heap.size ≤ g := by rw [Hg.out]; exact Nat.le_refl _
    have hbS := hbF.setCell (p := ⟨g, c, none⟩) hgB (.bool true)
    have kS := (kV.trans (keeps_ext F1)).trans (KeepsOthers.setCell m1 ⟨g, c, none⟩ (.bool true))
    have b2S := (boxed_ext h2' F1).kept (grown_set m1 g c (.bool true)) (by simp)
    have b3S := (boxed_ext h3 F1).kept (grown_set m1 g c (.bool true)) (by simp)
    have bKS := (boxed_ext bKV F1).kept (grown_set m1 g c (.bool true)) (by simp; omega)
    have rvS := (rv.kept F1).far (p := ⟨g, c, none⟩) (by show H ≠ g; omega) (.bool true)
    go_wp2_with fail
    refine hK _ _ (fun h => absurd h (by decide)) (wpMark_nil fun m6 hm6 => ?_)
    simp only [onlyN, Exit.then]
    have r6 := rs.kept hm6
    have hb6 := hbS.trans (hm6.mono hbS.size)
    have k6 := kS.trans (keeps_ext hm6)
    have b26 := boxed_ext b2S hm6
    have b36 := boxed_ext b3S hm6
    have bK6 := boxed_ext bKS hm6
    have rv6 := rvS.kept hm6
    obtain ⟨P2, hP2⟩ : ∃ P2, P.set c true = P2 := ⟨_, rfl⟩
    have hP2l : P2.length = 16 := by rw [← hP2, List.length_set]; exact hPl
    rw [hP2] at r6
    have HP2 := Lib.hid hP2
    clear hK rs hbS kS b2S b3S bKS rvS hbF F1 r1 ck fk hm1 h1 h2' h3 bKV rv hbV kV hm6 hP2
    gi_wp2_with fail
    refine wpIn_region_N [13] [13] (by kernel_rfl) (by kernel_rfl) (by kernel_rfl) ?_
    refine wpStill_go (v := .slice (some ⟨g, 0, none⟩) 16 16) rfl rfl (stays_run fun w' h => ex_load rfl rfl (ld_one (by kernel_rfl) ((bcl ‹_› b26.lt 0).trans b26.cell))) ?_
    simp only [Act.put, List.setIfInBounds_toArray, List.set_cons_succ, List.set_cons_zero, Nat.reduceAdd]
    refine wpStill_go (v := .int .i64 1) rfl rfl (stays_run fun w' h => ex_load rfl rfl (ld_one (by kernel_rfl) ((bcl ‹_› bK6.lt 0).trans bK6.cell))) ?_
    simp only [Act.put, List.setIfInBounds_toArray, List.set_cons_succ, List.set_cons_zero, Nat.reduceAdd]
    refine wpStill_go (v := .int .i64 (-1)) rfl rfl (stays_run fun w' h => by simp [go_sem, J5.out]) ?_
    simp only [Act.put, List.setIfInBounds_toArray, List.set_cons_succ, List.set_cons_zero, Nat.reduceAdd]
    refine wpStill_go (v := .pointer (some ⟨H, 0, none⟩)) rfl rfl (stays_run fun w' h => by simp [go_sem]) ?_
    simp only [Act.put, List.setIfInBounds_toArray, List.set_cons_succ, List.set_cons_zero, Nat.reduceAdd]
    refine wpStill_go (v := .int .i64 X) rfl rfl (stays_run fun w' h => ex_load rfl rfl (ld_one (by kernel_rfl) ((rv6.kept ‹_›).cell 0))) ?_
    simp only [Act.put, List.setIfInBounds_toArray, List.set_cons_succ, List.set_cons_zero, Nat.reduceAdd]
    refine wpStill_go (v := .int .i64 (-X)) rfl rfl (stays_run fun w' h => by simp [go_sem, J3.out]) ?_
    simp only [Act.put, List.setIfInBounds_toArray, List.set_cons_succ, List.set_cons_zero, Nat.reduceAdd]
    refine wpStill_go (v := .int .i64 1) rfl rfl (stays_run fun w' h => ex_load rfl rfl (ld_one (by kernel_rfl) ((bcl ‹_› bK6.lt 0).trans bK6.cell))) ?_
    simp only [Act.put, List.setIfInBounds_toArray, List.set_cons_succ, List.set_cons_zero, Nat.reduceAdd]
    refine wpStill_go (v := .int .i64 (-1)) rfl rfl (stays_run fun w' h => by simp [go_sem, J5.out]) ?_
    simp only [Act.put, List.setIfInBounds_toArray, List.set_cons_succ, List.set_cons_zero, Nat.reduceAdd]
    refine wpStill_go (v := .pointer (some ⟨H, 1, none⟩)) rfl rfl (stays_run fun w' h => by simp [go_sem]) ?_
    simp only [Act.put, List.setIfInBounds_toArray, List.set_cons_succ, List.set_cons_zero, Nat.reduceAdd]
    refine wpStill_go (v := .int .i64 Y) rfl rfl (stays_run fun w' h => ex_load rfl rfl (ld_one (by kernel_rfl) ((rv6.kept ‹_›).cell 1))) ?_
    simp only [Act.put, List.setIfInBounds_toArray, List.set_cons_succ, List.set_cons_zero, Nat.reduceAdd]
    refine wpStill_go (v := .int .i64 (-Y)) rfl rfl (stays_run fun w' h => by simp [go_sem, J4.out]) ?_
    simp only [Act.put, List.setIfInBounds_toArray, List.set_cons_succ, List.set_cons_zero, Nat.reduceAdd]
    refine wpStill_go (v := .int .i64 (oppN c : Nat)) rfl rfl (stays_call (f := 71) (args := #[.int .i64 (-X), .int .i64 (-Y)]) (fun w' h => by simp [go_sem]) (fun w' _ => by rw [← hcO]; exact (cellAt_any _ _ w').mono fun e w'' ⟨h, h2⟩ => ⟨h, h2 ▸ Below.refl _ _⟩)) ?_
    simp only [Act.put, List.setIfInBounds_toArray, List.set_cons_succ, List.set_cons_zero, Nat.reduceAdd]
    refine wpStill_go (v := .pointer (some ⟨g, 0 + oppN c * 1, none⟩)) rfl rfl (stays_run fun w' h => ex_index rfl (by kernel_rfl) (by kernel_rfl) rfl rfl (ho16)) ?_
    simp only [Act.put, List.setIfInBounds_toArray, List.set_cons_succ, List.set_cons_zero, Nat.reduceAdd]
    refine wpStill_skip rfl ?_
    refine wpStill_nil ?_
    repeat (refine wpMark_skip rfl ?_)
    generalize oppN c = d at *
    refine wpMark_go rfl (fun m7 hm7 K hK => ?_)
    have F1 := (Below.refl m6.heap.size m6).drew.trans hm7
    have r1 := r6.kept F1
    have ck := r1.cell d
    have fk := r1.frozen d
    rw [List.getElem?_map, List.getElem?_eq_getElem (by rw [hP2l]; exact ho16)] at ck
    simp only [Option.map_some] at ck
    have rs := r1.set_ d (.bool true)
    rw [← List.map_set] at rs
    have hbF := hb6.trans (F1.mono hb6.size)
    have hbS := hbF.setCell (p := ⟨g, d, none⟩) hgB (.bool true)
    have kS := (k6.trans (keeps_ext F1)).trans (KeepsOthers.setCell m7 ⟨g, d, none⟩ (.bool true))
    have b2S := (boxed_ext b26 F1).kept (grown_set m7 g d (.bool true)) (by simp)
    have b3S := (boxed_ext b36 F1).kept (grown_set m7 g d (.bool true)) (by simp)
    go_wp2_with fail
    refine hK _ _ (fun h => absurd h (by decide)) (wpMark_nil fun m8 hm8 => ?_)
    have r8 := rs.kept hm8
    have b28 := boxed_ext b2S hm8
    have b38 := boxed_ext b3S hm8
    have hb8 := hbS.trans (hm8.mono hbS.size)
    rw [← Hg.out] at r8 b28 b38
    refine ⟨(kS.trans (keeps_ext hm8)).from _, fun _ => by rw [← Hg.out]; exact b38.cell, ?_, b28, b38, hb8⟩
    rw [List.map_append, List.map_singleton, Hsn.out, HP.out, HP2.out]
    exact r8
  case done =>
    rintro D ys W hD rfl ⟨h1, h2', h3, hbel⟩ hK
    have hc := h2'.cell
    rw [Hg.out] at hc
    rw [pairsB_map, ← Hn.out, covP_all] at h1
    gi_wp2_with fail
    have hbel2 : Below w1.heap.size W (W.putObj D (.deferred none)) := belowK_b (w := w1) (Nat.le_refl _) W D _ _ (by omega) hK rfl rfl
    have hrow := row_keptI h1 (grownBy_putObj' W D (.deferred none)) (fun r e => by cases e; exact ⟨_, hK, rfl⟩)
    refine ⟨by simp, .inl ⟨_, _, rfl, run_takeDeferred hK, ?_⟩⟩
    refine ⟨_, (by simp [results, Try.results109, go_sem]; rfl), w1.heap.size, by rw [Hg.out], B1.size, hrow, B1.trans ((hbel.trans hbel2).mono B1.size)⟩
  case stop =>
    rintro D c pre W _ _ h _
    exact h.elim

theorem coverOf_yes (A : Option Addr) (n ca : Nat) (ants : List (Int × Int)) (w : World) (hn : ants.length = n) (hk : n ≤ ca) (hva : arrV ants = true) (hr : Rd w w.heap.size A (ants.flatMap pairCells)) :
    Calls Try.prog 45 #[.slice A n ca] w fun e w' =>
      ∃ g, e = .returned (.tuple #[.slice (some ⟨g, 0, none⟩) 16 16, .bool true]) ∧ w.heap.size ≤ g ∧ Row w' g 4 ((covL ants).map Value.bool) ∧ Below w.heap.size w w' := by
  have hc := callsIn_wide.1 (trackScale_in A n ca ants w hn hk hva hr)
  clear hn
  go_enter Try.func45, Try.ntmps45
  go_wp2_with fail
  refine (hc).mono ?_
  rintro e w1 ⟨g, rfl, hg, hr1, b1⟩
  go_wp2_with fail
  refine bodyPost_ret (v := .tuple #[.slice (some ⟨g, 0, none⟩) 16 16, .bool true]) (by simp [results, Try.results45, go_sem]) rfl ⟨g, rfl, hg, hr1, b1⟩
end Go.Proofs.Ytfandpgjlahnpaa
