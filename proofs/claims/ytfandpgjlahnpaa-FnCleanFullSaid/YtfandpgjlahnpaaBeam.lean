/- 'impl.BeamOf' and what it calls. -/
import Derived.Test.YtfandpgjlahnpaaA5
import Derived.Test.YtfandpgjlahnpaaA1
import Derived.Test.YtfandpgjlahnpaaDrawC
namespace Go.Proofs.Ytfandpgjlahnpaa
open Go.RowKit

theorem part_same {α : Type} (z : α) (l : List α) (k : Nat) (hx : l[k]? = some z) : part z l k = part z l (k + 1) := by
  rw [← part_succ z l k z hx]
  have hk : k < l.length := (List.getElem?_eq_some_iff.1 hx).1
  have h := part_get z l k hk
  refine (List.ext_getElem? fun i => ?_)
  rw [List.getElem?_set]
  split
  · rename_i e; subst e; rw [h, if_pos (List.getElem?_eq_some_iff.1 h).1]
  · rfl
theorem wts_get? (c : List Bool) (k : Nat) (h : k < c.length) : (wts c)[k]? = some (if c.getD k false then 1 else 0) := by
  unfold wts
  rw [List.getElem?_map, List.getD_eq_getElem?_getD, List.getElem?_eq_getElem h]; rfl

theorem weightUniform_yes (A : Option Addr) (cap : Nat) (c : List Bool) (w : World) (hv : covV c = true) (hr : Rd w w.heap.size A (c.map Value.bool)) :
    Calls Try.prog 82 #[.slice A 16 cap] w fun e w' => e = .returned (.tuple #[.slice (some ⟨w.heap.size, 0, none⟩) 16 16, .bool true]) ∧ Row w' w.heap.size 3 ((wts c).map (Value.int .i64)) ∧ Below w.heap.size w w' := by
  obtain ⟨Z, hZ⟩ : ∃ Z, List.replicate 16 (Value.int .i64 0) = Z := ⟨_, rfl⟩
  have hmk : ∀ W : World, (Instr.makeSlice 25 (.int .i64 16) (.int .i64 16)).run Try.prog W = .ok (.slice (some ⟨W.heap.size, 0, none⟩) 16 16) (W.alloc (.cells Z.toArray 3)) := fun W => by
    rw [← hZ]; exact run_make1 (P := Try.prog) 25 3 (.int .i64 0) 8 Try.underlying25 (by kernel_rfl) rfl 16 (by omega) (by omega) W
  have hl := covV_len hv
  have hz2 : Z = (part 0 (wts c) 0).map (Value.int .i64) := by
    rw [← hZ]; unfold part; rw [wts_len, hl]; rfl
  have r0 := Row.new w 3 Z
  have Hz2 := Lib.hid hz2
  clear hZ hz2
  have Hv := Lib.hid hv
  have Hl := Lib.hid hl; clear hl
  go_enter Try.func82, Try.ntmps82
  go_wp2_with fail
  refine (coverValid_any A 16 cap c _ w.heap.size Hl.out hr).mono ?_
  rintro e w1 ⟨rfl, rfl⟩
  rw [hv]
  clear hv
  go_wp2_with fail
  clear hmk
  go_loopw [15] (fun i wr => ∃ k : Nat, k ≤ 16 ∧ i = .int .i64 k ∧ Row wr w.heap.size 3 ((part 0 (wts c) k).map (Value.int .i64)) ∧ Below w.heap.size w wr) (fun i _ => 16 - (intOf i).toNat)
  case atStart => exact ⟨0, by omega, rfl, by rw [← Hz2.out]; exact r0, (Below.refl _ _).alloc (Nat.le_refl _) _⟩
  case round =>
    clear r0
    obtain ⟨k, hk, rfl, hrow, hbel⟩ := hrel
    by_cases hlt : k < 16
    · obtain ⟨b, off, rfl, hb, hc⟩ := (hr.below hbel) k _ (bools_get (by rw [Hl.out]; exact hlt))
      have hwk := wts_get? c k (by rw [Hl.out]; exact hlt)
      have hwl := wts_len c
      rw [Hl.out] at hwl
      have hpg := part_get 0 (wts c) k (by rw [hwl]; exact hlt)
      cases hx : c.getD k false
      · rw [hx] at hc hwk
        simp only [Bool.false_eq_true, if_false] at hwk
        rw [part_same 0 _ k hwk] at hrow
        have Hwk := Lib.hid hwk; clear hwk
        have Hwl := Lib.hid hwl; clear hwl
        have Hpg := Lib.hid hpg; clear hpg
        have Hx := Lib.hid hx; clear hx
        have Hrow := Lib.hid hrow; clear hrow
        go_wp2_with fail
        go_roundw
        case measure => simp [intOf]; omega
        case rel => exact ⟨k + 1, by omega, by go_num, Hrow.out, hbel⟩
      · rw [hx] at hc hwk
        simp only [if_true] at hwk
        have ck := hrow.cell k
        rw [List.getElem?_map, hpg] at ck
        simp only [Option.map_some] at ck
        have fk := hrow.frozen k
        have r2 := hrow.set_ k (.int .i64 1)
        rw [← List.map_set, part_succ 0 _ k 1 hwk] at r2
        have Hwk := Lib.hid hwk; clear hwk
        have Hwl := Lib.hid hwl; clear hwl
        have Hpg := Lib.hid hpg; clear hpg
        have Hx := Lib.hid hx; clear hx
        have R2 := Lib.hid r2; clear r2
        clear hrow
        go_wp2_with fail
        go_roundw
        case measure => simp [intOf]; omega
        case rel => exact ⟨k + 1, by omega, by go_num, R2.out, hbel.setCell (p := ⟨w.heap.size, k, none⟩) (Nat.le_refl _) _⟩
    · obtain rfl : k = 16 := by omega
      rw [show part 0 (wts c) 16 = wts c from by have := part_all 0 (wts c); rwa [wts_len, Hl.out] at this] at hrow
      have Hrow := Lib.hid hrow
      clear hrow
      go_wp2_with fail
      refine bodyPost_ret (v := .tuple #[.slice (some ⟨w.heap.size, 0, none⟩) 16 16, .bool true]) (by simp [results, Try.results82, go_sem]) rfl ⟨rfl, Hrow.out, hbel⟩

theorem weightValid_any (A : Option Addr) (n cap : Nat) (s : List Int) (w : World) (hn : s.length = n) (hr : Rd w w.heap.size A (s.map (Value.int .i64))) :
    Calls Try.prog 75 #[.slice A n cap] w fun e w' => e = .returned (.bool (wtV s)) ∧ w = w' := by
  by_cases h : n = 16
  · subst h
    have Hn := Lib.hid hn; clear hn
    go_enter Try.func75, Try.ntmps75
    go_wp2_with fail
    go_loop [10] (fun i => ∃ k : Nat, k ≤ 16 ∧ i = .int .i64 k ∧ ∀ j, j < k → (0 ≤ s.getD j 0 ∧ s.getD j 0 ≤ 100) ∧ s.getD (oppN j) 0 = s.getD j 0) (fun i => 16 - (intOf i).toNat)
    case atStart => exact ⟨0, by omega, rfl, fun j hj => absurd hj (by omega)⟩
    case round =>
      obtain ⟨k, hk, rfl, hall⟩ := hrel
      have Hall := Lib.hid hall; clear hall
      by_cases hlt : k < 16
      · have ho := oppN_lt k
        have hoi := oppI_nat k hlt
        obtain ⟨b, off, rfl, hb, hc⟩ := hr k _ (ints_get (by rw [Hn.out]; exact hlt))
        obtain ⟨_, _, e2, hb2, hc2⟩ := hr (oppN k) _ (ints_get (by rw [Hn.out]; exact ho))
        cases e2
        have hop : ∀ w, Calls Try.prog 128 #[.int .i64 (k : Int)] w fun e w' => e = .returned (.int .i64 (oppN k)) ∧ w = w' := fun w => by
          have := opposite_any (k : Int) w (by omega) (by omega); rwa [hoi] at this
        have Hop := Lib.hid hop
        clear hop hoi
        generalize hxx : s.getD k 0 = x at *
        generalize hyy : s.getD (oppN k) 0 = y at *
        generalize hoo : oppN k = o at *
        have Hxx := Lib.hid hxx; clear hxx
        have Hyy := Lib.hid hyy; clear hyy
        have Hoo := Lib.hid hoo; clear hoo
        have bad : ¬ ((0 ≤ x ∧ x ≤ 100) ∧ y = x) → wtV s = false := fun hne => by
          cases hw : wtV s
          · rfl
          · have := (wtV_iff.1 hw).2 k hlt
            rw [Hoo.out, Hxx.out, Hyy.out] at this
            exact absurd this hne
        have Bad := Lib.hid bad
        clear bad
        by_cases h1 : x < 0
        · go_wp2_with fail
          go_ret
          exact ⟨ret_bool (Bad.out (by omega)).symm, rfl⟩
        · by_cases h2 : 100 < x
          · go_wp2_with fail
            go_ret
            exact ⟨ret_bool (Bad.out (by omega)).symm, rfl⟩
          · by_cases h3 : y = x
            · have hyx : (y != x) = false := by simp [h3]
              have H3 := Lib.hid h3; clear h3
              go_wp2_with fail
              refine (Hop.out _).mono ?_
              rintro e w' ⟨rfl, rfl⟩
              go_wp2_with fail
              go_round
              case measure => simp [intOf]; omega
              case rel =>
                refine ⟨k + 1, by omega, by go_num, fun j hj => ?_⟩
                by_cases hjk : j = k
                · rw [hjk, Hoo.out, Hxx.out, Hyy.out]; exact ⟨by omega, H3.out⟩
                · exact Hall.out j (by omega)
            · have hyx : (y != x) = true := by simp [h3]
              have H3 := Lib.hid h3; clear h3
              go_wp2_with fail
              refine (Hop.out _).mono ?_
              rintro e w' ⟨rfl, rfl⟩
              go_wp2_with fail
              go_ret
              exact ⟨ret_bool (Bad.out fun h => H3.out h.2).symm, rfl⟩
      · obtain rfl : k = 16 := by omega
        go_wp2_with fail
        go_ret
        exact ⟨ret_bool (wtV_iff.2 ⟨Hn.out, Hall.out⟩).symm, rfl⟩
  · have hb : ((n : Int) != 16) = true := by rw [bne_iff_ne]; omega
    go_enter Try.func75, Try.ntmps75
    go_wp2_with fail
    go_ret
    refine ⟨ret_bool ?_, rfl⟩
    unfold wtV; rw [beq_eq_false_iff_ne.2 (by omega)]; rfl

theorem weightBeam_yes (A : Option Addr) (cap : Nat) (s : List Int) (w : World) (hv : wtV s = true) (hr : Rd w w.heap.size A (s.map (Value.int .i64))) :
    Calls Try.prog 18 #[.slice A 16 cap] w fun e w' => ∃ v, e = .returned (.tuple #[v, .bool true]) ∧ w'.ownsRow w.heap.size 3 1 v 16 ((wbeam s).map (Value.int .i64)) ∧ Below w.heap.size w w' := by
  have hl := (wtV_iff.1 hv).1
  have hle : gLe 100 (reG s) := gLe_reG (M := 100) (by omega) fun x hx => by have := wtV_mem hv x hx; omega
  have hsv := skyV_wbeam hv
  have hgl : (reG s).length = 16 := by unfold reG; rw [List.length_map]; exact hl
  have hwl := wbeam_len s
  have Hv := Lib.hid hv
  have Hle := Lib.hid (gLe_mono hle (N := 1000000000) (by omega))
  clear hle
  have Hl := Lib.hid hl; clear hl
  have Hsv := Lib.hid hsv; clear hsv
  have Hgl := Lib.hid hgl; clear hgl
  have Hwl := Lib.hid hwl; clear hwl
  go_enter Try.func18, Try.ntmps18
  go_wp2_with fail
  refine (weightValid_any A 16 cap s _ Hl.out hr).mono ?_
  rintro e w1 ⟨rfl, rfl⟩
  rw [hv]
  clear hv
  go_wp2_with fail
  refine (realGrid_any A 16 cap s _ Hl.out (by omega) hr).mono ?_
  rintro e w1 ⟨v, rfl, o1, b1⟩
  obtain ⟨A1, c1, rfl⟩ := own_form o1
  have hr1 := Rd.of_own o1
  clear o1
  go_wp2_with fail
  refine (transform_any A1 c1 (reG s) 1 _ Hgl.out (.inl rfl) Hle.out hr1).mono ?_
  rintro e w2 ⟨rfl, r2, b2⟩
  have b2' := b1.trans (b2.mono b1.size)
  have hrt := r2.rd
  clear r2 hr1 b1 b2
  go_wp2_with fail
  refine (realParts_any _ 16 16 (trf (reG s) 1) _ (trf_len _ _) (by omega) hrt).mono ?_
  rintro e w3 ⟨v, rfl, o3, b3⟩
  have b3' := b2'.trans (b3.mono b2'.size)
  obtain ⟨A3, c3, rfl⟩ := own_form o3
  have hr3 := Rd.of_own o3
  have o3 := o3.mono b2'.size
  clear b3 b2' hrt
  have O3 := Lib.hid o3
  clear o3
  go_wp2_with fail
  refine (skyChecked_any A3 16 c3 (wbeam s) _ Hwl.out (by omega) hr3).mono ?_
  rintro e w4 ⟨rfl, rfl⟩
  rw [Hsv.out]
  simp only [okS, if_true]
  go_wp2_with fail
  refine bodyPost_ret (v := .tuple #[.slice A3 16 c3, .bool true]) (by simp [results, Try.results18, go_sem]) rfl ⟨_, rfl, O3.out, b3'⟩

theorem beamOf_yes (A : Option Addr) (cap : Nat) (c : List Bool) (w : World) (hv : covV c = true) (hr : Rd w w.heap.size A (c.map Value.bool)) :
    Calls Try.prog 23 #[.slice A 16 cap] w fun e w' => ∃ v, e = .returned (.tuple #[v, .bool true]) ∧ w'.ownsRow w.heap.size 3 1 v 16 ((beamL c).map (Value.int .i64)) ∧ Below w.heap.size w w' := by
  have Hv := Lib.hid hv
  clear hv
  go_enter Try.func23, Try.ntmps23
  go_wp2_with fail
  refine (weightUniform_yes A cap c _ Hv.out hr).mono ?_
  rintro e w1 ⟨rfl, r1, b1⟩
  have hr1 := r1.rd
  clear r1
  go_wp2_with fail
  refine (weightBeam_yes _ 16 (wts c) _ (wtV_wts Hv.out) hr1).mono ?_
  rintro e w2 ⟨v, rfl, o2, b2⟩
  rw [beamL_eq] at o2
  have O2 := Lib.hid (o2.mono b1.size)
  clear o2
  have b3 := b1.trans (b2.mono b1.size)
  go_wp2_with fail
  refine bodyPost_ret (v := .tuple #[v, .bool true]) (by simp [results, Try.results23, go_sem]) rfl ⟨_, rfl, O2.out, b3⟩
end Go.Proofs.Ytfandpgjlahnpaa
