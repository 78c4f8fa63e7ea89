/- Visibilities read back: the reference's VisFrom. -/
import Derived.Test.YtbadeopjfmafcaaDoorSkyFs
import Derived.Test.YtbadeopjfmafcaaDoorVisTs
import Derived.Test.YtbadeopjfmafcaaDoorVisL
import Derived.Test.YtbadeopjfmafcaaDoorTxtW
namespace Go.Proofs.YtbadeopjfmafcaaDoor
open Go.RowKit

set_option maxRecDepth 100000 in
set_option maxHeartbeats 1000000 in
theorem sVisFrom_any (l : List UInt8) (w : World) (hs : l.length ≤ 1048576) :
    Calls Tryd.prog 35 #[.string ⟨l.toArray⟩] w fun e w' => ∃ (n : Int) (v : Value) (vs : List (Int × Int)) (ok : Bool), e = .returned (.tuple #[.int .i64 n, v, .bool ok]) ∧ VisRes l n vs ok ∧
      w'.ownsRow w.heap.size 70 2 v vs.length (vs.flatMap pairCells) ∧ Below w.heap.size w w' := by
  obtain ⟨i0, hi, hz0, hz1, hz2⟩ := info_parts visInfo2
  have hsz : (ByteArray.mk l.toArray).size = l.length := rfl
  go_enter Tryd.func35, Tryd.ntmps35
  go_wp2_with fail
  refine (l41Cut_any l 10 w (by omega)).mono ?_
  rintro e w1 ⟨v, rfl, o1, b1⟩
  obtain ⟨A, cp, rfl⟩ := own_form o1
  have hr1 := Rd.of_own o1
  have hcl : (cut 10 l).length ≤ l.length + 1 := by rw [cut_len]; have := List.count_le_length (a := (10 : UInt8)) (l := l); omega
  have hc1 : 1 ≤ (cut 10 l).length := by rw [cut_len]; omega
  have Hb1 := Lib.hid b1
  have hb1s := b1.size
  clear b1 o1
  obtain ⟨n, hn⟩ : ∃ n, (cut 10 l).length = n := ⟨_, rfl⟩
  rw [hn] at hcl hc1 ⊢
  have Hn := Lib.hid hn; clear hn
  have hdl : ∀ k, k + 1 < n → (cut 10 l).getD k [] ∈ (cut 10 l).dropLast := fun k hk => dropLast_mem Hn.out hk
  have hdt : (cut 10 l).dropLast = (cut 10 l).take (n - 1) := by rw [List.dropLast_eq_take, Hn.out]
  have Hdl := Lib.hid hdl; clear hdl
  have Hdt := Lib.hid hdt; clear hdt
  go_wp2_with fail
  have r0 := (Row.new w1 70 []).own (base := w1.heap.size) (size := 2) (n := 0) (Nat.le_refl _) rfl (by unfold maxLen; omega)
  go_loopw [6, 7] (fun o i wr => ∃ (k : Nat) (vs : List (Int × Int)), k + 1 ≤ n ∧ i = .int .i64 k ∧ linesVis ((cut 10 l).take k) = some vs ∧ wr.ownsRow w1.heap.size 70 2 o vs.length (vs.flatMap pairCells) ∧ Below w1.heap.size w1 wr) (fun _ i _ => n - (intOf i).toNat)
  case atStart => exact ⟨0, [], hc1, rfl, rfl, r0, bA1⟩
  case round =>
    obtain ⟨k, vs, hk, rfl, hvs, hown, hbel⟩ := hrel
    have hbs := hbel.size
    obtain ⟨Av, cv, rfl⟩ := own_form hown
    have hvl : vs.length = k := by rw [linesVis_len hvs, List.length_take, Hn.out]; omega
    by_cases hlt : k + 1 < n
    · have hr2 := hr1.below hbel
      obtain ⟨b, off, rfl, hb2, hcc⟩ := hr2 k _ (strs_get (by rw [Hn.out]; omega))
      have hmem := Hdl.out k hlt
      have hnext := fun g => linesVis_take (k := k) (g := g) (by rw [Hn.out]; omega) hvs
      have hgl := getD_len (c := 10) (l := l) k
      generalize (cut 10 l).getD k [] = x at *
      have hcx : (cut 32 x).length ≤ x.length + 1 := by rw [cut_len]; have := List.count_le_length (a := (32 : UInt8)) (l := x); omega
      have Hown := Lib.hid hown; clear hown
      have Hbel := Lib.hid hbel; clear hbel
      have Hvs := Lib.hid hvs; clear hvs
      have Hcx := Lib.hid hcx; clear hcx
      have Hgl := Lib.hid hgl; clear hgl
      have Hmem := Lib.hid hmem; clear hmem
      have Hnext := Lib.hid hnext; clear hnext
      have Hvl := Lib.hid hvl; clear hvl
      go_wp2_with fail
      refine (l41Cut_any x 32 _ (by have := Hgl.out; omega)).mono ?_
      rintro e w2 ⟨v, rfl, o2, b2⟩
      obtain ⟨A2, cp2, rfl⟩ := own_form o2
      have hr3 := Rd.of_own o2
      have Hown2 := Lib.hid (own_ext Hown.out b2)
      have Hbel2 := Lib.hid (Hbel.out.trans (b2.mono hbs))
      clear b2 hr2 o2
      by_cases h3 : (cut 32 x).length = 3
      · have hlv := lineVis_three h3
        rw [h3]
        have hyl1 := getD_len (c := 32) (l := x) 1
        have hyl2 := getD_len (c := 32) (l := x) 2
        obtain ⟨b3, off3, rfl, hb3, hd1⟩ := hr3 1 _ (strs_get (by rw [h3]; decide))
        obtain ⟨_, _, e3, _, hd2⟩ := hr3 2 _ (strs_get (by rw [h3]; decide))
        cases e3
        generalize (cut 32 x).getD 1 [] = y1 at *
        generalize (cut 32 x).getD 2 [] = y2 at *
        have hnx := Hnext.out _ hlv
        have Hlv := Lib.hid hlv; clear hlv
        have Hnx := Lib.hid hnx; clear hnx
        have H3 := Lib.hid h3; clear h3
        clear hr3
        obtain ⟨P1, hP1⟩ : ∃ p, num7 y1 = p := ⟨_, rfl⟩
        obtain ⟨P2, hP2⟩ : ∃ p, num7 y2 = p := ⟨_, rfl⟩
        rw [hP1, hP2] at Hnx
        go_wp2_with fail
        have f1 : ∀ w', Below w2.heap.size w2 w' → w'.cell? ⟨b3, off3 + 1 * 1, none⟩ = some (.string ⟨y1.toArray⟩) := fun w' h => (h.cell (p := ⟨b3, off3 + 1, none⟩) hb3).trans hd1
        have f2 : ∀ w', Below w2.heap.size w2 w' → w'.cell? ⟨b3, off3 + 2 * 1, none⟩ = some (.string ⟨y2.toArray⟩) := fun w' h => (h.cell (p := ⟨b3, off3 + 2, none⟩) hb3).trans hd2
        refine wp_region_N [10, 11, 12] [11, 12] (by kernel_rfl) (by kernel_rfl) ?_
        refine wpStill_go (v := .slice Av vs.length cv) rfl rfl (stays_run fun w' h => ex_move rfl rfl) ?_
        simp only [Act.put, List.setIfInBounds_toArray, List.set_cons_succ, List.set_cons_zero]
        refine wpStill_go (v := .slice (some ⟨b3, off3, none⟩) 3 cp2) rfl rfl (stays_run fun w' h => ex_move rfl rfl) ?_
        simp only [Act.put, List.setIfInBounds_toArray, List.set_cons_succ, List.set_cons_zero]
        refine wpStill_go (v := .pointer (some ⟨b3, off3 + 1 * 1, none⟩)) rfl rfl (stays_run fun w' h => ex_index rfl (by kernel_rfl) (by kernel_rfl) rfl rfl (by decide)) ?_
        simp only [Act.put, List.setIfInBounds_toArray, List.set_cons_succ, List.set_cons_zero]
        refine wpStill_go (v := .string ⟨y1.toArray⟩) rfl rfl (stays_run fun w' h => ex_load rfl rfl (ld_one (by kernel_rfl) (f1 w' h))) ?_
        simp only [Act.put, List.setIfInBounds_toArray, List.set_cons_succ, List.set_cons_zero]
        refine wpStill_go (v := .int .i64 P1) rfl rfl (stays_call (f := 60) (args := #[.string ⟨y1.toArray⟩]) (fun w' h => by simp [go_sem]) (fun w' _ => (l41Number_any y1 w' (by have := hyl1; have := Hgl.out; omega)).mono fun _ _ h => ⟨by rw [h.1, hP1], h.2 ▸ Below.refl _ _⟩)) ?_
        simp only [Act.put, List.setIfInBounds_toArray, List.set_cons_succ, List.set_cons_zero]
        refine wpStill_go (v := .slice (some ⟨b3, off3, none⟩) 3 cp2) rfl rfl (stays_run fun w' h => ex_move rfl rfl) ?_
        simp only [Act.put, List.setIfInBounds_toArray, List.set_cons_succ, List.set_cons_zero]
        refine wpStill_go (v := .pointer (some ⟨b3, off3 + 2 * 1, none⟩)) rfl rfl (stays_run fun w' h => ex_index rfl (by kernel_rfl) (by kernel_rfl) rfl rfl (by decide)) ?_
        simp only [Act.put, List.setIfInBounds_toArray, List.set_cons_succ, List.set_cons_zero]
        refine wpStill_go (v := .string ⟨y2.toArray⟩) rfl rfl (stays_run fun w' h => ex_load rfl rfl (ld_one (by kernel_rfl) (f2 w' h))) ?_
        simp only [Act.put, List.setIfInBounds_toArray, List.set_cons_succ, List.set_cons_zero]
        refine wpStill_go (v := .int .i64 P2) rfl rfl (stays_call (f := 60) (args := #[.string ⟨y2.toArray⟩]) (fun w' h => by simp [go_sem]) (fun w' _ => (l41Number_any y2 w' (by have := hyl2; have := Hgl.out; omega)).mono fun _ _ h => ⟨by rw [h.1, hP2], h.2 ▸ Below.refl _ _⟩)) ?_
        simp only [Act.put, List.setIfInBounds_toArray, List.set_cons_succ, List.set_cons_zero]
        refine wpStill_go (v := .agg #[.int .i64 P1, .int .i64 P2]) rfl rfl (stays_run fun w' h => by simp [go_sem]) ?_
        simp only [Act.put, List.setIfInBounds_toArray, List.set_cons_succ, List.set_cons_zero]
        refine wpStill_skip rfl ?_
        refine wpStill_skip rfl ?_
        refine wpStill_skip rfl ?_
        refine wpStill_nil ?_
        repeat (refine wpMark_skip rfl ?_)
        refine wpMark_go rfl (fun w3 h3w K hK => ?_)
        go_wp2_with fail
        have hW1 : ∀ o, Below w2.heap.size w2 (w3.alloc o) := fun o => ((Below.refl _ _).drew.trans h3w).alloc h3w.size o
        refine hK _ _ (fun _ => hW1 _) ?_
        clear hK
        refine wpMark_go rfl (fun w4 h4w K hK => ?_)
        have hE : Below w2.heap.size w2 w4 := (hW1 _).trans (h4w.mono (hW1 _).size)
        have hn := (Row.new w3 70 [.int .i64 P1, .int .i64 P2]).kept h4w
        have hbz := Hbel2.out.size
        have hvk := Hvl.out
        refine wpList_append_own w4 rfl _ _ 36 rfl w1.heap.size 70 i0 (.agg #[.int .i64 0, .int .i64 0]) 2 16 (by kernel_rfl) hi hz0 hz1 hz2 rfl (by decide) (.slice Av vs.length cv) vs.length _ rfl (own_ext Hown2.out hE)
          ⟨w3.heap.size, 0, none⟩ 1 1 [.int .i64 P1, .int .i64 P2] rfl rfl (fun j u hj => by rw [← hj, ← hn.cell j]; exact congrArg _ (addr_add _ _)) (by simp [Value.oneCell']) (by unfold maxLen; omega) (by omega) (Nat.le_trans hbz hE.size) ?_
        intro v' w5 hown' hgrow _
        obtain ⟨g', cap', rfl⟩ := ownsRow_succ hown'
        have hb5 : Below w1.heap.size w1 w5 := (Hbel2.out.trans (hE.mono hbz)).grown hgrow (Nat.le_trans hbz hE.size) fun j hj => (own_lt (own_ext Hown2.out hE) hj).1
        have Hown' := Lib.hid hown'; clear hown'
        have Hb5 := Lib.hid hb5; clear hb5
        clear hgrow hn
        simp only [Act.put, List.setIfInBounds_toArray, List.set_cons_succ, List.set_cons_zero]
        go_wp2_with fail
        refine hK _ _ (fun h => absurd h (by decide)) ?_
        clear hK
        refine wpMark_go rfl (fun w6 h6w K hK => ?_)
        go_wp2_with fail
        refine hK _ _ (fun h => absurd h (by decide)) (wpMark_nil fun w7 h7 => ?_)
        simp only [onlyN]
        clear hK
        have h67 := h6w.trans h7
        have Hown7 := Lib.hid (own_ext Hown'.out h67)
        have Hb7 := Lib.hid (Hb5.out.trans (h67.mono Hb5.out.size))
        clear h6w h7 h67 hE hW1 f1 f2
        go_wp2_with fail
        go_roundw
        case measure => simp [intOf]; omega
        case rel =>
          refine ⟨k + 1, vs ++ [(P1, P2)], by omega, by go_num, Hnx.out, ?_, Hb7.out⟩
          rw [List.flatMap_append, List.length_append]
          exact Hown7.out
      · have hno := Hmem.out
        have hnv := VisIs.lines_not Hmem.out (lineVis_not h3)
        have h3b : (((cut 32 x).length : Int) != 3) = true := by rw [bne_iff_ne]; omega
        have hres : VisRes l 0 [] false := .inr ⟨rfl, rfl, rfl, hnv⟩
        have Hres := Lib.hid hres; clear hres
        clear hno hnv
        go_wp2_with fail
        go_ret3
        refine ⟨_, _, [], _, rfl, Hres.out, (Row.new w2 70 []).own (base := w.heap.size) (size := 2) (n := 0) (by have := Hbel2.out.size; omega) rfl (by unfold maxLen; omega), (Hb1.out.trans (Hbel2.out.mono hb1s)).alloc (by have := Hbel2.out.size; omega) _⟩
    · obtain rfl : n = k + 1 := by omega
      have hvs2 : linesVis (cut 10 l).dropLast = some vs := by rw [Hdt.out]; exact hvs
      have hrd : ∀ m us, VisIs l m us → us = vs := fun m us h => by
        have := h.read
        rw [hvs2] at this
        injection this with this
        exact this.symm
      have hl0 : vs ≠ [] → l ≠ [] := fun h e => by
        subst e
        have : k + 1 = 1 := Hn.out.symm
        exact h (List.length_eq_zero_iff.1 (by omega))
      have hvb : vs.length ≤ 1048577 := by omega
      have Hvs := Lib.hid hvs; clear hvs
      have Hvs2 := Lib.hid hvs2; clear hvs2
      have Hrd := Lib.hid hrd; clear hrd
      have Hl0 := Lib.hid hl0; clear hl0
      have Hvl := Lib.hid hvl; clear hvl
      have hrv := Rd.of_own hown
      go_wp2_with fail
      go_loopw [9] (fun i wi => ∃ j : Nat, 2 ≤ j ∧ j ≤ 8 ∧ i = .int .i64 j ∧ (∀ m us, VisIs l m us → (j : Int) ≤ m) ∧ Below wr.heap.size wr wi) (fun i _ => 8 - (intOf i).toNat)
      case atStart => exact ⟨2, by omega, by omega, rfl, fun m us h => h.bd.1.1, Below.refl _ _⟩
      case round =>
        obtain ⟨j, hj2, hj8, rfl, hnone, hbj⟩ := hrel
        have hrj := (hrv.below hbj).more hbj.size
        have hownj := own_ext hown hbj
        have Hnone := Lib.hid hnone; clear hnone
        have Hbj := Lib.hid hbj; clear hbj
        have Hownj := Lib.hid hownj; clear hownj
        by_cases hjt : j ≤ 7
        · go_wp2_with fail
          refine (sBaseMany_any j _).mono ?_
          rintro e w' ⟨rfl, rfl⟩
          by_cases hbm : (vs.length : Int) = bm j
          · have hbmb : ((vs.length : Int) == bm j) = true := by rw [beq_iff_eq]; exact hbm
            have hvne : vs ≠ [] := fun e => by
              subst e
              simp only [List.length_nil] at hbm
              rcases bm_cases (j : Int) with h | h | h | h | h | h | h <;> omega
            have Hlne := Lib.hid (Hl0.out hvne)
            clear hvne
            have Hbm := Lib.hid hbm; clear hbm
            go_wp2_with fail
            refine (sVisText_any j _ _ _ vs _ rfl (by omega) hrj).mono ?_
            rintro e w2 ⟨rfl, b2⟩
            have Hb2 := Lib.hid (Hbj.out.trans (b2.mono Hbj.out.size))
            have Ho2 := Lib.hid (own_ext Hownj.out b2)
            clear b2 hrj
            obtain ⟨S, hS⟩ : ∃ S, visStr j vs = S := ⟨_, rfl⟩
            rw [hS]
            have HS := Lib.hid hS; clear hS
            by_cases hq : S = l
            · have hqb : (S == l) = true := by rw [beq_iff_eq]; exact hq
              have hres : VisRes l j vs true := .inl ⟨rfl, VisIs.of Hlne.out (HS.out.trans hq)⟩
              have Hres := Lib.hid hres; clear hres
              have Hq := Lib.hid hq; clear hq
              go_wp2_with fail
              go_ret3
              exact ⟨_, _, vs, _, rfl, Hres.out, own_base Ho2.out hb1s, Hb1.out.trans ((hbel.trans (Hb2.out.mono hbel.size)).mono hb1s)⟩
            · have hqb : (S == l) = false := by rw [beq_eq_false_iff_ne]; exact hq
              have hnn : ∀ m us, VisIs l m us → ((j + 1 : Nat) : Int) ≤ m := fun m us h => by
                have h1 := Hnone.out m us h
                have h2 := Hrd.out m us h
                subst h2
                have h3 : m ≠ (j : Int) := fun e => by
                  subst e
                  exact hq (HS.out.symm.trans h.text)
                omega
              have Hnn := Lib.hid hnn; clear hnn
              have Hq := Lib.hid hq; clear hq
              go_wp2_with fail
              go_roundw
              case measure => simp [intOf]; omega
              case rel => exact ⟨j + 1, by omega, by omega, by go_num, Hnn.out, Hb2.out⟩
          · have hbmb : ((vs.length : Int) == bm j) = false := by rw [beq_eq_false_iff_ne]; exact hbm
            have hnn : ∀ m us, VisIs l m us → ((j + 1 : Nat) : Int) ≤ m := fun m us h => by
              have h1 := Hnone.out m us h
              have h2 := Hrd.out m us h
              subst h2
              have h3 : m ≠ (j : Int) := fun e => by
                subst e
                exact hbm h.bd.2
              omega
            have Hnn := Lib.hid hnn; clear hnn
            have Hbm := Lib.hid hbm; clear hbm
            go_wp2_with fail
            go_roundw
            case measure => simp [intOf]; omega
            case rel => exact ⟨j + 1, by omega, by omega, by go_num, Hnn.out, Hbj.out⟩
        · obtain rfl : j = 8 := by omega
          have hres : VisRes l 0 [] false := .inr ⟨rfl, rfl, rfl, fun m us h => by have := Hnone.out m us h; have := h.bd.1; omega⟩
          have Hres := Lib.hid hres; clear hres
          have hsz2 := Hbj.out.size
          go_wp2_with fail
          go_ret3
          exact ⟨_, _, [], _, rfl, Hres.out, (Row.new _ 70 []).own (base := w.heap.size) (size := 2) (n := 0) (by omega) rfl (by unfold maxLen; omega), (Hb1.out.trans ((hbel.trans (Hbj.out.mono hbel.size)).mono hb1s)).alloc (by omega) _⟩
end Go.Proofs.YtbadeopjfmafcaaDoor
