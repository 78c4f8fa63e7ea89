/- 'spec.ObserveOf'. -/
import Derived.Test.YtfandpgjlahnpaaObsI
namespace Go.Proofs.Ytfandpgjlahnpaa
open Go.RowKit

theorem obsP_take (ants : List (Int × Int)) (s : List Int) (k : Nat) (h : k < (pairsN ants.length).length) : (obsL ants s).take (k + 1) = (obsL ants s).take k ++ [(skyT s).getD (vecC ants (pairAt ants.length k).1 (pairAt ants.length k).2) (0, 0)] := by
  have h1 := take_succ_getD (l := obsL ants s) (d := (0, 0)) (k := k) (by rw [obsL_len]; exact h)
  rw [h1, obsL_get ants s k h]; rfl

set_option maxRecDepth 100000 in
set_option maxHeartbeats 1000000 in
theorem sObserveOf_any (A B : Option Addr) (n m ca cb : Nat) (ants : List (Int × Int)) (s : List Int) (w : World) (hn : ants.length = n) (hm : s.length = m) (hnb : n ≤ 1048576) (hmb : m ≤ 1048576)
    (hr : Rd w w.heap.size A (ants.flatMap pairCells)) (hr2 : Rd w w.heap.size B (s.map (Value.int .i64))) :
    Calls Try.prog 43 #[.slice A n ca, .slice B m cb] w fun e w' =>
      ∃ v, e = .returned (.tuple #[v, .bool (arrV ants && skyV s)]) ∧ w'.ownsRow w.heap.size 31 2 v (obsR ants s).length ((obsR ants s).flatMap pairCells) ∧ Below w.heap.size w w' := by
  obtain ⟨i1, hj, hy0, hy1, hy2⟩ := info_parts gaussInfo
  have r0 := Row.new w 31 []
  have hr' := hr.ext (bA1 (o := .cells #[] 31))
  have hr2' := hr2.ext (bA1 (o := .cells #[] 31))
  cases hok : arrV ants && skyV s
  · rw [obsR_no hok]
    have Hn := Lib.hid hn; clear hn
    have Hm := Lib.hid hm; clear hm
    have Hok := Lib.hid hok; clear hok
    go_enter Try.func43, Try.ntmps43
    go_wp2_with fail
    refine (sSkyTransform_any B m cb s _ Hm.out (by omega) hr2').mono ?_
    rintro e w1 ⟨v, rfl, o1, b1⟩
    have extX := (hr'.below b1).more b1.size; clear hr'; have hr' := extX; clear extX
    have r1 := r0.kept b1
    have B1 := bA1.trans (b1.mono bA1.size)
    clear o1 b1 r0 hr2'
    go_wp2_with fail
    refine (sArrayValid_any A n ca ants _ Hn.out hnb hr').mono ?_
    rintro e w2 ⟨rfl, b2⟩
    have r2 := r1.kept b2
    have B2 := B1.trans (b2.mono B1.size)
    clear b2 r1
    cases h1 : arrV ants
    · have H1 := Lib.hid h1; clear h1
      go_wp2_with fail
      refine bodyPost_ret (v := .tuple #[.slice (some ⟨w.heap.size, 0, none⟩) 0 0, .bool false]) (by simp [results, Try.results43, go_sem]) rfl ⟨_, rfl, r2.own (Nat.le_refl _) rfl (by decide), B2⟩
    · have h2 : skyV s = false := by have := Hok.out; rw [h1] at this; exact this
      rw [h2]
      have H1 := Lib.hid h1; clear h1
      have H2 := Lib.hid h2; clear h2
      go_wp2_with fail
      refine bodyPost_ret (v := .tuple #[.slice (some ⟨w.heap.size, 0, none⟩) 0 0, .bool false]) (by simp [results, Try.results43, go_sem]) rfl ⟨_, rfl, r2.own (Nat.le_refl _) rfl (by decide), B2⟩
  · rw [Bool.and_eq_true] at hok
    obtain ⟨h1, h2⟩ := hok
    rw [obsR_yes h1 h2]
    have hl := arrV_len h1
    have hml := skyV_len h2
    obtain rfl : m = 16 := by omega
    have hn2 : 2 ≤ n := by omega
    have hn7 : n ≤ 7 := by omega
    have hbm := bm_pairs n hn2 hn7
    have hb21 := pairs21 n hn2 hn7
    have hol := obsL_len ants s
    rw [hn] at hol
    have htk := obsP_take ants s
    rw [hn] at htk
    have hTR := skyTR_yes h2
    clear hl hml
    have Hn := Lib.hid hn; clear hn
    have Hm := Lib.hid hm; clear hm
    have H1 := Lib.hid h1; clear h1
    have H2 := Lib.hid h2; clear h2
    have Hbm := Lib.hid hbm; clear hbm
    have Hol := Lib.hid hol; clear hol
    have Htk := Lib.hid htk; clear htk
    have HTR := Lib.hid hTR; clear hTR
    obtain ⟨M, hM⟩ : ∃ M, (pairsN n).length = M := ⟨_, rfl⟩
    rw [hM] at hb21
    have HM := Lib.hid hM
    clear hM
    go_enter Try.func43, Try.ntmps43
    go_wp2_with fail
    refine (sSkyTransform_any B 16 cb s _ Hm.out (by omega) hr2').mono ?_
    rintro e w1 ⟨v, rfl, o1, b1⟩
    rw [H2.out]
    rw [HTR.out, skyT_len] at o1
    obtain ⟨A1, c1, rfl⟩ := own_form o1
    have hg1 := Rd.of_own o1
    obtain ⟨b, off, rfl, hb, _, _⟩ := rd_pair hg1 (getD_of (gs := skyT s) (k := 0) (by rw [skyT_len]; omega))
    have hbw : w.heap.size < b := by have := (own_lt o1 (j := b) rfl).1; simp at this; omega
    have extX := (hr'.below b1).more b1.size; clear hr'; have hr' := extX; clear extX
    have r1 := r0.kept b1
    have B1 := bA1.trans (b1.mono bA1.size)
    clear o1 b1 r0 hr2' hr2
    go_wp2_with fail
    refine (sArrayValid_any A n ca ants _ Hn.out hnb hr').mono ?_
    rintro e w2 ⟨rfl, b2⟩
    rw [H1.out]
    have r2 := r1.kept b2
    have B2 := B1.trans (b2.mono B1.size)
    have extX := (hg1.below b2).more b2.size; clear hg1; have hg1 := extX; clear extX
    have o2 := r2.own (base := w.heap.size) (n := 0) (size := 2) (Nat.le_refl _) rfl (by decide)
    clear b2 r1 B1 hr'
    go_wp2_with fail
    go_loopw [6, 9] (fun x i wr => ∃ k : Nat, k ≤ M ∧ i = .int .i64 k ∧ wr.ownsRow w.heap.size 31 2 x k (((obsL ants s).take k).flatMap pairCells) ∧ Rd wr wr.heap.size (some ⟨b, off, none⟩) ((skyT s).flatMap pairCells) ∧ (∀ j, x.ownBlock = some j → j ≠ b) ∧ Below w.heap.size w wr) (fun _ i _ => M - (intOf i).toNat)
    case atStart => exact ⟨0, by omega, rfl, o2, hg1, fun j hj => by simp [Value.ownBlock] at hj; omega, B2⟩
    case round =>
      clear o2 hg1 B2 r2
      obtain ⟨k, hk, rfl, hrow, hgr, hap, hbel⟩ := hrel
      have hbs := hbel.size
      have hrk := (hr.below hbel).more hbs
      have hbm := Hbm.out
      rw [HM.out] at hbm
      by_cases hlt : k < M
      · have hkM : (k : Int) < M := by omega
        have Hbm := Lib.hid hbm; clear hbm
        have Hrow := Lib.hid hrow; clear hrow
        have Hap := Lib.hid hap; clear hap
        go_wp2_with fail
        refine (sBaseMany_any n _).mono ?_
        rintro e w3 ⟨rfl, rfl⟩
        rw [Hbm.out]
        go_wp2_with fail
        refine (l17Vector_any A n ca ants k _ Hn.out H1.out (by rw [HM.out]; exact hlt) hrk).mono ?_
        rintro e w4 ⟨rfl, b4⟩
        have hrow4 := own_ext Hrow.out b4
        have hbel4 := hbel.trans (b4.mono hbs)
        have hgr4 := hgr.ext b4
        have htk := Htk.out k (by rw [HM.out]; exact hlt)
        obtain ⟨X, hX⟩ : ∃ X, vecX ants (pairAt n k).1 (pairAt n k).2 = X := ⟨_, rfl⟩
        obtain ⟨Y, hY⟩ : ∃ Y, vecY ants (pairAt n k).1 (pairAt n k).2 = Y := ⟨_, rfl⟩
        obtain ⟨c, hc⟩ : ∃ c, vecC ants (pairAt n k).1 (pairAt n k).2 = c := ⟨_, rfl⟩
        have hcI : cellI X Y = (c : Int) := by rw [← hc, ← hX, ← hY]; exact cellN_cast _ _
        have hc16 : c < 16 := by rw [← hc]; exact vecC_lt _ _ _
        rw [hX, hY]
        rw [hc] at htk
        have hgr5 := hgr4.ext (bA1 (o := .cells #[.int .i64 X, .int .i64 Y] 35))
        have hrow5 := hrow4.alloc (.cells #[.int .i64 X, .int .i64 Y] 35)
        have hbel5 := hbel4.alloc hbel4.size (.cells #[.int .i64 X, .int .i64 Y] 35)
        have hbs5 := hbel5.size
        have rv := Row.new w4 35 [.int .i64 X, .int .i64 Y]
        obtain ⟨_, _, e, hb5, hc1, hc2⟩ := rd_pair hgr5 (getD_of (gs := skyT s) (k := c) (by rw [skyT_len]; exact hc16))
        cases e
        obtain ⟨gz, hgz⟩ : ∃ gz, (skyT s).getD c (0, 0) = gz := ⟨_, rfl⟩
        rw [hgz] at hc1 hc2 htk
        clear b4 hX hY hc hgz hgr4 hgr Hrow hrow4 hbel4 hbel
        have HcI := Lib.hid hcI; clear hcI
        have Htk := Lib.hid htk; clear htk
        go_wp2_with fail
        obtain ⟨V, hV⟩ : ∃ V, w4.alloc (.cells #[.int .i64 X, .int .i64 Y] 35) = V := ⟨_, rfl⟩
        simp only [hV] at hgr5 hrow5 hbel5 hbs5 rv hb5 hc1 hc2
        rw [hV]
        obtain ⟨c0, c1', _, _⟩ := rv.two
        have hrowV := Lib.hid hrow5
        clear hV hrow5 c0 c1' rv
        go_wp2_with fail
        refine (l21At_any X Y _).mono ?_
        rintro e w5 ⟨rfl, rfl⟩
        rw [HcI.out]
        go_wp2_with (at_builtin; refine wpList_append_own_at _ rfl _ _ 55 rfl w.heap.size 31 i1 (.agg #[.int .i64 0, .int .i64 0]) 2 16 (by kernel_rfl) hj hy0 hy1 hy2 rfl (by decide) _ k _ rfl (hrowV.out.alloc _) ⟨V.heap.size, 0, none⟩ 1 1 [.int .i64 (gz.1), .int .i64 (gz.2)] rfl rfl (cell_two_new _ _ _ _) (by simp [Value.oneCell']) (by unfold maxLen; omega) (by omega) (by simp; omega) ?_; intro v' w7 hown' hgrow _ hat; obtain ⟨g', cap', rfl⟩ := ownsRow_succ hown')
        have hb7 := (hbel5.alloc hbs5 _).grown hgrow (by simp; omega) fun j hj => (own_lt hrowV.out hj).1
        have hb8 : Rd w7 w7.heap.size (some ⟨b, off, none⟩) ((skyT s).flatMap pairCells) := fun i u hu => by
          obtain ⟨_, _, e, h1, h2⟩ := hgr5 i u hu
          cases e
          refine ⟨_, _, rfl, Nat.lt_of_lt_of_le h1 (Nat.le_trans (by simp) hgrow.size), ?_⟩
          rw [← h2]
          exact World.cell?_of_block ((hgrow.block b (by simp; omega) (fun e => Hap.out b e.symm rfl)).trans (Below.heap_alloc _ _ _ hb5))
        have hap7 : ∀ j, (Value.slice (some ⟨g', 0, none⟩) (k + 1) cap').ownBlock = some j → j ≠ b := fun j hj => by
          rcases hat with e | e
          · exact Hap.out j (e.symm.trans hj)
          · rw [e] at hj; injection hj with hj; simp at hj; omega
        have Hb7 := Lib.hid hb7; clear hb7
        have Hown' := Lib.hid hown'; clear hown'
        have Hb8 := Lib.hid hb8; clear hb8
        have Hap7 := Lib.hid hap7; clear hap7
        clear hgrow hat
        go_wp2_with fail
        go_roundw
        case measure => simp [intOf]; omega
        case rel =>
          refine ⟨k + 1, by omega, by go_num, ?_, Hb8.out, Hap7.out, Hb7.out⟩
          rw [Htk.out, List.flatMap_append]
          exact Hown'.out
      · obtain rfl : k = M := by omega
        rw [List.take_of_length_le (by rw [Hol.out, HM.out]; exact Nat.le_refl _)] at hrow
        have Hbm := Lib.hid hbm; clear hbm
        have Hrow := Lib.hid hrow; clear hrow
        go_wp2_with fail
        refine (sBaseMany_any n _).mono ?_
        rintro e w3 ⟨rfl, rfl⟩
        rw [Hbm.out]
        go_wp2_with fail
        refine bodyPost_ret (v := .tuple #[u6, .bool true]) (by simp [results, Try.results43, go_sem]) rfl ⟨_, rfl, ?_, hbel⟩
        rw [Hol.out, HM.out]
        exact Hrow.out
end Go.Proofs.Ytfandpgjlahnpaa
