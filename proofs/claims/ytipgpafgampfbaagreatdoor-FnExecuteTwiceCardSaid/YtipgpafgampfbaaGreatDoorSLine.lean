/- 'spec.l51Line'. -/
import Derived.Test.YtipgpafgampfbaaGreatDoorSAsk
import Derived.Test.YtipgpafgampfbaaGreatDoorSAnt
namespace Go.Proofs.YtipgpafgampfbaaGreatDoor
open Go.RowKit
set_option linter.unusedVariables false

/-- What a line of the reference's script returns: a state, whose rows are its own, and a text. -/
def LineTo (base : Nat) (r : St × List UInt8) (w : World) (e : Ending) (w' : World) : Prop :=
  Below w.heap.size w w' ∧ ∃ g n ca B cb, e = .returned (.tuple #[.agg #[.slice (some ⟨g, 0, none⟩) n ca, .slice B 16 cb], .string ⟨r.2.toArray⟩]) ∧ r.1.1.length = n ∧
    w'.ownsRow base 50 2 (.slice (some ⟨g, 0, none⟩) n ca) n (r.1.1.flatMap pairCells) ∧ w'.ownsRow base 3 1 (.slice B 16 cb) 16 (r.1.2.map (Value.int .i64))

set_option maxRecDepth 100000 in
set_option maxHeartbeats 2000000 in
theorem l51Line_ant (base g : Nat) (B Wd : Option Addr) (n ca cb nw cw m : Nat) (h : Word) (t : List Word) (s : St) (w : World) (hh : h = wAnt) (hmm : m = 2) (hm : t.length = m) (hnw : nw = m + 1) (hb : m ≤ 1000) (hln : ∀ i, (t.getD i []).length ≤ 1000) (hn : s.1.length = n) (hok : StOk s) (hbase : base ≤ w.heap.size) (oA : w.ownsRow base 50 2 (.slice (some ⟨g, 0, none⟩) n ca) n (s.1.flatMap pairCells)) (oB : w.ownsRow base 3 1 (.slice B 16 cb) 16 (s.2.map (Value.int .i64))) (hrW : Rd w w.heap.size Wd (strs (h :: t))) :
    Calls Tryz.prog 59 #[.agg #[.slice (some ⟨g, 0, none⟩) n ca, .slice B 16 cb], .slice Wd nw cw] w fun e w' => LineTo base (antR s (num7 (t.getD 0 []), num7 (t.getD 1 []))) w e w' := by
  have pa : (h == [97, 110, 116]) = true := by rw [hh]; decide
  obtain rfl : nw = 3 := by omega
  subst hmm
  clear hnw
  have hl3 : 0 < 3 := by omega
  obtain ⟨bW, oW, rfl, hbW, hc0⟩ := hrW 0 _ (strs_get (ls := h :: t) (k := 0) (by simp))
  simp only [List.getD_cons_zero, Nat.add_zero] at hc0
  have rS := (Row.new w 83 [.slice (some ⟨g, 0, none⟩) n ca, .slice B 16 cb]).alloc (.cells #[.slice none 0 0, .slice none 0 0] 83)
  have rR := Row.new (w.alloc (.cells #[.slice (some ⟨g, 0, none⟩) n ca, .slice B 16 cb] 83)) 83 [.slice none 0 0, .slice none 0 0]
  rw [World.size_alloc] at rR
  have B0 := bA2 (w := w) (o := .cells #[.slice (some ⟨g, 0, none⟩) n ca, .slice B 16 cb] 83) (o' := .cells #[.slice none 0 0, .slice none 0 0] 83)
  obtain ⟨W, hW⟩ : ∃ W, (w.alloc (.cells #[.slice (some ⟨g, 0, none⟩) n ca, .slice B 16 cb] 83)).alloc (.cells #[.slice none 0 0, .slice none 0 0] 83) = W := ⟨_, rfl⟩
  rw [hW] at rS rR B0
  have oA1 := own_ext oA B0
  have oB1 := own_ext oB B0
  have hrW1 := hrW.ext B0
  have hc1 := (bcl B0 hbW _).trans hc0
  have hbW1 := Nat.lt_of_lt_of_le hbW B0.size
  have hWb := Nat.le_trans hbase B0.size
  obtain ⟨c0, c1, f0, f1⟩ := rS.two
  obtain ⟨d0, d1, k0, k1⟩ := rR.two
  clear hc0 hbW hrW oA oB hbase
  have Hn := Lib.hid hn; clear hn
  have Hok := Lib.hid hok; clear hok
  have Hm := Lib.hid hm; clear hm
  have Hln := Lib.hid hln; clear hln
  have OA1 := Lib.hid oA1; clear oA1
  have OB1 := Lib.hid oB1; clear oB1
  have hd1 := hrW1 1 _ (strs_get (ls := h :: t) (k := 1) (by have := Hm.out; simp; omega))
  have hd2 := hrW1 2 _ (strs_get (ls := h :: t) (k := 2) (by have := Hm.out; simp; omega))
  obtain ⟨_, _, e1, _, hd1⟩ := hd1
  cases e1
  obtain ⟨_, _, e1, _, hd2⟩ := hd2
  cases e1
  simp only [List.getD_cons_succ] at hd1 hd2
  have hy1 := Hln.out 0
  have hy2 := Hln.out 1
  obtain ⟨y1, hye1⟩ : ∃ y, t.getD 0 [] = y := ⟨_, rfl⟩
  obtain ⟨y2, hye2⟩ : ∃ y, t.getD 1 [] = y := ⟨_, rfl⟩
  rw [hye1] at hd1 hy1
  rw [hye2] at hd2 hy2
  rw [hye1, hye2]
  obtain ⟨P1, hP1⟩ : ∃ p, num7 y1 = p := ⟨_, rfl⟩
  obtain ⟨P2, hP2⟩ : ∃ p, num7 y2 = p := ⟨_, rfl⟩
  rw [hP1, hP2]
  have g1 : ∀ w', Below W.heap.size W w' → w'.cell? ⟨bW, oW + 1 * 1, none⟩ = some (.string ⟨y1.toArray⟩) := fun w' h => (h.cell (p := ⟨bW, oW + 1, none⟩) hbW1).trans hd1
  have g2 : ∀ w', Below W.heap.size W w' → w'.cell? ⟨bW, oW + 2 * 1, none⟩ = some (.string ⟨y2.toArray⟩) := fun w' h => (h.cell (p := ⟨bW, oW + 2, none⟩) hbW1).trans hd2
  have Hye1 := Lib.hid hye1; clear hye1
  have Hye2 := Lib.hid hye2; clear hye2
  have HP1 := Lib.hid hP1; clear hP1
  have HP2 := Lib.hid hP2; clear hP2
  clear hd1 hd2
  obtain ⟨r, hr⟩ : ∃ r, antR s (P1, P2) = r := ⟨_, rfl⟩
  rw [hr]
  have hres : antR s (P1, P2) = if addOk s.1 (P1, P2) then ((s.1 ++ [(P1, P2)], s.2), oOk) else (s, oNo) := rfl
  rw [hr] at hres
  have h7 := Hok.out.len
  have hrA := Rd.of_own OA1.out
  have Hr := Lib.hid hr
  clear hr
  cases had : addOk s.1 (P1, P2)
  · rw [had, if_neg (by decide)] at hres
    subst hres
    have Had := Lib.hid had; clear had
    go_enter Tryz.func59, Tryz.ntmps59
    go_wp2_with fail
    refine wp_region_N [] [] (by kernel_rfl) (by kernel_rfl) ?_
    refine wpStill_go (v := .pointer (some ⟨w.heap.size, 0, none⟩)) rfl rfl (stays_run fun w' h => by simp [go_sem]) ?_
    simp only [Act.put, List.setIfInBounds_toArray, List.set_cons_succ, List.set_cons_zero]
    refine wpStill_go (v := .slice (some ⟨g, 0, none⟩) n ca) rfl rfl (stays_run fun w' h => ex_load rfl rfl (ld_one (by kernel_rfl) ((rS.kept ‹_›).cell 0))) ?_
    simp only [Act.put, List.setIfInBounds_toArray, List.set_cons_succ, List.set_cons_zero]
    refine wpStill_go (v := .slice (some ⟨bW, oW, none⟩) 3 cw) rfl rfl (stays_run fun w' h => ex_move rfl rfl) ?_
    simp only [Act.put, List.setIfInBounds_toArray, List.set_cons_succ, List.set_cons_zero]
    refine wpStill_go (v := .pointer (some ⟨bW, oW + 1 * 1, none⟩)) rfl rfl (stays_run fun w' h => ex_index rfl (by kernel_rfl) (by kernel_rfl) rfl rfl ((by omega : 1 < 3))) ?_
    simp only [Act.put, List.setIfInBounds_toArray, List.set_cons_succ, List.set_cons_zero]
    refine wpStill_go (v := .string ⟨y1.toArray⟩) rfl rfl (stays_run fun w' h => ex_load rfl rfl (ld_one (by kernel_rfl) (g1 w' h))) ?_
    simp only [Act.put, List.setIfInBounds_toArray, List.set_cons_succ, List.set_cons_zero]
    refine wpStill_go (v := .int .i64 P1) rfl rfl (stays_call (f := 100) (args := #[.string ⟨y1.toArray⟩]) (fun w' h => by simp [go_sem]) (fun w' _ => (l41Number_any y1 w' (by omega)).mono fun _ _ h => ⟨by rw [h.1, HP1.out], h.2 ▸ Below.refl _ _⟩)) ?_
    simp only [Act.put, List.setIfInBounds_toArray, List.set_cons_succ, List.set_cons_zero]
    refine wpStill_go (v := .slice (some ⟨bW, oW, none⟩) 3 cw) rfl rfl (stays_run fun w' h => ex_move rfl rfl) ?_
    simp only [Act.put, List.setIfInBounds_toArray, List.set_cons_succ, List.set_cons_zero]
    refine wpStill_go (v := .pointer (some ⟨bW, oW + 2 * 1, none⟩)) rfl rfl (stays_run fun w' h => ex_index rfl (by kernel_rfl) (by kernel_rfl) rfl rfl ((by omega : 2 < 3))) ?_
    simp only [Act.put, List.setIfInBounds_toArray, List.set_cons_succ, List.set_cons_zero]
    refine wpStill_go (v := .string ⟨y2.toArray⟩) rfl rfl (stays_run fun w' h => ex_load rfl rfl (ld_one (by kernel_rfl) (g2 w' h))) ?_
    simp only [Act.put, List.setIfInBounds_toArray, List.set_cons_succ, List.set_cons_zero]
    refine wpStill_go (v := .int .i64 P2) rfl rfl (stays_call (f := 100) (args := #[.string ⟨y2.toArray⟩]) (fun w' h => by simp [go_sem]) (fun w' _ => (l41Number_any y2 w' (by omega)).mono fun _ _ h => ⟨by rw [h.1, HP2.out], h.2 ▸ Below.refl _ _⟩)) ?_
    simp only [Act.put, List.setIfInBounds_toArray, List.set_cons_succ, List.set_cons_zero]
    refine wpStill_go (v := .tuple #[.slice (some ⟨g, 0, none⟩) n ca, .bool false]) rfl rfl (stays_call (f := 99) (args := #[.slice (some ⟨g, 0, none⟩) n ca, .int .i64 P1, .int .i64 P2]) (fun w' h => by simp [go_sem]) (fun w' _ => l51Ant_no _ n ca s.1 (P1, P2) w' Hn.out (by have := Hn.out; omega) Had.out (hrA.ext ‹_›))) ?_
    simp only [Act.put, List.setIfInBounds_toArray, List.set_cons_succ, List.set_cons_zero]
    refine wpStill_go (v := .tuple #[.slice (some ⟨g, 0, none⟩) n ca, .bool false]) rfl rfl (stays_run fun w' h => by simp [go_sem]) ?_
    simp only [Act.put, List.setIfInBounds_toArray, List.set_cons_succ, List.set_cons_zero]
    refine wpStill_go (v := .slice (some ⟨g, 0, none⟩) n ca) rfl rfl (stays_run fun w' h => by simp [go_sem]) ?_
    simp only [Act.put, List.setIfInBounds_toArray, List.set_cons_succ, List.set_cons_zero]
    refine wpStill_go (v := .bool false) rfl rfl (stays_run fun w' h => by simp [go_sem]) ?_
    simp only [Act.put, List.setIfInBounds_toArray, List.set_cons_succ, List.set_cons_zero]
    refine wpStill_go (v := .slice (some ⟨g, 0, none⟩) n ca) rfl rfl (stays_run fun w' h => by simp [go_sem]) ?_
    simp only [Act.put, List.setIfInBounds_toArray, List.set_cons_succ, List.set_cons_zero]
    refine wpStill_go (v := .bool false) rfl rfl (stays_run fun w' h => by simp [go_sem]) ?_
    simp only [Act.put, List.setIfInBounds_toArray, List.set_cons_succ, List.set_cons_zero]
    refine wpStill_nil ?_
    repeat (refine wpMark_skip rfl ?_)
    refine wpMark_nil fun V h5 => ?_
    simp only [onlyN, Exit.then]
    have B5 : Below W.heap.size W V := (Below.refl _ W).drew.trans h5
    have BV := B0.trans (B5.mono B0.size)
    have rS := rS.kept B5
    have rR := rR.kept B5
    have OA5 := Lib.hid (own_ext OA1.out B5)
    have OB5 := Lib.hid (own_ext OB1.out B5)
    clear h5 g1 g2 c0 c1 d0 d1 f0 f1 k0 k1 hc1
    have LT := fun w' (h : Below V.heap.size V w') => ld_one (P := Tryz.prog) (t := 32) (by kernel_rfl) ((rS.kept h).cell 1)
    go_wp2_with fail
    refine wp_region_N [6, 7] [6, 7] (by kernel_rfl) (by kernel_rfl) ?_
    refine wpStill_go (v := .slice (some ⟨g, 0, none⟩) n ca) rfl rfl (stays_run fun w' h => ex_move rfl rfl) ?_
    simp only [Act.put, List.setIfInBounds_toArray, List.set_cons_succ, List.set_cons_zero]
    refine wpStill_go (v := .pointer (some ⟨w.heap.size, 1, none⟩)) rfl rfl (stays_run fun w' h => by simp [go_sem]) ?_
    simp only [Act.put, List.setIfInBounds_toArray, List.set_cons_succ, List.set_cons_zero]
    refine wpStill_go (v := .slice B 16 cb) rfl rfl (stays_run fun w' h => ex_load rfl rfl (LT w' h)) ?_
    simp only [Act.put, List.setIfInBounds_toArray, List.set_cons_succ, List.set_cons_zero]
    refine wpStill_go (v := .agg #[.slice (some ⟨g, 0, none⟩) n ca, .slice B 16 cb]) rfl rfl (stays_run fun w' h => by simp [go_sem]) ?_
    simp only [Act.put, List.setIfInBounds_toArray, List.set_cons_succ, List.set_cons_zero]
    refine wpStill_go (v := .bool false) rfl rfl (stays_run fun w' h => ex_move rfl rfl) ?_
    simp only [Act.put, List.setIfInBounds_toArray, List.set_cons_succ, List.set_cons_zero]
    refine wpStill_go (v := .string ⟨(oNo).toArray⟩) rfl rfl (stays_call (f := 101) (args := #[.bool false]) (fun w' h => by simp [go_sem]) (fun w' _ => l51Said_any false w')) ?_
    simp only [Act.put, List.setIfInBounds_toArray, List.set_cons_succ, List.set_cons_zero]
    refine wpStill_skip rfl ?_
    refine wpStill_skip rfl ?_
    refine wpStill_nil ?_
    repeat (refine wpMark_skip rfl ?_)
    refine wpMark_go rfl (fun m1 hm1 K hK => ?_)
    have E1 := (Below.refl V.heap.size V).drew.trans hm1
    have rR1 := rR.kept E1
    obtain ⟨q0, q1, q2, q3⟩ := rR1.two
    have oA1 := own_ext OA5.out E1
    have oB1 := own_ext OB5.out E1
    have nA := own_ne oA1 rR1 (by decide)
    have nB := own_ne oB1 rR1 (by decide)
    have BE1 := BV.trans (E1.mono BV.size)
    have oA2 := own_over (own_over oA1 (grown_set m1 (w.heap.size + 1) 0 (.slice (some ⟨g, 0, none⟩) n ca)) (fun jj hj e => by injection e with e; exact nA jj hj e.symm)) (grown_set _ (w.heap.size + 1) 1 (.slice B 16 cb)) (fun jj hj e => by injection e with e; exact nA jj hj e.symm)
    have oB2 := own_over (own_over oB1 (grown_set m1 (w.heap.size + 1) 0 (.slice (some ⟨g, 0, none⟩) n ca)) (fun jj hj e => by injection e with e; exact nB jj hj e.symm)) (grown_set _ (w.heap.size + 1) 1 (.slice B 16 cb)) (fun jj hj e => by injection e with e; exact nB jj hj e.symm)
    have rR2 := (rR1.set_ 0 (.slice (some ⟨g, 0, none⟩) n ca)).set_ 1 (.slice B 16 cb)
    simp only [List.set_cons_zero, List.set_cons_succ] at rR2
    have BE2 := (BE1.setCell (p := ⟨w.heap.size + 1, 0, none⟩) (by show w.heap.size ≤ w.heap.size + 1; omega) (.slice (some ⟨g, 0, none⟩) n ca)).setCell (p := ⟨w.heap.size + 1, 1, none⟩) (by show w.heap.size ≤ w.heap.size + 1; omega) (.slice B 16 cb)
    have OA2 := Lib.hid oA2
    have OB2 := Lib.hid oB2
    have RR2 := Lib.hid rR2
    have BF2 := Lib.hid BE2
    clear oA2 oB2 rR2 BE2 nA nB oA1 oB1 rR1 E1 BE1 hm1
    go_wp2_with fail
    refine hK _ _ (fun h => absurd h (by decide)) ?_
    clear hK
    refine wpMark_go rfl (fun m2 hm2 K hK => ?_)
    go_wp2_with fail
    refine hK _ _ (fun h => absurd h (by decide)) (wpMark_nil fun m3 hm3 => ?_)
    clear hK
    have hx := hm2.trans hm3
    have rR3 := RR2.out.kept hx
    have oA3 := own_ext OA2.out hx
    have oB3 := own_ext OB2.out hx
    have bb := BF2.out
    have BF3 := bb.trans (hx.mono bb.size)
    obtain ⟨q0, q1, q2, q3⟩ := rR3.two
    simp only [onlyN, Exit.then]
    clear LT hm2 hm3 hx
    have OA3 := Lib.hid oA3; clear oA3
    have OB3 := Lib.hid oB3; clear oB3
    go_wp2_with fail
    exact bodyPost_ret (v := .tuple #[.agg #[(.slice (some ⟨g, 0, none⟩) n ca), (.slice B 16 cb)], .string ⟨(oNo).toArray⟩]) (by simp [results, Tryz.results59, go_sem, q0, q1]) rfl ⟨BF3, _, _, _, _, _, rfl, Hn.out, OA3.out, OB3.out⟩
  · rw [had, if_pos rfl] at hres
    subst hres
    have Had := Lib.hid had; clear had
    go_enter Tryz.func59, Tryz.ntmps59
    go_wp2_with fail
    refine wp_region_T [10, 11, 12, 13, 14, 15] [] [true, true, true, true, true, true, true, true, true, true, false, false, false, false, false, false] 6 (Below W.heap.size W)
      (fun a' w' => ∃ g' c', a' = ⟨#[.agg #[.slice (some ⟨g, 0, none⟩) n ca, .slice B 16 cb], .slice (some ⟨bW, oW, none⟩) 3 cw, .pointer (some ⟨w.heap.size, 0, none⟩), undef, .pointer (some ⟨w.heap.size + 1, 0, none⟩), .string ⟨#[]⟩, .slice (some ⟨g', 0, none⟩) (n + 1) c', .bool true, undef, undef, .slice (some ⟨bW, oW, none⟩) 3 cw, .pointer (some ⟨bW, oW, none⟩), .string ⟨#[97, 110, 116]⟩, .bool true, .bool true, .slice (some ⟨bW, oW, none⟩) 3 cw, .int .i64 3, .bool true, .bool true, .tuple #[.slice (some ⟨g', 0, none⟩) (n + 1) c', .bool true], .pointer (some ⟨w.heap.size, 0, none⟩), .slice (some ⟨g, 0, none⟩) n ca, .slice (some ⟨bW, oW, none⟩) 3 cw, .pointer (some ⟨bW, oW + 1 * 1, none⟩), .string ⟨y1.toArray⟩, .int .i64 P1, .slice (some ⟨bW, oW, none⟩) 3 cw, .pointer (some ⟨bW, oW + 2 * 1, none⟩), .string ⟨y2.toArray⟩, .int .i64 P2, .tuple #[.slice (some ⟨g', 0, none⟩) (n + 1) c', .bool true], .slice (some ⟨g', 0, none⟩) (n + 1) c', .bool true, undef, undef, undef, undef, undef, undef, undef, undef, undef, undef, undef, undef, undef, undef, undef, undef, undef, undef, undef, undef, undef, undef, undef, undef, undef, undef, undef, undef, undef, undef, undef, undef, undef, undef, undef, undef, undef, undef, undef, undef, undef, undef, undef, undef, undef, undef], []⟩ ∧ w'.ownsRow W.heap.size 50 2 (.slice (some ⟨g', 0, none⟩) (n + 1) c') (n + 1) ((s.1 ++ [(P1, P2)]).flatMap pairCells) ∧ Below W.heap.size W w')
      (by kernel_rfl) (by kernel_rfl) (fun _ _ h h' => h.trans (h'.mono h.size)) (Below.refl _ _).drew ?next ?walk
    case walk =>
      refine wpStill_go (v := .pointer (some ⟨w.heap.size, 0, none⟩)) rfl rfl (stays_run fun w' h => by simp [go_sem]) ?_
      simp only [Act.put, List.setIfInBounds_toArray, List.set_cons_succ, List.set_cons_zero]
      refine wpStill_go (v := .slice (some ⟨g, 0, none⟩) n ca) rfl rfl (stays_run fun w' h => ex_load rfl rfl (ld_one (by kernel_rfl) ((rS.kept ‹_›).cell 0))) ?_
      simp only [Act.put, List.setIfInBounds_toArray, List.set_cons_succ, List.set_cons_zero]
      refine wpStill_go (v := .slice (some ⟨bW, oW, none⟩) 3 cw) rfl rfl (stays_run fun w' h => ex_move rfl rfl) ?_
      simp only [Act.put, List.setIfInBounds_toArray, List.set_cons_succ, List.set_cons_zero]
      refine wpStill_go (v := .pointer (some ⟨bW, oW + 1 * 1, none⟩)) rfl rfl (stays_run fun w' h => ex_index rfl (by kernel_rfl) (by kernel_rfl) rfl rfl ((by omega : 1 < 3))) ?_
      simp only [Act.put, List.setIfInBounds_toArray, List.set_cons_succ, List.set_cons_zero]
      refine wpStill_go (v := .string ⟨y1.toArray⟩) rfl rfl (stays_run fun w' h => ex_load rfl rfl (ld_one (by kernel_rfl) (g1 w' h))) ?_
      simp only [Act.put, List.setIfInBounds_toArray, List.set_cons_succ, List.set_cons_zero]
      refine wpStill_go (v := .int .i64 P1) rfl rfl (stays_call (f := 100) (args := #[.string ⟨y1.toArray⟩]) (fun w' h => by simp [go_sem]) (fun w' _ => (l41Number_any y1 w' (by omega)).mono fun _ _ h => ⟨by rw [h.1, HP1.out], h.2 ▸ Below.refl _ _⟩)) ?_
      simp only [Act.put, List.setIfInBounds_toArray, List.set_cons_succ, List.set_cons_zero]
      refine wpStill_go (v := .slice (some ⟨bW, oW, none⟩) 3 cw) rfl rfl (stays_run fun w' h => ex_move rfl rfl) ?_
      simp only [Act.put, List.setIfInBounds_toArray, List.set_cons_succ, List.set_cons_zero]
      refine wpStill_go (v := .pointer (some ⟨bW, oW + 2 * 1, none⟩)) rfl rfl (stays_run fun w' h => ex_index rfl (by kernel_rfl) (by kernel_rfl) rfl rfl ((by omega : 2 < 3))) ?_
      simp only [Act.put, List.setIfInBounds_toArray, List.set_cons_succ, List.set_cons_zero]
      refine wpStill_go (v := .string ⟨y2.toArray⟩) rfl rfl (stays_run fun w' h => ex_load rfl rfl (ld_one (by kernel_rfl) (g2 w' h))) ?_
      simp only [Act.put, List.setIfInBounds_toArray, List.set_cons_succ, List.set_cons_zero]
      refine wpStill_go (v := .int .i64 P2) rfl rfl (stays_call (f := 100) (args := #[.string ⟨y2.toArray⟩]) (fun w' h => by simp [go_sem]) (fun w' _ => (l41Number_any y2 w' (by omega)).mono fun _ _ h => ⟨by rw [h.1, HP2.out], h.2 ▸ Below.refl _ _⟩)) ?_
      simp only [Act.put, List.setIfInBounds_toArray, List.set_cons_succ, List.set_cons_zero]
      refine wpStill_skip rfl (wpStill_skip rfl (wpStill_skip rfl (wpStill_skip rfl (wpStill_skip rfl (wpStill_skip rfl (wpStill_nil ?_))))))
      have F : Below W.heap.size W W.drew := (Below.refl _ _).drew
      refine wpTree_one (i := 10) (by kernel_rfl) rfl rfl (fun m1 hm1 K hK => ?_)
      have F := F.trans (hm1.mono F.size)
      go_wp2_with fail
      refine (l51Ant_yes g n ca s.1 (P1, P2) m1 Hn.out (by have := Hn.out; omega) Had.out (hrA.ext F)).mono ?_
      rintro e n1 ⟨g', c', rfl, oN, bN⟩
      have oN := oN.mono F.size
      have F := F.trans (bN.mono F.size)
      have ON := Lib.hid oN
      clear oN bN
      go_wp2_with fail
      refine hK _ _ (fun _ => F) ?_
      clear hK
      refine wpTree_one (i := 11) (by kernel_rfl) rfl rfl (fun m2 hm2 K hK => ?_)
      have F := F.trans (hm2.mono F.size)
      have ON := Lib.hid (own_ext ON.out hm2)
      go_wp2_with fail
      refine hK _ _ (fun _ => F) ?_
      clear hK
      refine wpTree_two (i := 12) (j := 13) (by kernel_rfl) rfl rfl rfl rfl (fun m3 hm3 K hK => ?_) (fun m3 hm3 K hK => ?_)
      {
      have F := F.trans (hm3.mono F.size)
      have ON := Lib.hid (own_ext ON.out hm3)
      go_wp2_with fail
      refine hK _ _ (fun _ => F) ?_
      clear hK
      refine wpTree_two (i := 13) (j := 14) (by kernel_rfl) rfl rfl rfl rfl (fun m4 hm4 K hK => ?_) (fun m4 hm4 K hK => ?_)
      {
      have F := F.trans (hm4.mono F.size)
      have ON := Lib.hid (own_ext ON.out hm4)
      go_wp2_with fail
      refine hK _ _ (fun _ => F) ?_
      clear hK
      refine wpTree_one (i := 14) (by kernel_rfl) rfl rfl (fun m5 hm5 K hK => ?_)
      have F := F.trans (hm5.mono F.size)
      have ON := Lib.hid (own_ext ON.out hm5)
      go_wp2_with fail
      refine hK _ _ (fun _ => F) ?_
      clear hK
      refine wpTree_one (i := 15) (by kernel_rfl) rfl rfl (fun m6 hm6 K hK => ?_)
      have F := F.trans (hm6.mono F.size)
      have ON := Lib.hid (own_ext ON.out hm6)
      go_wp2_with fail
      refine hK _ _ (fun _ => F) (wpTree_nil (by kernel_rfl) fun me hme => ?_)
      exact ⟨g', c', rfl, own_ext ON.out hme, F.trans (hme.mono F.size)⟩
      }
      {
      have F := F.trans (hm4.mono F.size)
      have ON := Lib.hid (own_ext ON.out hm4)
      go_wp2_with fail
      refine hK _ _ (fun _ => F) ?_
      clear hK
      refine wpTree_one (i := 13) (by kernel_rfl) rfl rfl (fun m5 hm5 K hK => ?_)
      have F := F.trans (hm5.mono F.size)
      have ON := Lib.hid (own_ext ON.out hm5)
      go_wp2_with fail
      refine hK _ _ (fun _ => F) ?_
      clear hK
      refine wpTree_one (i := 15) (by kernel_rfl) rfl rfl (fun m6 hm6 K hK => ?_)
      have F := F.trans (hm6.mono F.size)
      have ON := Lib.hid (own_ext ON.out hm6)
      go_wp2_with fail
      refine hK _ _ (fun _ => F) (wpTree_nil (by kernel_rfl) fun me hme => ?_)
      exact ⟨g', c', rfl, own_ext ON.out hme, F.trans (hme.mono F.size)⟩
      }
      }
      {
      have F := F.trans (hm3.mono F.size)
      have ON := Lib.hid (own_ext ON.out hm3)
      go_wp2_with fail
      refine hK _ _ (fun _ => F) ?_
      clear hK
      refine wpTree_one (i := 12) (by kernel_rfl) rfl rfl (fun m4 hm4 K hK => ?_)
      have F := F.trans (hm4.mono F.size)
      have ON := Lib.hid (own_ext ON.out hm4)
      go_wp2_with fail
      refine hK _ _ (fun _ => F) ?_
      clear hK
      refine wpTree_one (i := 14) (by kernel_rfl) rfl rfl (fun m5 hm5 K hK => ?_)
      have F := F.trans (hm5.mono F.size)
      have ON := Lib.hid (own_ext ON.out hm5)
      go_wp2_with fail
      refine hK _ _ (fun _ => F) ?_
      clear hK
      refine wpTree_one (i := 15) (by kernel_rfl) rfl rfl (fun m6 hm6 K hK => ?_)
      have F := F.trans (hm6.mono F.size)
      have ON := Lib.hid (own_ext ON.out hm6)
      go_wp2_with fail
      refine hK _ _ (fun _ => F) (wpTree_nil (by kernel_rfl) fun me hme => ?_)
      exact ⟨g', c', rfl, own_ext ON.out hme, F.trans (hme.mono F.size)⟩
      }
    case next =>
      rintro a' V ⟨g', c', rfl, oN, B5⟩
      simp only [Exit.then]
      have BV := B0.trans (B5.mono B0.size)
      have rS := rS.kept B5
      have rR := rR.kept B5
      have OA5 := Lib.hid (oN.mono hWb)
      have OB5 := Lib.hid (own_ext OB1.out B5)
      clear g1 g2 c0 c1 d0 d1 f0 f1 k0 k1 hc1 oN
      have LT := fun w' (h : Below V.heap.size V w') => ld_one (P := Tryz.prog) (t := 32) (by kernel_rfl) ((rS.kept h).cell 1)
      go_wp2_with fail
      refine wp_region_N [6, 7] [6, 7] (by kernel_rfl) (by kernel_rfl) ?_
      refine wpStill_go (v := .slice (some ⟨g', 0, none⟩) (n + 1) c') rfl rfl (stays_run fun w' h => ex_move rfl rfl) ?_
      simp only [Act.put, List.setIfInBounds_toArray, List.set_cons_succ, List.set_cons_zero]
      refine wpStill_go (v := .pointer (some ⟨w.heap.size, 1, none⟩)) rfl rfl (stays_run fun w' h => by simp [go_sem]) ?_
      simp only [Act.put, List.setIfInBounds_toArray, List.set_cons_succ, List.set_cons_zero]
      refine wpStill_go (v := .slice B 16 cb) rfl rfl (stays_run fun w' h => ex_load rfl rfl (LT w' h)) ?_
      simp only [Act.put, List.setIfInBounds_toArray, List.set_cons_succ, List.set_cons_zero]
      refine wpStill_go (v := .agg #[.slice (some ⟨g', 0, none⟩) (n + 1) c', .slice B 16 cb]) rfl rfl (stays_run fun w' h => by simp [go_sem]) ?_
      simp only [Act.put, List.setIfInBounds_toArray, List.set_cons_succ, List.set_cons_zero]
      refine wpStill_go (v := .bool true) rfl rfl (stays_run fun w' h => ex_move rfl rfl) ?_
      simp only [Act.put, List.setIfInBounds_toArray, List.set_cons_succ, List.set_cons_zero]
      refine wpStill_go (v := .string ⟨(oOk).toArray⟩) rfl rfl (stays_call (f := 101) (args := #[.bool true]) (fun w' h => by simp [go_sem]) (fun w' _ => l51Said_any true w')) ?_
      simp only [Act.put, List.setIfInBounds_toArray, List.set_cons_succ, List.set_cons_zero]
      refine wpStill_skip rfl ?_
      refine wpStill_skip rfl ?_
      refine wpStill_nil ?_
      repeat (refine wpMark_skip rfl ?_)
      refine wpMark_go rfl (fun m1 hm1 K hK => ?_)
      have E1 := (Below.refl V.heap.size V).drew.trans hm1
      have rR1 := rR.kept E1
      obtain ⟨q0, q1, q2, q3⟩ := rR1.two
      have oA1 := own_ext OA5.out E1
      have oB1 := own_ext OB5.out E1
      have nA := own_ne oA1 rR1 (by decide)
      have nB := own_ne oB1 rR1 (by decide)
      have BE1 := BV.trans (E1.mono BV.size)
      have oA2 := own_over (own_over oA1 (grown_set m1 (w.heap.size + 1) 0 (.slice (some ⟨g', 0, none⟩) (n + 1) c')) (fun jj hj e => by injection e with e; exact nA jj hj e.symm)) (grown_set _ (w.heap.size + 1) 1 (.slice B 16 cb)) (fun jj hj e => by injection e with e; exact nA jj hj e.symm)
      have oB2 := own_over (own_over oB1 (grown_set m1 (w.heap.size + 1) 0 (.slice (some ⟨g', 0, none⟩) (n + 1) c')) (fun jj hj e => by injection e with e; exact nB jj hj e.symm)) (grown_set _ (w.heap.size + 1) 1 (.slice B 16 cb)) (fun jj hj e => by injection e with e; exact nB jj hj e.symm)
      have rR2 := (rR1.set_ 0 (.slice (some ⟨g', 0, none⟩) (n + 1) c')).set_ 1 (.slice B 16 cb)
      simp only [List.set_cons_zero, List.set_cons_succ] at rR2
      have BE2 := (BE1.setCell (p := ⟨w.heap.size + 1, 0, none⟩) (by show w.heap.size ≤ w.heap.size + 1; omega) (.slice (some ⟨g', 0, none⟩) (n + 1) c')).setCell (p := ⟨w.heap.size + 1, 1, none⟩) (by show w.heap.size ≤ w.heap.size + 1; omega) (.slice B 16 cb)
      have OA2 := Lib.hid oA2
      have OB2 := Lib.hid oB2
      have RR2 := Lib.hid rR2
      have BF2 := Lib.hid BE2
      clear oA2 oB2 rR2 BE2 nA nB oA1 oB1 rR1 E1 BE1 hm1
      go_wp2_with fail
      refine hK _ _ (fun h => absurd h (by decide)) ?_
      clear hK
      refine wpMark_go rfl (fun m2 hm2 K hK => ?_)
      go_wp2_with fail
      refine hK _ _ (fun h => absurd h (by decide)) (wpMark_nil fun m3 hm3 => ?_)
      clear hK
      have hx := hm2.trans hm3
      have rR3 := RR2.out.kept hx
      have oA3 := own_ext OA2.out hx
      have oB3 := own_ext OB2.out hx
      have bb := BF2.out
      have BF3 := bb.trans (hx.mono bb.size)
      obtain ⟨q0, q1, q2, q3⟩ := rR3.two
      simp only [onlyN, Exit.then]
      clear LT hm2 hm3 hx
      have OA3 := Lib.hid oA3; clear oA3
      have OB3 := Lib.hid oB3; clear oB3
      go_wp2_with fail
      exact bodyPost_ret (v := .tuple #[.agg #[(.slice (some ⟨g', 0, none⟩) (n + 1) c'), (.slice B 16 cb)], .string ⟨(oOk).toArray⟩]) (by simp [results, Tryz.results59, go_sem, q0, q1]) rfl ⟨BF3, _, _, _, _, _, rfl, (by rw [List.length_append, Hn.out]; rfl), OA3.out, OB3.out⟩

set_option maxRecDepth 100000 in
set_option maxHeartbeats 2000000 in
theorem l51Line_cell (base g : Nat) (B Wd : Option Addr) (n ca cb nw cw m : Nat) (h : Word) (t : List Word) (s : St) (w : World) (hh : h = wCell) (hmm : m = 3) (hm : t.length = m) (hnw : nw = m + 1) (hb : m ≤ 1000) (hln : ∀ i, (t.getD i []).length ≤ 1000) (hn : s.1.length = n) (hok : StOk s) (hbase : base ≤ w.heap.size) (oA : w.ownsRow base 50 2 (.slice (some ⟨g, 0, none⟩) n ca) n (s.1.flatMap pairCells)) (oB : w.ownsRow base 3 1 (.slice B 16 cb) 16 (s.2.map (Value.int .i64))) (hrW : Rd w w.heap.size Wd (strs (h :: t))) :
    Calls Tryz.prog 59 #[.agg #[.slice (some ⟨g, 0, none⟩) n ca, .slice B 16 cb], .slice Wd nw cw] w fun e w' => LineTo base (cellR s (num7 (t.getD 0 [])) (num7 (t.getD 1 [])) (num7 (t.getD 2 []))) w e w' := by
  have pa : (h == [97, 110, 116]) = false := by rw [hh]; decide
  have pc : (h == [99, 101, 108, 108]) = true := by rw [hh]; decide
  obtain rfl : nw = 4 := by omega
  subst hmm
  clear hnw
  have hl3 : 0 < 4 := by omega
  obtain ⟨bW, oW, rfl, hbW, hc0⟩ := hrW 0 _ (strs_get (ls := h :: t) (k := 0) (by simp))
  simp only [List.getD_cons_zero, Nat.add_zero] at hc0
  have rS := (Row.new w 83 [.slice (some ⟨g, 0, none⟩) n ca, .slice B 16 cb]).alloc (.cells #[.slice none 0 0, .slice none 0 0] 83)
  have rR := Row.new (w.alloc (.cells #[.slice (some ⟨g, 0, none⟩) n ca, .slice B 16 cb] 83)) 83 [.slice none 0 0, .slice none 0 0]
  rw [World.size_alloc] at rR
  have B0 := bA2 (w := w) (o := .cells #[.slice (some ⟨g, 0, none⟩) n ca, .slice B 16 cb] 83) (o' := .cells #[.slice none 0 0, .slice none 0 0] 83)
  obtain ⟨W, hW⟩ : ∃ W, (w.alloc (.cells #[.slice (some ⟨g, 0, none⟩) n ca, .slice B 16 cb] 83)).alloc (.cells #[.slice none 0 0, .slice none 0 0] 83) = W := ⟨_, rfl⟩
  rw [hW] at rS rR B0
  have oA1 := own_ext oA B0
  have oB1 := own_ext oB B0
  have hrW1 := hrW.ext B0
  have hc1 := (bcl B0 hbW _).trans hc0
  have hbW1 := Nat.lt_of_lt_of_le hbW B0.size
  have hWb := Nat.le_trans hbase B0.size
  obtain ⟨c0, c1, f0, f1⟩ := rS.two
  obtain ⟨d0, d1, k0, k1⟩ := rR.two
  clear hc0 hbW hrW oA oB hbase
  have Hn := Lib.hid hn; clear hn
  have Hok := Lib.hid hok; clear hok
  have Hm := Lib.hid hm; clear hm
  have Hln := Lib.hid hln; clear hln
  have OA1 := Lib.hid oA1; clear oA1
  have OB1 := Lib.hid oB1; clear oB1
  have hd1 := hrW1 1 _ (strs_get (ls := h :: t) (k := 1) (by have := Hm.out; simp; omega))
  have hd2 := hrW1 2 _ (strs_get (ls := h :: t) (k := 2) (by have := Hm.out; simp; omega))
  have hd3 := hrW1 3 _ (strs_get (ls := h :: t) (k := 3) (by have := Hm.out; simp; omega))
  obtain ⟨_, _, e1, _, hd1⟩ := hd1
  cases e1
  obtain ⟨_, _, e1, _, hd2⟩ := hd2
  cases e1
  obtain ⟨_, _, e1, _, hd3⟩ := hd3
  cases e1
  simp only [List.getD_cons_succ] at hd1 hd2 hd3
  have hy1 := Hln.out 0
  have hy2 := Hln.out 1
  have hy3 := Hln.out 2
  obtain ⟨y1, hye1⟩ : ∃ y, t.getD 0 [] = y := ⟨_, rfl⟩
  obtain ⟨y2, hye2⟩ : ∃ y, t.getD 1 [] = y := ⟨_, rfl⟩
  obtain ⟨y3, hye3⟩ : ∃ y, t.getD 2 [] = y := ⟨_, rfl⟩
  rw [hye1] at hd1 hy1
  rw [hye2] at hd2 hy2
  rw [hye3] at hd3 hy3
  rw [hye1, hye2, hye3]
  obtain ⟨P1, hP1⟩ : ∃ p, num7 y1 = p := ⟨_, rfl⟩
  obtain ⟨P2, hP2⟩ : ∃ p, num7 y2 = p := ⟨_, rfl⟩
  obtain ⟨P3, hP3⟩ : ∃ p, num7 y3 = p := ⟨_, rfl⟩
  rw [hP1, hP2, hP3]
  have g1 : ∀ w', Below W.heap.size W w' → w'.cell? ⟨bW, oW + 1 * 1, none⟩ = some (.string ⟨y1.toArray⟩) := fun w' h => (h.cell (p := ⟨bW, oW + 1, none⟩) hbW1).trans hd1
  have g2 : ∀ w', Below W.heap.size W w' → w'.cell? ⟨bW, oW + 2 * 1, none⟩ = some (.string ⟨y2.toArray⟩) := fun w' h => (h.cell (p := ⟨bW, oW + 2, none⟩) hbW1).trans hd2
  have g3 : ∀ w', Below W.heap.size W w' → w'.cell? ⟨bW, oW + 3 * 1, none⟩ = some (.string ⟨y3.toArray⟩) := fun w' h => (h.cell (p := ⟨bW, oW + 3, none⟩) hbW1).trans hd3
  have Hye1 := Lib.hid hye1; clear hye1
  have Hye2 := Lib.hid hye2; clear hye2
  have Hye3 := Lib.hid hye3; clear hye3
  have HP1 := Lib.hid hP1; clear hP1
  have HP2 := Lib.hid hP2; clear hP2
  have HP3 := Lib.hid hP3; clear hP3
  clear hd1 hd2 hd3
  obtain ⟨r, hr⟩ : ∃ r, cellR s P1 P2 P3 = r := ⟨_, rfl⟩
  rw [hr]
  have hres : cellR s P1 P2 P3 = if cellOk P1 P2 P3 then ((s.1, s.2.set (4 * P2 + P1).toNat P3), oOk) else (s, oNo) := rfl
  rw [hr] at hres
  have hl16 := skyV_len Hok.out.sky
  have hrB := Rd.of_own OB1.out
  have Hr := Lib.hid hr
  have Hl16 := Lib.hid hl16
  clear hr hl16
  cases had : cellOk P1 P2 P3
  · rw [had, if_neg (by decide)] at hres
    subst hres
    have Had := Lib.hid had; clear had
    go_enter Tryz.func59, Tryz.ntmps59
    go_wp2_with fail
    refine wp_region_N [] [] (by kernel_rfl) (by kernel_rfl) ?_
    refine wpStill_go (v := .pointer (some ⟨w.heap.size, 1, none⟩)) rfl rfl (stays_run fun w' h => by simp [go_sem]) ?_
    simp only [Act.put, List.setIfInBounds_toArray, List.set_cons_succ, List.set_cons_zero]
    refine wpStill_go (v := .slice B 16 cb) rfl rfl (stays_run fun w' h => ex_load rfl rfl (ld_one (by kernel_rfl) ((rS.kept ‹_›).cell 1))) ?_
    simp only [Act.put, List.setIfInBounds_toArray, List.set_cons_succ, List.set_cons_zero]
    refine wpStill_go (v := .slice (some ⟨bW, oW, none⟩) 4 cw) rfl rfl (stays_run fun w' h => ex_move rfl rfl) ?_
    simp only [Act.put, List.setIfInBounds_toArray, List.set_cons_succ, List.set_cons_zero]
    refine wpStill_go (v := .pointer (some ⟨bW, oW + 1 * 1, none⟩)) rfl rfl (stays_run fun w' h => ex_index rfl (by kernel_rfl) (by kernel_rfl) rfl rfl ((by omega : 1 < 4))) ?_
    simp only [Act.put, List.setIfInBounds_toArray, List.set_cons_succ, List.set_cons_zero]
    refine wpStill_go (v := .string ⟨y1.toArray⟩) rfl rfl (stays_run fun w' h => ex_load rfl rfl (ld_one (by kernel_rfl) (g1 w' h))) ?_
    simp only [Act.put, List.setIfInBounds_toArray, List.set_cons_succ, List.set_cons_zero]
    refine wpStill_go (v := .int .i64 P1) rfl rfl (stays_call (f := 100) (args := #[.string ⟨y1.toArray⟩]) (fun w' h => by simp [go_sem]) (fun w' _ => (l41Number_any y1 w' (by omega)).mono fun _ _ h => ⟨by rw [h.1, HP1.out], h.2 ▸ Below.refl _ _⟩)) ?_
    simp only [Act.put, List.setIfInBounds_toArray, List.set_cons_succ, List.set_cons_zero]
    refine wpStill_go (v := .slice (some ⟨bW, oW, none⟩) 4 cw) rfl rfl (stays_run fun w' h => ex_move rfl rfl) ?_
    simp only [Act.put, List.setIfInBounds_toArray, List.set_cons_succ, List.set_cons_zero]
    refine wpStill_go (v := .pointer (some ⟨bW, oW + 2 * 1, none⟩)) rfl rfl (stays_run fun w' h => ex_index rfl (by kernel_rfl) (by kernel_rfl) rfl rfl ((by omega : 2 < 4))) ?_
    simp only [Act.put, List.setIfInBounds_toArray, List.set_cons_succ, List.set_cons_zero]
    refine wpStill_go (v := .string ⟨y2.toArray⟩) rfl rfl (stays_run fun w' h => ex_load rfl rfl (ld_one (by kernel_rfl) (g2 w' h))) ?_
    simp only [Act.put, List.setIfInBounds_toArray, List.set_cons_succ, List.set_cons_zero]
    refine wpStill_go (v := .int .i64 P2) rfl rfl (stays_call (f := 100) (args := #[.string ⟨y2.toArray⟩]) (fun w' h => by simp [go_sem]) (fun w' _ => (l41Number_any y2 w' (by omega)).mono fun _ _ h => ⟨by rw [h.1, HP2.out], h.2 ▸ Below.refl _ _⟩)) ?_
    simp only [Act.put, List.setIfInBounds_toArray, List.set_cons_succ, List.set_cons_zero]
    refine wpStill_go (v := .slice (some ⟨bW, oW, none⟩) 4 cw) rfl rfl (stays_run fun w' h => ex_move rfl rfl) ?_
    simp only [Act.put, List.setIfInBounds_toArray, List.set_cons_succ, List.set_cons_zero]
    refine wpStill_go (v := .pointer (some ⟨bW, oW + 3 * 1, none⟩)) rfl rfl (stays_run fun w' h => ex_index rfl (by kernel_rfl) (by kernel_rfl) rfl rfl ((by omega : 3 < 4))) ?_
    simp only [Act.put, List.setIfInBounds_toArray, List.set_cons_succ, List.set_cons_zero]
    refine wpStill_go (v := .string ⟨y3.toArray⟩) rfl rfl (stays_run fun w' h => ex_load rfl rfl (ld_one (by kernel_rfl) (g3 w' h))) ?_
    simp only [Act.put, List.setIfInBounds_toArray, List.set_cons_succ, List.set_cons_zero]
    refine wpStill_go (v := .int .i64 P3) rfl rfl (stays_call (f := 100) (args := #[.string ⟨y3.toArray⟩]) (fun w' h => by simp [go_sem]) (fun w' _ => (l41Number_any y3 w' (by omega)).mono fun _ _ h => ⟨by rw [h.1, HP3.out], h.2 ▸ Below.refl _ _⟩)) ?_
    simp only [Act.put, List.setIfInBounds_toArray, List.set_cons_succ, List.set_cons_zero]
    refine wpStill_go (v := .tuple #[.slice B 16 cb, .bool false]) rfl rfl (stays_call (f := 102) (args := #[.slice B 16 cb, .int .i64 P1, .int .i64 P2, .int .i64 P3]) (fun w' h => by simp [go_sem]) (fun w' _ => l51Cell_no B 16 cb P1 P2 P3 w' Had.out)) ?_
    simp only [Act.put, List.setIfInBounds_toArray, List.set_cons_succ, List.set_cons_zero]
    refine wpStill_go (v := .tuple #[.slice B 16 cb, .bool false]) rfl rfl (stays_run fun w' h => by simp [go_sem]) ?_
    simp only [Act.put, List.setIfInBounds_toArray, List.set_cons_succ, List.set_cons_zero]
    refine wpStill_go (v := .slice B 16 cb) rfl rfl (stays_run fun w' h => by simp [go_sem]) ?_
    simp only [Act.put, List.setIfInBounds_toArray, List.set_cons_succ, List.set_cons_zero]
    refine wpStill_go (v := .bool false) rfl rfl (stays_run fun w' h => by simp [go_sem]) ?_
    simp only [Act.put, List.setIfInBounds_toArray, List.set_cons_succ, List.set_cons_zero]
    refine wpStill_go (v := .slice B 16 cb) rfl rfl (stays_run fun w' h => by simp [go_sem]) ?_
    simp only [Act.put, List.setIfInBounds_toArray, List.set_cons_succ, List.set_cons_zero]
    refine wpStill_go (v := .bool false) rfl rfl (stays_run fun w' h => by simp [go_sem]) ?_
    simp only [Act.put, List.setIfInBounds_toArray, List.set_cons_succ, List.set_cons_zero]
    refine wpStill_nil ?_
    repeat (refine wpMark_skip rfl ?_)
    refine wpMark_nil fun V h5 => ?_
    simp only [onlyN, Exit.then]
    have B5 : Below W.heap.size W V := (Below.refl _ W).drew.trans h5
    have BV := B0.trans (B5.mono B0.size)
    have rS := rS.kept B5
    have rR := rR.kept B5
    have OA5 := Lib.hid (own_ext OA1.out B5)
    have OB5 := Lib.hid (own_ext OB1.out B5)
    clear h5 g1 g2 g3 c0 c1 d0 d1 f0 f1 k0 k1 hc1
    have LT := fun w' (h : Below V.heap.size V w') => ld_one (P := Tryz.prog) (t := 26) (by kernel_rfl) ((rS.kept h).cell 0)
    go_wp2_with fail
    refine wp_region_N [6, 7] [6, 7] (by kernel_rfl) (by kernel_rfl) ?_
    refine wpStill_go (v := .pointer (some ⟨w.heap.size, 0, none⟩)) rfl rfl (stays_run fun w' h => by simp [go_sem]) ?_
    simp only [Act.put, List.setIfInBounds_toArray, List.set_cons_succ, List.set_cons_zero]
    refine wpStill_go (v := .slice (some ⟨g, 0, none⟩) n ca) rfl rfl (stays_run fun w' h => ex_load rfl rfl (LT w' h)) ?_
    simp only [Act.put, List.setIfInBounds_toArray, List.set_cons_succ, List.set_cons_zero]
    refine wpStill_go (v := .slice B 16 cb) rfl rfl (stays_run fun w' h => ex_move rfl rfl) ?_
    simp only [Act.put, List.setIfInBounds_toArray, List.set_cons_succ, List.set_cons_zero]
    refine wpStill_go (v := .agg #[.slice (some ⟨g, 0, none⟩) n ca, .slice B 16 cb]) rfl rfl (stays_run fun w' h => by simp [go_sem]) ?_
    simp only [Act.put, List.setIfInBounds_toArray, List.set_cons_succ, List.set_cons_zero]
    refine wpStill_go (v := .bool false) rfl rfl (stays_run fun w' h => ex_move rfl rfl) ?_
    simp only [Act.put, List.setIfInBounds_toArray, List.set_cons_succ, List.set_cons_zero]
    refine wpStill_go (v := .string ⟨(oNo).toArray⟩) rfl rfl (stays_call (f := 101) (args := #[.bool false]) (fun w' h => by simp [go_sem]) (fun w' _ => l51Said_any false w')) ?_
    simp only [Act.put, List.setIfInBounds_toArray, List.set_cons_succ, List.set_cons_zero]
    refine wpStill_skip rfl ?_
    refine wpStill_skip rfl ?_
    refine wpStill_nil ?_
    repeat (refine wpMark_skip rfl ?_)
    refine wpMark_go rfl (fun m1 hm1 K hK => ?_)
    have E1 := (Below.refl V.heap.size V).drew.trans hm1
    have rR1 := rR.kept E1
    obtain ⟨q0, q1, q2, q3⟩ := rR1.two
    have oA1 := own_ext OA5.out E1
    have oB1 := own_ext OB5.out E1
    have nA := own_ne oA1 rR1 (by decide)
    have nB := own_ne oB1 rR1 (by decide)
    have BE1 := BV.trans (E1.mono BV.size)
    have oA2 := own_over (own_over oA1 (grown_set m1 (w.heap.size + 1) 0 (.slice (some ⟨g, 0, none⟩) n ca)) (fun jj hj e => by injection e with e; exact nA jj hj e.symm)) (grown_set _ (w.heap.size + 1) 1 (.slice B 16 cb)) (fun jj hj e => by injection e with e; exact nA jj hj e.symm)
    have oB2 := own_over (own_over oB1 (grown_set m1 (w.heap.size + 1) 0 (.slice (some ⟨g, 0, none⟩) n ca)) (fun jj hj e => by injection e with e; exact nB jj hj e.symm)) (grown_set _ (w.heap.size + 1) 1 (.slice B 16 cb)) (fun jj hj e => by injection e with e; exact nB jj hj e.symm)
    have rR2 := (rR1.set_ 0 (.slice (some ⟨g, 0, none⟩) n ca)).set_ 1 (.slice B 16 cb)
    simp only [List.set_cons_zero, List.set_cons_succ] at rR2
    have BE2 := (BE1.setCell (p := ⟨w.heap.size + 1, 0, none⟩) (by show w.heap.size ≤ w.heap.size + 1; omega) (.slice (some ⟨g, 0, none⟩) n ca)).setCell (p := ⟨w.heap.size + 1, 1, none⟩) (by show w.heap.size ≤ w.heap.size + 1; omega) (.slice B 16 cb)
    have OA2 := Lib.hid oA2
    have OB2 := Lib.hid oB2
    have RR2 := Lib.hid rR2
    have BF2 := Lib.hid BE2
    clear oA2 oB2 rR2 BE2 nA nB oA1 oB1 rR1 E1 BE1 hm1
    go_wp2_with fail
    refine hK _ _ (fun h => absurd h (by decide)) ?_
    clear hK
    refine wpMark_go rfl (fun m2 hm2 K hK => ?_)
    go_wp2_with fail
    refine hK _ _ (fun h => absurd h (by decide)) (wpMark_nil fun m3 hm3 => ?_)
    clear hK
    have hx := hm2.trans hm3
    have rR3 := RR2.out.kept hx
    have oA3 := own_ext OA2.out hx
    have oB3 := own_ext OB2.out hx
    have bb := BF2.out
    have BF3 := bb.trans (hx.mono bb.size)
    obtain ⟨q0, q1, q2, q3⟩ := rR3.two
    simp only [onlyN, Exit.then]
    clear LT hm2 hm3 hx
    have OA3 := Lib.hid oA3; clear oA3
    have OB3 := Lib.hid oB3; clear oB3
    go_wp2_with fail
    exact bodyPost_ret (v := .tuple #[.agg #[(.slice (some ⟨g, 0, none⟩) n ca), (.slice B 16 cb)], .string ⟨(oNo).toArray⟩]) (by simp [results, Tryz.results59, go_sem, q0, q1]) rfl ⟨BF3, _, _, _, _, _, rfl, Hn.out, OA3.out, OB3.out⟩
  · rw [had, if_pos rfl] at hres
    subst hres
    have Had := Lib.hid had; clear had
    go_enter Tryz.func59, Tryz.ntmps59
    go_wp2_with fail
    refine wp_region_T [14, 15, 16, 17, 18, 19] [] [true, true, true, true, true, true, true, true, true, true, true, true, true, true, false, false, false, false, false, false] 6 (Below W.heap.size W)
      (fun a' w' => ∃ g' c', a' = ⟨#[.agg #[.slice (some ⟨g, 0, none⟩) n ca, .slice B 16 cb], .slice (some ⟨bW, oW, none⟩) 4 cw, .pointer (some ⟨w.heap.size, 0, none⟩), undef, .pointer (some ⟨w.heap.size + 1, 0, none⟩), .string ⟨#[]⟩, undef, undef, .slice g' 16 c', .bool true, .slice (some ⟨bW, oW, none⟩) 4 cw, .pointer (some ⟨bW, oW, none⟩), .string ⟨#[99, 101, 108, 108]⟩, .bool false, .bool false, undef, undef, undef, .bool false, undef, undef, undef, undef, undef, undef, undef, undef, undef, undef, undef, undef, undef, undef, undef, undef, undef, undef, undef, undef, .slice (some ⟨bW, oW, none⟩) 4 cw, .pointer (some ⟨bW, oW, none⟩), .string ⟨#[99, 101, 108, 108]⟩, .bool true, .bool true, .slice (some ⟨bW, oW, none⟩) 4 cw, .int .i64 4, .bool true, .bool true, .tuple #[.slice g' 16 c', .bool true], .pointer (some ⟨w.heap.size, 1, none⟩), .slice B 16 cb, .slice (some ⟨bW, oW, none⟩) 4 cw, .pointer (some ⟨bW, oW + 1 * 1, none⟩), .string ⟨y1.toArray⟩, .int .i64 P1, .slice (some ⟨bW, oW, none⟩) 4 cw, .pointer (some ⟨bW, oW + 2 * 1, none⟩), .string ⟨y2.toArray⟩, .int .i64 P2, .slice (some ⟨bW, oW, none⟩) 4 cw, .pointer (some ⟨bW, oW + 3 * 1, none⟩), .string ⟨y3.toArray⟩, .int .i64 P3, .tuple #[.slice g' 16 c', .bool true], .slice g' 16 c', .bool true, undef, undef, undef, undef, undef, undef, undef, undef, undef, undef, undef, undef, undef], []⟩ ∧ w'.ownsRow W.heap.size 3 1 (.slice g' 16 c') 16 ((s.2.set (4 * P2 + P1).toNat P3).map (Value.int .i64)) ∧ Below W.heap.size W w')
      (by kernel_rfl) (by kernel_rfl) (fun _ _ h h' => h.trans (h'.mono h.size)) (Below.refl _ _).drew ?next ?walk
    case walk =>
      refine wpStill_go (v := .pointer (some ⟨w.heap.size, 1, none⟩)) rfl rfl (stays_run fun w' h => by simp [go_sem]) ?_
      simp only [Act.put, List.setIfInBounds_toArray, List.set_cons_succ, List.set_cons_zero]
      refine wpStill_go (v := .slice B 16 cb) rfl rfl (stays_run fun w' h => ex_load rfl rfl (ld_one (by kernel_rfl) ((rS.kept ‹_›).cell 1))) ?_
      simp only [Act.put, List.setIfInBounds_toArray, List.set_cons_succ, List.set_cons_zero]
      refine wpStill_go (v := .slice (some ⟨bW, oW, none⟩) 4 cw) rfl rfl (stays_run fun w' h => ex_move rfl rfl) ?_
      simp only [Act.put, List.setIfInBounds_toArray, List.set_cons_succ, List.set_cons_zero]
      refine wpStill_go (v := .pointer (some ⟨bW, oW + 1 * 1, none⟩)) rfl rfl (stays_run fun w' h => ex_index rfl (by kernel_rfl) (by kernel_rfl) rfl rfl ((by omega : 1 < 4))) ?_
      simp only [Act.put, List.setIfInBounds_toArray, List.set_cons_succ, List.set_cons_zero]
      refine wpStill_go (v := .string ⟨y1.toArray⟩) rfl rfl (stays_run fun w' h => ex_load rfl rfl (ld_one (by kernel_rfl) (g1 w' h))) ?_
      simp only [Act.put, List.setIfInBounds_toArray, List.set_cons_succ, List.set_cons_zero]
      refine wpStill_go (v := .int .i64 P1) rfl rfl (stays_call (f := 100) (args := #[.string ⟨y1.toArray⟩]) (fun w' h => by simp [go_sem]) (fun w' _ => (l41Number_any y1 w' (by omega)).mono fun _ _ h => ⟨by rw [h.1, HP1.out], h.2 ▸ Below.refl _ _⟩)) ?_
      simp only [Act.put, List.setIfInBounds_toArray, List.set_cons_succ, List.set_cons_zero]
      refine wpStill_go (v := .slice (some ⟨bW, oW, none⟩) 4 cw) rfl rfl (stays_run fun w' h => ex_move rfl rfl) ?_
      simp only [Act.put, List.setIfInBounds_toArray, List.set_cons_succ, List.set_cons_zero]
      refine wpStill_go (v := .pointer (some ⟨bW, oW + 2 * 1, none⟩)) rfl rfl (stays_run fun w' h => ex_index rfl (by kernel_rfl) (by kernel_rfl) rfl rfl ((by omega : 2 < 4))) ?_
      simp only [Act.put, List.setIfInBounds_toArray, List.set_cons_succ, List.set_cons_zero]
      refine wpStill_go (v := .string ⟨y2.toArray⟩) rfl rfl (stays_run fun w' h => ex_load rfl rfl (ld_one (by kernel_rfl) (g2 w' h))) ?_
      simp only [Act.put, List.setIfInBounds_toArray, List.set_cons_succ, List.set_cons_zero]
      refine wpStill_go (v := .int .i64 P2) rfl rfl (stays_call (f := 100) (args := #[.string ⟨y2.toArray⟩]) (fun w' h => by simp [go_sem]) (fun w' _ => (l41Number_any y2 w' (by omega)).mono fun _ _ h => ⟨by rw [h.1, HP2.out], h.2 ▸ Below.refl _ _⟩)) ?_
      simp only [Act.put, List.setIfInBounds_toArray, List.set_cons_succ, List.set_cons_zero]
      refine wpStill_go (v := .slice (some ⟨bW, oW, none⟩) 4 cw) rfl rfl (stays_run fun w' h => ex_move rfl rfl) ?_
      simp only [Act.put, List.setIfInBounds_toArray, List.set_cons_succ, List.set_cons_zero]
      refine wpStill_go (v := .pointer (some ⟨bW, oW + 3 * 1, none⟩)) rfl rfl (stays_run fun w' h => ex_index rfl (by kernel_rfl) (by kernel_rfl) rfl rfl ((by omega : 3 < 4))) ?_
      simp only [Act.put, List.setIfInBounds_toArray, List.set_cons_succ, List.set_cons_zero]
      refine wpStill_go (v := .string ⟨y3.toArray⟩) rfl rfl (stays_run fun w' h => ex_load rfl rfl (ld_one (by kernel_rfl) (g3 w' h))) ?_
      simp only [Act.put, List.setIfInBounds_toArray, List.set_cons_succ, List.set_cons_zero]
      refine wpStill_go (v := .int .i64 P3) rfl rfl (stays_call (f := 100) (args := #[.string ⟨y3.toArray⟩]) (fun w' h => by simp [go_sem]) (fun w' _ => (l41Number_any y3 w' (by omega)).mono fun _ _ h => ⟨by rw [h.1, HP3.out], h.2 ▸ Below.refl _ _⟩)) ?_
      simp only [Act.put, List.setIfInBounds_toArray, List.set_cons_succ, List.set_cons_zero]
      refine wpStill_skip rfl (wpStill_skip rfl (wpStill_skip rfl (wpStill_skip rfl (wpStill_skip rfl (wpStill_skip rfl (wpStill_nil ?_))))))
      have F : Below W.heap.size W W.drew := (Below.refl _ _).drew
      refine wpTree_one (i := 14) (by kernel_rfl) rfl rfl (fun m1 hm1 K hK => ?_)
      have F := F.trans (hm1.mono F.size)
      go_wp2_with fail
      refine (l51Cell_yes B cb s.2 P1 P2 P3 m1 Hl16.out Had.out (hrB.ext F)).mono ?_
      rintro e n1 ⟨g', c', rfl, oN, bN⟩
      have oN := oN.mono F.size
      have F := F.trans (bN.mono F.size)
      have ON := Lib.hid oN
      clear oN bN
      go_wp2_with fail
      refine hK _ _ (fun _ => F) ?_
      clear hK
      refine wpTree_one (i := 15) (by kernel_rfl) rfl rfl (fun m2 hm2 K hK => ?_)
      have F := F.trans (hm2.mono F.size)
      have ON := Lib.hid (own_ext ON.out hm2)
      go_wp2_with fail
      refine hK _ _ (fun _ => F) ?_
      clear hK
      refine wpTree_two (i := 16) (j := 17) (by kernel_rfl) rfl rfl rfl rfl (fun m3 hm3 K hK => ?_) (fun m3 hm3 K hK => ?_)
      {
      have F := F.trans (hm3.mono F.size)
      have ON := Lib.hid (own_ext ON.out hm3)
      go_wp2_with fail
      refine hK _ _ (fun _ => F) ?_
      clear hK
      refine wpTree_two (i := 17) (j := 18) (by kernel_rfl) rfl rfl rfl rfl (fun m4 hm4 K hK => ?_) (fun m4 hm4 K hK => ?_)
      {
      have F := F.trans (hm4.mono F.size)
      have ON := Lib.hid (own_ext ON.out hm4)
      go_wp2_with fail
      refine hK _ _ (fun _ => F) ?_
      clear hK
      refine wpTree_one (i := 18) (by kernel_rfl) rfl rfl (fun m5 hm5 K hK => ?_)
      have F := F.trans (hm5.mono F.size)
      have ON := Lib.hid (own_ext ON.out hm5)
      go_wp2_with fail
      refine hK _ _ (fun _ => F) ?_
      clear hK
      refine wpTree_one (i := 19) (by kernel_rfl) rfl rfl (fun m6 hm6 K hK => ?_)
      have F := F.trans (hm6.mono F.size)
      have ON := Lib.hid (own_ext ON.out hm6)
      go_wp2_with fail
      refine hK _ _ (fun _ => F) (wpTree_nil (by kernel_rfl) fun me hme => ?_)
      exact ⟨g', c', rfl, own_ext ON.out hme, F.trans (hme.mono F.size)⟩
      }
      {
      have F := F.trans (hm4.mono F.size)
      have ON := Lib.hid (own_ext ON.out hm4)
      go_wp2_with fail
      refine hK _ _ (fun _ => F) ?_
      clear hK
      refine wpTree_one (i := 17) (by kernel_rfl) rfl rfl (fun m5 hm5 K hK => ?_)
      have F := F.trans (hm5.mono F.size)
      have ON := Lib.hid (own_ext ON.out hm5)
      go_wp2_with fail
      refine hK _ _ (fun _ => F) ?_
      clear hK
      refine wpTree_one (i := 19) (by kernel_rfl) rfl rfl (fun m6 hm6 K hK => ?_)
      have F := F.trans (hm6.mono F.size)
      have ON := Lib.hid (own_ext ON.out hm6)
      go_wp2_with fail
      refine hK _ _ (fun _ => F) (wpTree_nil (by kernel_rfl) fun me hme => ?_)
      exact ⟨g', c', rfl, own_ext ON.out hme, F.trans (hme.mono F.size)⟩
      }
      }
      {
      have F := F.trans (hm3.mono F.size)
      have ON := Lib.hid (own_ext ON.out hm3)
      go_wp2_with fail
      refine hK _ _ (fun _ => F) ?_
      clear hK
      refine wpTree_one (i := 16) (by kernel_rfl) rfl rfl (fun m4 hm4 K hK => ?_)
      have F := F.trans (hm4.mono F.size)
      have ON := Lib.hid (own_ext ON.out hm4)
      go_wp2_with fail
      refine hK _ _ (fun _ => F) ?_
      clear hK
      refine wpTree_one (i := 18) (by kernel_rfl) rfl rfl (fun m5 hm5 K hK => ?_)
      have F := F.trans (hm5.mono F.size)
      have ON := Lib.hid (own_ext ON.out hm5)
      go_wp2_with fail
      refine hK _ _ (fun _ => F) ?_
      clear hK
      refine wpTree_one (i := 19) (by kernel_rfl) rfl rfl (fun m6 hm6 K hK => ?_)
      have F := F.trans (hm6.mono F.size)
      have ON := Lib.hid (own_ext ON.out hm6)
      go_wp2_with fail
      refine hK _ _ (fun _ => F) (wpTree_nil (by kernel_rfl) fun me hme => ?_)
      exact ⟨g', c', rfl, own_ext ON.out hme, F.trans (hme.mono F.size)⟩
      }
    case next =>
      rintro a' V ⟨g', c', rfl, oN, B5⟩
      simp only [Exit.then]
      have BV := B0.trans (B5.mono B0.size)
      have rS := rS.kept B5
      have rR := rR.kept B5
      have OA5 := Lib.hid (own_ext OA1.out B5)
      have OB5 := Lib.hid (oN.mono hWb)
      clear g1 g2 g3 c0 c1 d0 d1 f0 f1 k0 k1 hc1 oN
      have LT := fun w' (h : Below V.heap.size V w') => ld_one (P := Tryz.prog) (t := 26) (by kernel_rfl) ((rS.kept h).cell 0)
      go_wp2_with fail
      refine wp_region_N [6, 7] [6, 7] (by kernel_rfl) (by kernel_rfl) ?_
      refine wpStill_go (v := .pointer (some ⟨w.heap.size, 0, none⟩)) rfl rfl (stays_run fun w' h => by simp [go_sem]) ?_
      simp only [Act.put, List.setIfInBounds_toArray, List.set_cons_succ, List.set_cons_zero]
      refine wpStill_go (v := .slice (some ⟨g, 0, none⟩) n ca) rfl rfl (stays_run fun w' h => ex_load rfl rfl (LT w' h)) ?_
      simp only [Act.put, List.setIfInBounds_toArray, List.set_cons_succ, List.set_cons_zero]
      refine wpStill_go (v := .slice g' 16 c') rfl rfl (stays_run fun w' h => ex_move rfl rfl) ?_
      simp only [Act.put, List.setIfInBounds_toArray, List.set_cons_succ, List.set_cons_zero]
      refine wpStill_go (v := .agg #[.slice (some ⟨g, 0, none⟩) n ca, .slice g' 16 c']) rfl rfl (stays_run fun w' h => by simp [go_sem]) ?_
      simp only [Act.put, List.setIfInBounds_toArray, List.set_cons_succ, List.set_cons_zero]
      refine wpStill_go (v := .bool true) rfl rfl (stays_run fun w' h => ex_move rfl rfl) ?_
      simp only [Act.put, List.setIfInBounds_toArray, List.set_cons_succ, List.set_cons_zero]
      refine wpStill_go (v := .string ⟨(oOk).toArray⟩) rfl rfl (stays_call (f := 101) (args := #[.bool true]) (fun w' h => by simp [go_sem]) (fun w' _ => l51Said_any true w')) ?_
      simp only [Act.put, List.setIfInBounds_toArray, List.set_cons_succ, List.set_cons_zero]
      refine wpStill_skip rfl ?_
      refine wpStill_skip rfl ?_
      refine wpStill_nil ?_
      repeat (refine wpMark_skip rfl ?_)
      refine wpMark_go rfl (fun m1 hm1 K hK => ?_)
      have E1 := (Below.refl V.heap.size V).drew.trans hm1
      have rR1 := rR.kept E1
      obtain ⟨q0, q1, q2, q3⟩ := rR1.two
      have oA1 := own_ext OA5.out E1
      have oB1 := own_ext OB5.out E1
      have nA := own_ne oA1 rR1 (by decide)
      have nB := own_ne oB1 rR1 (by decide)
      have BE1 := BV.trans (E1.mono BV.size)
      have oA2 := own_over (own_over oA1 (grown_set m1 (w.heap.size + 1) 0 (.slice (some ⟨g, 0, none⟩) n ca)) (fun jj hj e => by injection e with e; exact nA jj hj e.symm)) (grown_set _ (w.heap.size + 1) 1 (.slice g' 16 c')) (fun jj hj e => by injection e with e; exact nA jj hj e.symm)
      have oB2 := own_over (own_over oB1 (grown_set m1 (w.heap.size + 1) 0 (.slice (some ⟨g, 0, none⟩) n ca)) (fun jj hj e => by injection e with e; exact nB jj hj e.symm)) (grown_set _ (w.heap.size + 1) 1 (.slice g' 16 c')) (fun jj hj e => by injection e with e; exact nB jj hj e.symm)
      have rR2 := (rR1.set_ 0 (.slice (some ⟨g, 0, none⟩) n ca)).set_ 1 (.slice g' 16 c')
      simp only [List.set_cons_zero, List.set_cons_succ] at rR2
      have BE2 := (BE1.setCell (p := ⟨w.heap.size + 1, 0, none⟩) (by show w.heap.size ≤ w.heap.size + 1; omega) (.slice (some ⟨g, 0, none⟩) n ca)).setCell (p := ⟨w.heap.size + 1, 1, none⟩) (by show w.heap.size ≤ w.heap.size + 1; omega) (.slice g' 16 c')
      have OA2 := Lib.hid oA2
      have OB2 := Lib.hid oB2
      have RR2 := Lib.hid rR2
      have BF2 := Lib.hid BE2
      clear oA2 oB2 rR2 BE2 nA nB oA1 oB1 rR1 E1 BE1 hm1
      go_wp2_with fail
      refine hK _ _ (fun h => absurd h (by decide)) ?_
      clear hK
      refine wpMark_go rfl (fun m2 hm2 K hK => ?_)
      go_wp2_with fail
      refine hK _ _ (fun h => absurd h (by decide)) (wpMark_nil fun m3 hm3 => ?_)
      clear hK
      have hx := hm2.trans hm3
      have rR3 := RR2.out.kept hx
      have oA3 := own_ext OA2.out hx
      have oB3 := own_ext OB2.out hx
      have bb := BF2.out
      have BF3 := bb.trans (hx.mono bb.size)
      obtain ⟨q0, q1, q2, q3⟩ := rR3.two
      simp only [onlyN, Exit.then]
      clear LT hm2 hm3 hx
      have OA3 := Lib.hid oA3; clear oA3
      have OB3 := Lib.hid oB3; clear oB3
      go_wp2_with fail
      exact bodyPost_ret (v := .tuple #[.agg #[(.slice (some ⟨g, 0, none⟩) n ca), (.slice g' 16 c')], .string ⟨(oOk).toArray⟩]) (by simp [results, Tryz.results59, go_sem, q0, q1]) rfl ⟨BF3, _, _, _, _, _, rfl, Hn.out, OA3.out, OB3.out⟩

set_option maxRecDepth 100000 in
set_option maxHeartbeats 2000000 in
theorem l51Line_ask (base g : Nat) (B Wd : Option Addr) (n ca cb nw cw m : Nat) (h : Word) (t : List Word) (s : St) (w : World) (hkn : knownW h m = true) (hm : t.length = m) (hnw : nw = m + 1) (hb : m ≤ 1000) (hln : ∀ i, (t.getD i []).length ≤ 1000) (hn : s.1.length = n) (hok : StOk s) (hbase : base ≤ w.heap.size) (oA : w.ownsRow base 50 2 (.slice (some ⟨g, 0, none⟩) n ca) n (s.1.flatMap pairCells)) (oB : w.ownsRow base 3 1 (.slice B 16 cb) 16 (s.2.map (Value.int .i64))) (hrW : Rd w w.heap.size Wd (strs (h :: t))) :
    Calls Tryz.prog 59 #[.agg #[.slice (some ⟨g, 0, none⟩) n ca, .slice B 16 cb], .slice Wd nw cw] w fun e w' => LineTo base (s, if arrV s.1 then askB s h t else oNo) w e w' := by
  have hd := known_ask hkn
  have pa : (h == [97, 110, 116]) = false := beq_eq_false_iff_ne.2 hd.2.1
  have pc : (h == [99, 101, 108, 108]) = false := beq_eq_false_iff_ne.2 hd.2.2.1
  clear hd
  have hn1 : (0 : Int) < nw := by omega
  have hcap := own_cap oA
  obtain ⟨bW, oW, rfl, hbW, hc0⟩ := hrW 0 _ (strs_get (ls := h :: t) (k := 0) (by simp))
  simp only [List.getD_cons_zero, Nat.add_zero] at hc0
  have rS := (Row.new w 83 [.slice (some ⟨g, 0, none⟩) n ca, .slice B 16 cb]).alloc (.cells #[.slice none 0 0, .slice none 0 0] 83)
  have rR := Row.new (w.alloc (.cells #[.slice (some ⟨g, 0, none⟩) n ca, .slice B 16 cb] 83)) 83 [.slice none 0 0, .slice none 0 0]
  rw [World.size_alloc] at rR
  have B0 := bA2 (w := w) (o := .cells #[.slice (some ⟨g, 0, none⟩) n ca, .slice B 16 cb] 83) (o' := .cells #[.slice none 0 0, .slice none 0 0] 83)
  obtain ⟨W, hW⟩ : ∃ W, (w.alloc (.cells #[.slice (some ⟨g, 0, none⟩) n ca, .slice B 16 cb] 83)).alloc (.cells #[.slice none 0 0, .slice none 0 0] 83) = W := ⟨_, rfl⟩
  rw [hW] at rS rR B0
  have oA1 := own_ext oA B0
  have oB1 := own_ext oB B0
  have hrW1 := hrW.ext B0
  have hc1 := (bcl B0 hbW _).trans hc0
  have hbW1 := Nat.lt_of_lt_of_le hbW B0.size
  have hWb := Nat.le_trans hbase B0.size
  obtain ⟨c0, c1, f0, f1⟩ := rS.two
  obtain ⟨d0, d1, k0, k1⟩ := rR.two
  clear hc0 hbW hrW oA oB hbase
  have Hn := Lib.hid hn; clear hn
  have Hok := Lib.hid hok; clear hok
  have Hm := Lib.hid hm; clear hm
  have Hln := Lib.hid hln; clear hln
  have OA1 := Lib.hid oA1; clear oA1
  have OB1 := Lib.hid oB1; clear oB1
  obtain ⟨R, hR⟩ : ∃ R, (if arrV s.1 then askB s h t else oNo) = R := ⟨_, rfl⟩
  rw [hR]
  have hrA := Rd.of_own OA1.out
  have hrB := Rd.of_own OB1.out
  have HR := Lib.hid hR; clear hR
  have Hkn := Lib.hid hkn; clear hkn
  have Hnw := Lib.hid hnw; clear hnw
  go_enter Tryz.func59, Tryz.ntmps59
  go_wp2_with fail
  refine (l51Known_any _ nw m cw h t W Hnw.out Hm.out (by omega) hrW1).mono ?_
  rintro e V ⟨rfl, B5⟩
  rw [Hkn.out]
  have BV := B0.trans (B5.mono B0.size)
  have rS := rS.kept B5
  have rR := rR.kept B5
  have OA5 := Lib.hid (own_ext OA1.out B5)
  have OB5 := Lib.hid (own_ext OB1.out B5)
  have extX := (hrA.below B5).more B5.size; clear hrA; have hrA := extX; clear extX
  have extX := (hrB.below B5).more B5.size; clear hrB; have hrB := extX; clear extX
  have extX := (hrW1.below B5).more B5.size; clear hrW1; have hrW1 := extX; clear extX
  have LS := fun w' (h : Below V.heap.size V w') => ld_two (P := Tryz.prog) (t := 83) (by kernel_rfl) (by kernel_rfl) ((rS.kept h).cell 0) ((rS.kept h).cell 1)
  clear c0 c1 d0 d1 f0 f1 k0 k1 hc1
  have LT := fun w' (h : Below V.heap.size V w') => ld_one (P := Tryz.prog) (t := 32) (by kernel_rfl) ((rS.kept h).cell 1)
  go_wp2_with fail
  refine wp_region_N [4, 5] [4, 5] (by kernel_rfl) (by kernel_rfl) ?_
  refine wpStill_go (v := .agg #[.slice (some ⟨g, 0, none⟩) n ca, .slice B 16 cb]) rfl rfl (stays_run fun w' h => ex_load rfl rfl (LS w' h)) ?_
  simp only [Act.put, List.setIfInBounds_toArray, List.set_cons_succ, List.set_cons_zero]
  refine wpStill_go (v := .agg #[.slice (some ⟨g, 0, none⟩) n ca, .slice B 16 cb]) rfl rfl (stays_run fun w' h => ex_load rfl rfl (LS w' h)) ?_
  simp only [Act.put, List.setIfInBounds_toArray, List.set_cons_succ, List.set_cons_zero]
  refine wpStill_go (v := .slice (some ⟨bW, oW, none⟩) nw cw) rfl rfl (stays_run fun w' h => ex_move rfl rfl) ?_
  simp only [Act.put, List.setIfInBounds_toArray, List.set_cons_succ, List.set_cons_zero]
  refine wpStill_go (v := .string ⟨R.toArray⟩) rfl rfl (stays_call (f := 104) (args := #[.agg #[.slice (some ⟨g, 0, none⟩) n ca, .slice B 16 cb], .slice (some ⟨bW, oW, none⟩) nw cw]) (fun w' h => by simp [go_sem]) (fun w' _ => by rw [← HR.out]; exact l51Ask_any _ B _ n ca cb nw cw m h t s w' Hkn.out Hm.out Hnw.out hb Hln.out Hn.out hcap (by have := Hok.out.len; have := Hn.out; omega) Hok.out.sky (hrA.ext ‹_›) (hrB.ext ‹_›) (hrW1.ext ‹_›))) ?_
  simp only [Act.put, List.setIfInBounds_toArray, List.set_cons_succ, List.set_cons_zero]
  refine wpStill_skip rfl ?_
  refine wpStill_skip rfl ?_
  refine wpStill_nil ?_
  repeat (refine wpMark_skip rfl ?_)
  clear LS
  refine wpMark_go rfl (fun m1 hm1 K hK => ?_)
  have E1 := (Below.refl V.heap.size V).drew.trans hm1
  have rR1 := rR.kept E1
  obtain ⟨q0, q1, q2, q3⟩ := rR1.two
  have oA1 := own_ext OA5.out E1
  have oB1 := own_ext OB5.out E1
  have nA := own_ne oA1 rR1 (by decide)
  have nB := own_ne oB1 rR1 (by decide)
  have BE1 := BV.trans (E1.mono BV.size)
  have oA2 := own_over (own_over oA1 (grown_set m1 (w.heap.size + 1) 0 (.slice (some ⟨g, 0, none⟩) n ca)) (fun jj hj e => by injection e with e; exact nA jj hj e.symm)) (grown_set _ (w.heap.size + 1) 1 (.slice B 16 cb)) (fun jj hj e => by injection e with e; exact nA jj hj e.symm)
  have oB2 := own_over (own_over oB1 (grown_set m1 (w.heap.size + 1) 0 (.slice (some ⟨g, 0, none⟩) n ca)) (fun jj hj e => by injection e with e; exact nB jj hj e.symm)) (grown_set _ (w.heap.size + 1) 1 (.slice B 16 cb)) (fun jj hj e => by injection e with e; exact nB jj hj e.symm)
  have rR2 := (rR1.set_ 0 (.slice (some ⟨g, 0, none⟩) n ca)).set_ 1 (.slice B 16 cb)
  simp only [List.set_cons_zero, List.set_cons_succ] at rR2
  have BE2 := (BE1.setCell (p := ⟨w.heap.size + 1, 0, none⟩) (by show w.heap.size ≤ w.heap.size + 1; omega) (.slice (some ⟨g, 0, none⟩) n ca)).setCell (p := ⟨w.heap.size + 1, 1, none⟩) (by show w.heap.size ≤ w.heap.size + 1; omega) (.slice B 16 cb)
  have OA2 := Lib.hid oA2
  have OB2 := Lib.hid oB2
  have RR2 := Lib.hid rR2
  have BF2 := Lib.hid BE2
  clear oA2 oB2 rR2 BE2 nA nB oA1 oB1 rR1 E1 BE1 hm1
  go_wp2_with fail
  refine hK _ _ (fun h => absurd h (by decide)) ?_
  clear hK
  refine wpMark_go rfl (fun m2 hm2 K hK => ?_)
  go_wp2_with fail
  refine hK _ _ (fun h => absurd h (by decide)) (wpMark_nil fun m3 hm3 => ?_)
  clear hK
  have hx := hm2.trans hm3
  have rR3 := RR2.out.kept hx
  have oA3 := own_ext OA2.out hx
  have oB3 := own_ext OB2.out hx
  have bb := BF2.out
  have BF3 := bb.trans (hx.mono bb.size)
  obtain ⟨q0, q1, q2, q3⟩ := rR3.two
  simp only [onlyN, Exit.then]
  clear LT hm2 hm3 hx
  have OA3 := Lib.hid oA3; clear oA3
  have OB3 := Lib.hid oB3; clear oB3
  go_wp2_with fail
  exact bodyPost_ret (v := .tuple #[.agg #[(.slice (some ⟨g, 0, none⟩) n ca), (.slice B 16 cb)], .string ⟨(R).toArray⟩]) (by simp [results, Tryz.results59, go_sem, q0, q1]) rfl ⟨BF3, _, _, _, _, _, rfl, Hn.out, OA3.out, OB3.out⟩

set_option maxRecDepth 100000 in
set_option maxHeartbeats 2000000 in
theorem l51Line_what (base g : Nat) (B Wd : Option Addr) (n ca cb nw cw m : Nat) (h : Word) (t : List Word) (s : St) (w : World) (hkn : knownW h m = false) (hw1 : ¬ (h = wAnt ∧ m = 2)) (hw2 : ¬ (h = wCell ∧ m = 3)) (hm : t.length = m) (hnw : nw = m + 1) (hb : m ≤ 1000) (hln : ∀ i, (t.getD i []).length ≤ 1000) (hn : s.1.length = n) (hok : StOk s) (hbase : base ≤ w.heap.size) (oA : w.ownsRow base 50 2 (.slice (some ⟨g, 0, none⟩) n ca) n (s.1.flatMap pairCells)) (oB : w.ownsRow base 3 1 (.slice B 16 cb) 16 (s.2.map (Value.int .i64))) (hrW : Rd w w.heap.size Wd (strs (h :: t))) :
    Calls Tryz.prog 59 #[.agg #[.slice (some ⟨g, 0, none⟩) n ca, .slice B 16 cb], .slice Wd nw cw] w fun e w' => LineTo base (s, oWhat) w e w' := by
  have hn1 : (0 : Int) < nw := by omega
  obtain ⟨bW, oW, rfl, hbW, hc0⟩ := hrW 0 _ (strs_get (ls := h :: t) (k := 0) (by simp))
  simp only [List.getD_cons_zero, Nat.add_zero] at hc0
  have rS := (Row.new w 83 [.slice (some ⟨g, 0, none⟩) n ca, .slice B 16 cb]).alloc (.cells #[.slice none 0 0, .slice none 0 0] 83)
  have rR := Row.new (w.alloc (.cells #[.slice (some ⟨g, 0, none⟩) n ca, .slice B 16 cb] 83)) 83 [.slice none 0 0, .slice none 0 0]
  rw [World.size_alloc] at rR
  have B0 := bA2 (w := w) (o := .cells #[.slice (some ⟨g, 0, none⟩) n ca, .slice B 16 cb] 83) (o' := .cells #[.slice none 0 0, .slice none 0 0] 83)
  obtain ⟨W, hW⟩ : ∃ W, (w.alloc (.cells #[.slice (some ⟨g, 0, none⟩) n ca, .slice B 16 cb] 83)).alloc (.cells #[.slice none 0 0, .slice none 0 0] 83) = W := ⟨_, rfl⟩
  rw [hW] at rS rR B0
  have oA1 := own_ext oA B0
  have oB1 := own_ext oB B0
  have hrW1 := hrW.ext B0
  have hc1 := (bcl B0 hbW _).trans hc0
  have hbW1 := Nat.lt_of_lt_of_le hbW B0.size
  have hWb := Nat.le_trans hbase B0.size
  obtain ⟨c0, c1, f0, f1⟩ := rS.two
  obtain ⟨d0, d1, k0, k1⟩ := rR.two
  clear hc0 hbW hrW oA oB hbase
  have Hn := Lib.hid hn; clear hn
  have Hok := Lib.hid hok; clear hok
  have Hm := Lib.hid hm; clear hm
  have Hln := Lib.hid hln; clear hln
  have OA1 := Lib.hid oA1; clear oA1
  have OB1 := Lib.hid oB1; clear oB1
  by_cases ha : h = wAnt
  · have pa : (h == [97, 110, 116]) = true := by rw [ha]; decide
    have pc : (h == [99, 101, 108, 108]) = false := by rw [ha]; decide
    have pl : ((nw : Int) == 3) = false := by rw [beq_eq_false_iff_ne]; intro hh; exact hw1 ⟨ha, by omega⟩
    have Ha := Lib.hid ha; clear ha
    have Hw1 := Lib.hid hw1; clear hw1
    have Hw2 := Lib.hid hw2; clear hw2
    have Hkn := Lib.hid hkn; clear hkn
    have Hnw := Lib.hid hnw; clear hnw
    go_enter Tryz.func59, Tryz.ntmps59
    go_wp2_with fail
    refine (l51Known_any _ nw m cw h t W Hnw.out Hm.out (by omega) hrW1).mono ?_
    rintro e V ⟨rfl, B5⟩
    rw [Hkn.out]
    have BV := B0.trans (B5.mono B0.size)
    have rS := rS.kept B5
    have rR := rR.kept B5
    have oA5 := own_ext OA1.out B5
    have oB5 := own_ext OB1.out B5
    have nA := own_ne oA5 rR (by decide)
    have nB := own_ne oB5 rR (by decide)
    have oA2 := own_over (own_over oA5 (grown_set V (w.heap.size + 1) 0 (.slice (some ⟨g, 0, none⟩) n ca)) (fun jj hj e => by injection e with e; exact nA jj hj e.symm)) (grown_set _ (w.heap.size + 1) 1 (.slice B 16 cb)) (fun jj hj e => by injection e with e; exact nA jj hj e.symm)
    have oB2 := own_over (own_over oB5 (grown_set V (w.heap.size + 1) 0 (.slice (some ⟨g, 0, none⟩) n ca)) (fun jj hj e => by injection e with e; exact nB jj hj e.symm)) (grown_set _ (w.heap.size + 1) 1 (.slice B 16 cb)) (fun jj hj e => by injection e with e; exact nB jj hj e.symm)
    have BE2 := (BV.setCell (p := ⟨w.heap.size + 1, 0, none⟩) (by show w.heap.size ≤ w.heap.size + 1; omega) (.slice (some ⟨g, 0, none⟩) n ca)).setCell (p := ⟨w.heap.size + 1, 1, none⟩) (by show w.heap.size ≤ w.heap.size + 1; omega) (.slice B 16 cb)
    have OA2 := Lib.hid oA2
    have OB2 := Lib.hid oB2
    have BF2 := Lib.hid BE2
    clear oA2 oB2 nA nB BE2 oA5 oB5 c0 c1 d0 d1 f0 f1 k0 k1 hc1
    obtain ⟨c0, c1, f0, f1⟩ := rS.two
    obtain ⟨d0, d1, k0, k1⟩ := rR.two
    go_wp2_with fail
    exact bodyPost_ret (v := .tuple #[.agg #[.slice (some ⟨g, 0, none⟩) n ca, .slice B 16 cb], .string ⟨(oWhat).toArray⟩]) (by simp [results, Tryz.results59, go_sem, oWhat, d0, d1]) rfl ⟨BF2.out, _, _, _, _, _, rfl, Hn.out, OA2.out, OB2.out⟩
  · have pa : (h == [97, 110, 116]) = false := beq_eq_false_iff_ne.2 ha
    by_cases hc : h = wCell
    · have pc : (h == [99, 101, 108, 108]) = true := by rw [hc]; decide
      have pl : ((nw : Int) == 4) = false := by rw [beq_eq_false_iff_ne]; intro hh; exact hw2 ⟨hc, by omega⟩
      have Ha := Lib.hid ha; clear ha
      have Hc := Lib.hid hc; clear hc
      have Hw1 := Lib.hid hw1; clear hw1
      have Hw2 := Lib.hid hw2; clear hw2
      have Hkn := Lib.hid hkn; clear hkn
      have Hnw := Lib.hid hnw; clear hnw
      go_enter Tryz.func59, Tryz.ntmps59
      go_wp2_with fail
      refine (l51Known_any _ nw m cw h t W Hnw.out Hm.out (by omega) hrW1).mono ?_
      rintro e V ⟨rfl, B5⟩
      rw [Hkn.out]
      have BV := B0.trans (B5.mono B0.size)
      have rS := rS.kept B5
      have rR := rR.kept B5
      have oA5 := own_ext OA1.out B5
      have oB5 := own_ext OB1.out B5
      have nA := own_ne oA5 rR (by decide)
      have nB := own_ne oB5 rR (by decide)
      have oA2 := own_over (own_over oA5 (grown_set V (w.heap.size + 1) 0 (.slice (some ⟨g, 0, none⟩) n ca)) (fun jj hj e => by injection e with e; exact nA jj hj e.symm)) (grown_set _ (w.heap.size + 1) 1 (.slice B 16 cb)) (fun jj hj e => by injection e with e; exact nA jj hj e.symm)
      have oB2 := own_over (own_over oB5 (grown_set V (w.heap.size + 1) 0 (.slice (some ⟨g, 0, none⟩) n ca)) (fun jj hj e => by injection e with e; exact nB jj hj e.symm)) (grown_set _ (w.heap.size + 1) 1 (.slice B 16 cb)) (fun jj hj e => by injection e with e; exact nB jj hj e.symm)
      have BE2 := (BV.setCell (p := ⟨w.heap.size + 1, 0, none⟩) (by show w.heap.size ≤ w.heap.size + 1; omega) (.slice (some ⟨g, 0, none⟩) n ca)).setCell (p := ⟨w.heap.size + 1, 1, none⟩) (by show w.heap.size ≤ w.heap.size + 1; omega) (.slice B 16 cb)
      have OA2 := Lib.hid oA2
      have OB2 := Lib.hid oB2
      have BF2 := Lib.hid BE2
      clear oA2 oB2 nA nB BE2 oA5 oB5 c0 c1 d0 d1 f0 f1 k0 k1 hc1
      obtain ⟨c0, c1, f0, f1⟩ := rS.two
      obtain ⟨d0, d1, k0, k1⟩ := rR.two
      go_wp2_with fail
      exact bodyPost_ret (v := .tuple #[.agg #[.slice (some ⟨g, 0, none⟩) n ca, .slice B 16 cb], .string ⟨(oWhat).toArray⟩]) (by simp [results, Tryz.results59, go_sem, oWhat, d0, d1]) rfl ⟨BF2.out, _, _, _, _, _, rfl, Hn.out, OA2.out, OB2.out⟩
    · have pc : (h == [99, 101, 108, 108]) = false := beq_eq_false_iff_ne.2 hc
      have Ha := Lib.hid ha; clear ha
      have Hc := Lib.hid hc; clear hc
      have Hw1 := Lib.hid hw1; clear hw1
      have Hw2 := Lib.hid hw2; clear hw2
      have Hkn := Lib.hid hkn; clear hkn
      have Hnw := Lib.hid hnw; clear hnw
      go_enter Tryz.func59, Tryz.ntmps59
      go_wp2_with fail
      refine (l51Known_any _ nw m cw h t W Hnw.out Hm.out (by omega) hrW1).mono ?_
      rintro e V ⟨rfl, B5⟩
      rw [Hkn.out]
      have BV := B0.trans (B5.mono B0.size)
      have rS := rS.kept B5
      have rR := rR.kept B5
      have oA5 := own_ext OA1.out B5
      have oB5 := own_ext OB1.out B5
      have nA := own_ne oA5 rR (by decide)
      have nB := own_ne oB5 rR (by decide)
      have oA2 := own_over (own_over oA5 (grown_set V (w.heap.size + 1) 0 (.slice (some ⟨g, 0, none⟩) n ca)) (fun jj hj e => by injection e with e; exact nA jj hj e.symm)) (grown_set _ (w.heap.size + 1) 1 (.slice B 16 cb)) (fun jj hj e => by injection e with e; exact nA jj hj e.symm)
      have oB2 := own_over (own_over oB5 (grown_set V (w.heap.size + 1) 0 (.slice (some ⟨g, 0, none⟩) n ca)) (fun jj hj e => by injection e with e; exact nB jj hj e.symm)) (grown_set _ (w.heap.size + 1) 1 (.slice B 16 cb)) (fun jj hj e => by injection e with e; exact nB jj hj e.symm)
      have BE2 := (BV.setCell (p := ⟨w.heap.size + 1, 0, none⟩) (by show w.heap.size ≤ w.heap.size + 1; omega) (.slice (some ⟨g, 0, none⟩) n ca)).setCell (p := ⟨w.heap.size + 1, 1, none⟩) (by show w.heap.size ≤ w.heap.size + 1; omega) (.slice B 16 cb)
      have OA2 := Lib.hid oA2
      have OB2 := Lib.hid oB2
      have BF2 := Lib.hid BE2
      clear oA2 oB2 nA nB BE2 oA5 oB5 c0 c1 d0 d1 f0 f1 k0 k1 hc1
      obtain ⟨c0, c1, f0, f1⟩ := rS.two
      obtain ⟨d0, d1, k0, k1⟩ := rR.two
      go_wp2_with fail
      exact bodyPost_ret (v := .tuple #[.agg #[.slice (some ⟨g, 0, none⟩) n ca, .slice B 16 cb], .string ⟨(oWhat).toArray⟩]) (by simp [results, Tryz.results59, go_sem, oWhat, d0, d1]) rfl ⟨BF2.out, _, _, _, _, _, rfl, Hn.out, OA2.out, OB2.out⟩

/-- A line of the reference's script. -/
theorem l51Line_any (base g : Nat) (B Wd : Option Addr) (n ca cb nw cw m : Nat) (h : Word) (t : List Word) (s : St) (w : World) (hm : t.length = m) (hnw : nw = m + 1) (hb : m ≤ 1000) (hln : ∀ i, (t.getD i []).length ≤ 1000) (hn : s.1.length = n) (hok : StOk s) (hbase : base ≤ w.heap.size) (oA : w.ownsRow base 50 2 (.slice (some ⟨g, 0, none⟩) n ca) n (s.1.flatMap pairCells)) (oB : w.ownsRow base 3 1 (.slice B 16 cb) 16 (s.2.map (Value.int .i64))) (hrW : Rd w w.heap.size Wd (strs (h :: t))) :
    Calls Tryz.prog 59 #[.agg #[.slice (some ⟨g, 0, none⟩) n ca, .slice B 16 cb], .slice Wd nw cw] w fun e w' => LineTo base (lineR s h t) w e w' := by
  by_cases h1 : h = wAnt ∧ m = 2
  · rw [show lineR s h t = antR s (num7 (t.getD 0 []), num7 (t.getD 1 [])) by unfold lineR; rw [if_pos (by rw [h1.1, hm, h1.2]; decide), if_pos h1.1]]
    exact l51Line_ant base g B Wd n ca cb nw cw m h t s w h1.1 h1.2 hm hnw hb hln hn hok hbase oA oB hrW
  by_cases h2 : h = wCell ∧ m = 3
  · rw [show lineR s h t = cellR s (num7 (t.getD 0 [])) (num7 (t.getD 1 [])) (num7 (t.getD 2 [])) by unfold lineR; rw [if_pos (by rw [h2.1, hm, h2.2]; decide), if_neg (by rw [h2.1]; decide), if_pos h2.1]]
    exact l51Line_cell base g B Wd n ca cb nw cw m h t s w h2.1 h2.2 hm hnw hb hln hn hok hbase oA oB hrW
  cases hkn : knownW h m
  · have hw := known_no hkn h1 h2
    rw [show lineR s h t = (s, oWhat) by unfold lineR; rw [if_neg (by rw [hm]; exact hw)]]
    exact l51Line_what base g B Wd n ca cb nw cw m h t s w hkn h1 h2 hm hnw hb hln hn hok hbase oA oB hrW
  · have hw := known_ask hkn
    rw [show lineR s h t = (s, if arrV s.1 then askB s h t else oNo) by unfold lineR; rw [if_pos (by rw [hm]; exact hw.1), if_neg hw.2.1, if_neg hw.2.2.1]]
    exact l51Line_ask base g B Wd n ca cb nw cw m h t s w hkn hm hnw hb hln hn hok hbase oA oB hrW
end Go.Proofs.YtipgpafgampfbaaGreatDoor
