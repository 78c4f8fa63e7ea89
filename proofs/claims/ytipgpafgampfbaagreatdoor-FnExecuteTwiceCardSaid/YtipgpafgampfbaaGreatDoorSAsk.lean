/- 'spec.l51Ask' at each of its words. -/
import Derived.Test.YtipgpafgampfbaaGreatDoorSClean
import Derived.Test.YtipgpafgampfbaaGreatDoorSPoint
import Derived.Test.YtipgpafgampfbaaGreatDoorSCell
import Derived.Test.YtipgpafgampfbaaGreatDoorRunU
import Derived.Test.YtipgpafgampfbaaGreatDoorRunO
namespace Go.Proofs.YtipgpafgampfbaaGreatDoor
open Go.RowKit
set_option linter.unusedVariables false

set_option maxRecDepth 100000 in
set_option maxHeartbeats 1000000 in
theorem l51Ask_bases (A B Wd : Option Addr) (n ca cb nw cw m : Nat) (h : Word) (t : List Word) (s : St) (w : World) (hh : h = wBases) (hmm : m = 0) (hm : t.length = m) (hnw : nw = m + 1) (hb : m ≤ 1000) (hln : ∀ i, (t.getD i []).length ≤ 1000) (hn : s.1.length = n) (hk : n ≤ ca) (h7 : n ≤ 7) (hv : arrV s.1 = true) (hs : skyV s.2 = true) (hr : Rd w w.heap.size A (s.1.flatMap pairCells)) (hr2 : Rd w w.heap.size B (s.2.map (Value.int .i64))) (hrW : Rd w w.heap.size Wd (strs (h :: t))) :
    Calls Tryz.prog 104 #[.agg #[.slice A n ca, .slice B 16 cb], .slice Wd nw cw] w fun e w' => e = .returned (.string ⟨(basesB s.1).toArray⟩) ∧ Below w.heap.size w w' := by
  have p_bases : (h == [98, 97, 115, 101, 115]) = true := by rw [hh]; decide
  obtain ⟨bW, oW, rfl, hbW, hc0⟩ := hrW 0 _ (strs_get (ls := h :: t) (k := 0) (by simp))
  simp only [List.getD_cons_zero, Nat.add_zero] at hc0
  obtain rfl : nw = 1 := by omega
  clear hnw
  subst hmm
  obtain ⟨R, hR⟩ : ∃ R, basesB s.1 = R := ⟨_, rfl⟩
  rw [hR]
  have rS := Row.new w 83 [.slice A n ca, .slice B 16 cb]
  have B0 := bA1 (w := w) (o := .cells #[.slice A n ca, .slice B 16 cb] 83)
  have hr := hr.ext B0
  have hr2 := hr2.ext B0
  have hrW := hrW.ext B0
  have hc0 := (bcl B0 hbW _).trans hc0
  have hl16 := skyV_len hs
  have hcl := covL_len s.1
  have hcv := covV_cov s.1
  obtain ⟨c, hc⟩ : ∃ c, covL s.1 = c := ⟨_, rfl⟩
  rw [hc] at hcl hcv
  obtain ⟨c0, c1, _, _⟩ := rS.two
  have hn1 : (0 : Int) < 1 := by omega
  have hbW := Nat.lt_of_lt_of_le hbW B0.size
  have Hh := Lib.hid hh; clear hh
  have HR := Lib.hid hR; clear hR
  have Hn := Lib.hid hn; clear hn
  have Hv := Lib.hid hv; clear hv
  have Hs := Lib.hid hs; clear hs
  have Hl16 := Lib.hid hl16; clear hl16
  have Hcl := Lib.hid hcl; clear hcl
  have Hcv := Lib.hid hcv; clear hcv
  have Hc := Lib.hid hc; clear hc
  have Hln := Lib.hid hln; clear hln
  have Hm := Lib.hid hm; clear hm
  go_enter Tryz.func104, Tryz.ntmps104
  go_wp2_with fail
  refine (sCoverOf_yes A n ca s.1 _ Hn.out Hv.out hr).mono ?_
  rintro e w1 ⟨gc, rfl, hgc, rC, b1⟩
  rw [Hc.out] at rC
  have B1 := B0.trans (b1.mono B0.size)
  have hc0x := (bcl b1 hbW _).trans hc0
  clear hc0
  have hc0 := hc0x
  clear hc0x
  have hbWx := Nat.lt_of_lt_of_le hbW b1.size
  clear hbW
  have hbW := hbWx
  clear hbWx
  have extX := (hr.below b1).more b1.size; clear hr; have hr := extX; clear extX
  have extX := (hr2.below b1).more b1.size; clear hr2; have hr2 := extX; clear extX
  have extX := (hrW.below b1).more b1.size; clear hrW; have hrW := extX; clear extX
  have rS := rS.kept b1
  clear c0 c1
  obtain ⟨c0, c1, _, _⟩ := rS.two
  clear b1
  have hl2 := arrV_len Hv.out
  have hbm := bm_le (s.1.length : Int)
  have hrd := redM_bd Hv.out
  have hbm0 : 0 ≤ bm (s.1.length : Int) := by rcases bm_cases (s.1.length : Int) with a | a | a | a | a | a | a <;> omega
  have i1 := itoa_small (n := bm (s.1.length : Int)) (by omega)
  have i2 := itoa_small (n := redM s.1) (by omega)
  have hR := HR.out
  have hB : basesB s.1 = (((((wBases ++ [32]) ++ Lib.itoa (bm s.1.length)) ++ [32]) ++ Lib.itoa (redM s.1)) ++ [10]) := by unfold basesB; simp
  rw [hB] at hR
  have LS : ∀ w', Below w1.heap.size w1 w' → (Instr.loadAt 26 (.pointer (some ⟨w.heap.size, 0, none⟩))).run Tryz.prog w' = .ok (.slice A n ca) w' := fun w' h => ld_one (by kernel_rfl) ((rS.kept h).cell 0)
  have HM : ∀ w', Below w1.heap.size w1 w' → Calls Tryz.prog 44 #[.slice A n ca] w' fun e w'' => e = .returned (.int .i64 (redM s.1)) ∧ Below w'.heap.size w' w'' := fun w' h => sRedundantMany_any A n ca s.1 w' Hn.out (by have := Hn.out; omega) (hr.ext h)
  rw [Hn.out] at hR i1 hbm hbm0
  obtain ⟨bmv, hbv⟩ : ∃ x, bm (n : Int) = x := ⟨_, rfl⟩
  obtain ⟨rmv, hrv⟩ : ∃ x, redM s.1 = x := ⟨_, rfl⟩
  rw [hbv, hrv] at hR
  rw [hrv] at HM hrd i2
  rw [hbv] at i1 hbm hbm0
  have HR := Lib.hid hR; clear hR
  have Hbv := Lib.hid hbv; clear hbv
  have Hrv := Lib.hid hrv; clear hrv
  have hidX := Lib.hid HM; clear HM; have HM := hidX; clear hidX
  have HB := Lib.hid hB; clear hB
  go_wp2_with fail
  refine wp_region_N [] [] (by kernel_rfl) (by kernel_rfl) ?_
  refine wpStill_go (v := .pointer (some ⟨w.heap.size, 0, none⟩)) rfl rfl (stays_run fun w' h => by simp [go_sem]) ?_
  simp only [Act.put, List.setIfInBounds_toArray, List.set_cons_succ, List.set_cons_zero]
  refine wpStill_go (v := .slice A n ca) rfl rfl (stays_run fun w' h => ex_load rfl rfl (LS w' h)) ?_
  simp only [Act.put, List.setIfInBounds_toArray, List.set_cons_succ, List.set_cons_zero]
  refine wpStill_go (v := .int .i64 n) rfl rfl (stays_run fun w' h => ex_len rfl (by kernel_rfl) rfl) ?_
  simp only [Act.put, List.setIfInBounds_toArray, List.set_cons_succ, List.set_cons_zero]
  refine wpStill_go (v := .int .i64 bmv) rfl rfl (stays_call (f := 123) (args := #[.int .i64 n]) (fun w' h => by simp [go_sem]) (fun w' _ => by rw [← Hbv.out]; exact (sBaseMany_any _ w').mono fun e w'' ⟨h, h2⟩ => ⟨h, h2 ▸ Below.refl _ _⟩)) ?_
  simp only [Act.put, List.setIfInBounds_toArray, List.set_cons_succ, List.set_cons_zero]
  refine wpStill_go (v := .string ⟨(Lib.itoa bmv).toArray⟩) rfl rfl (stays_call (f := 49) (args := #[.int .i64 bmv]) (fun w' h => by simp [go_sem]) (fun w' _ => sDec_any bmv (by omega) w')) ?_
  simp only [Act.put, List.setIfInBounds_toArray, List.set_cons_succ, List.set_cons_zero]
  refine wpStill_go (v := .string ⟨((wBases ++ [32]) ++ Lib.itoa bmv).toArray⟩) rfl rfl (stays_run fun w' h => by exact ex_addS rfl (by kernel_rfl) rfl rfl (by simp [wBases]; omega)) ?_
  simp only [Act.put, List.setIfInBounds_toArray, List.set_cons_succ, List.set_cons_zero]
  refine wpStill_go (v := .string ⟨(((wBases ++ [32]) ++ Lib.itoa bmv) ++ [32]).toArray⟩) rfl rfl (stays_run fun w' h => by exact ex_addS rfl (by kernel_rfl) rfl rfl (by simp [wBases]; omega)) ?_
  simp only [Act.put, List.setIfInBounds_toArray, List.set_cons_succ, List.set_cons_zero]
  refine wpStill_go (v := .pointer (some ⟨w.heap.size, 0, none⟩)) rfl rfl (stays_run fun w' h => by simp [go_sem]) ?_
  simp only [Act.put, List.setIfInBounds_toArray, List.set_cons_succ, List.set_cons_zero]
  refine wpStill_go (v := .slice A n ca) rfl rfl (stays_run fun w' h => ex_load rfl rfl (LS w' h)) ?_
  simp only [Act.put, List.setIfInBounds_toArray, List.set_cons_succ, List.set_cons_zero]
  refine wpStill_go (v := .int .i64 rmv) rfl rfl (stays_call (f := 44) (args := #[.slice A n ca]) (fun w' h => by simp [go_sem]) (fun w' _ => HM.out w' ‹_›)) ?_
  simp only [Act.put, List.setIfInBounds_toArray, List.set_cons_succ, List.set_cons_zero]
  refine wpStill_go (v := .string ⟨(Lib.itoa rmv).toArray⟩) rfl rfl (stays_call (f := 49) (args := #[.int .i64 rmv]) (fun w' h => by simp [go_sem]) (fun w' _ => sDec_any rmv (by omega) w')) ?_
  simp only [Act.put, List.setIfInBounds_toArray, List.set_cons_succ, List.set_cons_zero]
  refine wpStill_go (v := .string ⟨((((wBases ++ [32]) ++ Lib.itoa bmv) ++ [32]) ++ Lib.itoa rmv).toArray⟩) rfl rfl (stays_run fun w' h => by exact ex_addS rfl (by kernel_rfl) rfl rfl (by simp [wBases]; omega)) ?_
  simp only [Act.put, List.setIfInBounds_toArray, List.set_cons_succ, List.set_cons_zero]
  refine wpStill_go (v := .string ⟨(((((wBases ++ [32]) ++ Lib.itoa bmv) ++ [32]) ++ Lib.itoa rmv) ++ [10]).toArray⟩) rfl rfl (stays_run fun w' h => by exact ex_addS rfl (by kernel_rfl) rfl rfl (by simp [wBases]; omega)) ?_
  simp only [Act.put, List.setIfInBounds_toArray, List.set_cons_succ, List.set_cons_zero]
  refine wpStill_go (v := .string ⟨(((((wBases ++ [32]) ++ Lib.itoa bmv) ++ [32]) ++ Lib.itoa rmv) ++ [10]).toArray⟩) rfl rfl (stays_run fun w' h => by simp [go_sem]) ?_
  simp only [Act.put, List.setIfInBounds_toArray, List.set_cons_succ, List.set_cons_zero]
  refine wpStill_nil ?_
  repeat (refine wpMark_skip rfl ?_)
  refine wpMark_nil fun w5 h5 => ?_
  simp only [onlyN, Exit.then]
  have B5 := B1.trans (((Below.refl _ w1).drew.trans h5).mono B1.size)
  clear LS h5
  go_wp2_with fail
  go_ret
  exact ⟨by rw [← HR.out]; rfl, B5⟩

set_option maxRecDepth 100000 in
set_option maxHeartbeats 1000000 in
theorem l51Ask_cover (A B Wd : Option Addr) (n ca cb nw cw m : Nat) (h : Word) (t : List Word) (s : St) (w : World) (hh : h = wCover) (hmm : m = 0) (hm : t.length = m) (hnw : nw = m + 1) (hb : m ≤ 1000) (hln : ∀ i, (t.getD i []).length ≤ 1000) (hn : s.1.length = n) (hk : n ≤ ca) (h7 : n ≤ 7) (hv : arrV s.1 = true) (hs : skyV s.2 = true) (hr : Rd w w.heap.size A (s.1.flatMap pairCells)) (hr2 : Rd w w.heap.size B (s.2.map (Value.int .i64))) (hrW : Rd w w.heap.size Wd (strs (h :: t))) :
    Calls Tryz.prog 104 #[.agg #[.slice A n ca, .slice B 16 cb], .slice Wd nw cw] w fun e w' => e = .returned (.string ⟨(covText (covL s.1)).toArray⟩) ∧ Below w.heap.size w w' := by
  have p_bases : (h == [98, 97, 115, 101, 115]) = false := by rw [hh]; decide
  have p_cover : (h == [99, 111, 118, 101, 114]) = true := by rw [hh]; decide
  obtain ⟨bW, oW, rfl, hbW, hc0⟩ := hrW 0 _ (strs_get (ls := h :: t) (k := 0) (by simp))
  simp only [List.getD_cons_zero, Nat.add_zero] at hc0
  obtain rfl : nw = 1 := by omega
  clear hnw
  subst hmm
  obtain ⟨R, hR⟩ : ∃ R, covText (covL s.1) = R := ⟨_, rfl⟩
  rw [hR]
  have rS := Row.new w 83 [.slice A n ca, .slice B 16 cb]
  have B0 := bA1 (w := w) (o := .cells #[.slice A n ca, .slice B 16 cb] 83)
  have hr := hr.ext B0
  have hr2 := hr2.ext B0
  have hrW := hrW.ext B0
  have hc0 := (bcl B0 hbW _).trans hc0
  have hl16 := skyV_len hs
  have hcl := covL_len s.1
  have hcv := covV_cov s.1
  obtain ⟨c, hc⟩ : ∃ c, covL s.1 = c := ⟨_, rfl⟩
  rw [hc] at hcl hcv
  obtain ⟨c0, c1, _, _⟩ := rS.two
  have hn1 : (0 : Int) < 1 := by omega
  have hbW := Nat.lt_of_lt_of_le hbW B0.size
  have Hh := Lib.hid hh; clear hh
  have HR := Lib.hid hR; clear hR
  have Hn := Lib.hid hn; clear hn
  have Hv := Lib.hid hv; clear hv
  have Hs := Lib.hid hs; clear hs
  have Hl16 := Lib.hid hl16; clear hl16
  have Hcl := Lib.hid hcl; clear hcl
  have Hcv := Lib.hid hcv; clear hcv
  have Hc := Lib.hid hc; clear hc
  have Hln := Lib.hid hln; clear hln
  have Hm := Lib.hid hm; clear hm
  go_enter Tryz.func104, Tryz.ntmps104
  go_wp2_with fail
  refine (sCoverOf_yes A n ca s.1 _ Hn.out Hv.out hr).mono ?_
  rintro e w1 ⟨gc, rfl, hgc, rC, b1⟩
  rw [Hc.out] at rC
  have B1 := B0.trans (b1.mono B0.size)
  have hc0x := (bcl b1 hbW _).trans hc0
  clear hc0
  have hc0 := hc0x
  clear hc0x
  have hbWx := Nat.lt_of_lt_of_le hbW b1.size
  clear hbW
  have hbW := hbWx
  clear hbWx
  have extX := (hr.below b1).more b1.size; clear hr; have hr := extX; clear extX
  have extX := (hr2.below b1).more b1.size; clear hr2; have hr2 := extX; clear extX
  have extX := (hrW.below b1).more b1.size; clear hrW; have hrW := extX; clear extX
  have rS := rS.kept b1
  clear c0 c1
  obtain ⟨c0, c1, _, _⟩ := rS.two
  clear b1
  go_wp2_with fail
  refine (sCoverText_any (some ⟨gc, 0, none⟩) 16 16 c _ Hcl.out rC.rd).mono ?_
  rintro e w2 ⟨rfl, b2⟩
  have B2 := B1.trans (b2.mono B1.size)
  clear b2
  go_wp2_with fail
  go_ret
  exact ⟨by rw [← HR.out, Hc.out]; rfl, B2⟩

set_option maxRecDepth 100000 in
set_option maxHeartbeats 1000000 in
theorem l51Ask_beam (A B Wd : Option Addr) (n ca cb nw cw m : Nat) (h : Word) (t : List Word) (s : St) (w : World) (hh : h = wBeam) (hmm : m = 0) (hm : t.length = m) (hnw : nw = m + 1) (hb : m ≤ 1000) (hln : ∀ i, (t.getD i []).length ≤ 1000) (hn : s.1.length = n) (hk : n ≤ ca) (h7 : n ≤ 7) (hv : arrV s.1 = true) (hs : skyV s.2 = true) (hr : Rd w w.heap.size A (s.1.flatMap pairCells)) (hr2 : Rd w w.heap.size B (s.2.map (Value.int .i64))) (hrW : Rd w w.heap.size Wd (strs (h :: t))) :
    Calls Tryz.prog 104 #[.agg #[.slice A n ca, .slice B 16 cb], .slice Wd nw cw] w fun e w' => e = .returned (.string ⟨(skyStr (beamL (covL s.1))).toArray⟩) ∧ Below w.heap.size w w' := by
  have p_bases : (h == [98, 97, 115, 101, 115]) = false := by rw [hh]; decide
  have p_cover : (h == [99, 111, 118, 101, 114]) = false := by rw [hh]; decide
  have p_beam : (h == [98, 101, 97, 109]) = true := by rw [hh]; decide
  obtain ⟨bW, oW, rfl, hbW, hc0⟩ := hrW 0 _ (strs_get (ls := h :: t) (k := 0) (by simp))
  simp only [List.getD_cons_zero, Nat.add_zero] at hc0
  obtain rfl : nw = 1 := by omega
  clear hnw
  subst hmm
  obtain ⟨R, hR⟩ : ∃ R, skyStr (beamL (covL s.1)) = R := ⟨_, rfl⟩
  rw [hR]
  have rS := Row.new w 83 [.slice A n ca, .slice B 16 cb]
  have B0 := bA1 (w := w) (o := .cells #[.slice A n ca, .slice B 16 cb] 83)
  have hr := hr.ext B0
  have hr2 := hr2.ext B0
  have hrW := hrW.ext B0
  have hc0 := (bcl B0 hbW _).trans hc0
  have hl16 := skyV_len hs
  have hcl := covL_len s.1
  have hcv := covV_cov s.1
  obtain ⟨c, hc⟩ : ∃ c, covL s.1 = c := ⟨_, rfl⟩
  rw [hc] at hcl hcv
  obtain ⟨c0, c1, _, _⟩ := rS.two
  have hn1 : (0 : Int) < 1 := by omega
  have hbW := Nat.lt_of_lt_of_le hbW B0.size
  have Hh := Lib.hid hh; clear hh
  have HR := Lib.hid hR; clear hR
  have Hn := Lib.hid hn; clear hn
  have Hv := Lib.hid hv; clear hv
  have Hs := Lib.hid hs; clear hs
  have Hl16 := Lib.hid hl16; clear hl16
  have Hcl := Lib.hid hcl; clear hcl
  have Hcv := Lib.hid hcv; clear hcv
  have Hc := Lib.hid hc; clear hc
  have Hln := Lib.hid hln; clear hln
  have Hm := Lib.hid hm; clear hm
  go_enter Tryz.func104, Tryz.ntmps104
  go_wp2_with fail
  refine (sCoverOf_yes A n ca s.1 _ Hn.out Hv.out hr).mono ?_
  rintro e w1 ⟨gc, rfl, hgc, rC, b1⟩
  rw [Hc.out] at rC
  have B1 := B0.trans (b1.mono B0.size)
  have hc0x := (bcl b1 hbW _).trans hc0
  clear hc0
  have hc0 := hc0x
  clear hc0x
  have hbWx := Nat.lt_of_lt_of_le hbW b1.size
  clear hbW
  have hbW := hbWx
  clear hbWx
  have extX := (hr.below b1).more b1.size; clear hr; have hr := extX; clear extX
  have extX := (hr2.below b1).more b1.size; clear hr2; have hr2 := extX; clear extX
  have extX := (hrW.below b1).more b1.size; clear hrW; have hrW := extX; clear extX
  have rS := rS.kept b1
  clear c0 c1
  obtain ⟨c0, c1, _, _⟩ := rS.two
  clear b1
  have hbeam := sBeamOf_any (some ⟨gc, 0, none⟩) 16 16 c w1 Hcl.out rC.rd
  rw [Hcv.out, beamR_yes Hcv.out, beamL_len] at hbeam
  go_wp2_with fail
  refine hbeam.mono ?_
  rintro e w2 ⟨v, rfl, oB, b2⟩
  obtain ⟨Ab, cbm, rfl⟩ := own_form oB
  have rY := Rd.of_own oB
  have B2 := B1.trans (b2.mono B1.size)
  clear b2 hbeam oB
  go_wp2_with fail
  refine (l51Sky_any Ab 16 cbm (beamL c) true _ (beamL_len c) (by omega) rY).mono ?_
  rintro e w3 ⟨rfl, b3⟩
  have B3 := B2.trans (b3.mono B2.size)
  clear b3
  go_wp2_with fail
  go_ret
  exact ⟨by rw [← HR.out, Hc.out]; rfl, B3⟩

set_option maxRecDepth 100000 in
set_option maxHeartbeats 1000000 in
theorem l51Ask_dirty (A B Wd : Option Addr) (n ca cb nw cw m : Nat) (h : Word) (t : List Word) (s : St) (w : World) (hh : h = wDirty) (hmm : m = 0) (hm : t.length = m) (hnw : nw = m + 1) (hb : m ≤ 1000) (hln : ∀ i, (t.getD i []).length ≤ 1000) (hn : s.1.length = n) (hk : n ≤ ca) (h7 : n ≤ 7) (hv : arrV s.1 = true) (hs : skyV s.2 = true) (hr : Rd w w.heap.size A (s.1.flatMap pairCells)) (hr2 : Rd w w.heap.size B (s.2.map (Value.int .i64))) (hrW : Rd w w.heap.size Wd (strs (h :: t))) :
    Calls Tryz.prog 104 #[.agg #[.slice A n ca, .slice B 16 cb], .slice Wd nw cw] w fun e w' => e = .returned (.string ⟨(dirtyB s).toArray⟩) ∧ Below w.heap.size w w' := by
  have p_bases : (h == [98, 97, 115, 101, 115]) = false := by rw [hh]; decide
  have p_cover : (h == [99, 111, 118, 101, 114]) = false := by rw [hh]; decide
  have p_beam : (h == [98, 101, 97, 109]) = false := by rw [hh]; decide
  have p_dirty : (h == [100, 105, 114, 116, 121]) = true := by rw [hh]; decide
  obtain ⟨bW, oW, rfl, hbW, hc0⟩ := hrW 0 _ (strs_get (ls := h :: t) (k := 0) (by simp))
  simp only [List.getD_cons_zero, Nat.add_zero] at hc0
  obtain rfl : nw = 1 := by omega
  clear hnw
  subst hmm
  obtain ⟨R, hR⟩ : ∃ R, dirtyB s = R := ⟨_, rfl⟩
  rw [hR]
  have rS := Row.new w 83 [.slice A n ca, .slice B 16 cb]
  have B0 := bA1 (w := w) (o := .cells #[.slice A n ca, .slice B 16 cb] 83)
  have hr := hr.ext B0
  have hr2 := hr2.ext B0
  have hrW := hrW.ext B0
  have hc0 := (bcl B0 hbW _).trans hc0
  have hl16 := skyV_len hs
  have hcl := covL_len s.1
  have hcv := covV_cov s.1
  obtain ⟨c, hc⟩ : ∃ c, covL s.1 = c := ⟨_, rfl⟩
  rw [hc] at hcl hcv
  obtain ⟨c0, c1, _, _⟩ := rS.two
  have hn1 : (0 : Int) < 1 := by omega
  have hbW := Nat.lt_of_lt_of_le hbW B0.size
  have Hh := Lib.hid hh; clear hh
  have HR := Lib.hid hR; clear hR
  have Hn := Lib.hid hn; clear hn
  have Hv := Lib.hid hv; clear hv
  have Hs := Lib.hid hs; clear hs
  have Hl16 := Lib.hid hl16; clear hl16
  have Hcl := Lib.hid hcl; clear hcl
  have Hcv := Lib.hid hcv; clear hcv
  have Hc := Lib.hid hc; clear hc
  have Hln := Lib.hid hln; clear hln
  have Hm := Lib.hid hm; clear hm
  go_enter Tryz.func104, Tryz.ntmps104
  go_wp2_with fail
  refine (sCoverOf_yes A n ca s.1 _ Hn.out Hv.out hr).mono ?_
  rintro e w1 ⟨gc, rfl, hgc, rC, b1⟩
  rw [Hc.out] at rC
  have B1 := B0.trans (b1.mono B0.size)
  have hc0x := (bcl b1 hbW _).trans hc0
  clear hc0
  have hc0 := hc0x
  clear hc0x
  have hbWx := Nat.lt_of_lt_of_le hbW b1.size
  clear hbW
  have hbW := hbWx
  clear hbWx
  have extX := (hr.below b1).more b1.size; clear hr; have hr := extX; clear extX
  have extX := (hr2.below b1).more b1.size; clear hr2; have hr2 := extX; clear extX
  have extX := (hrW.below b1).more b1.size; clear hrW; have hrW := extX; clear extX
  have rS := rS.kept b1
  clear c0 c1
  obtain ⟨c0, c1, _, _⟩ := rS.two
  clear b1
  have hdirty := sDirtyOf_any B (some ⟨gc, 0, none⟩) 16 16 cb 16 s.2 c w1 Hl16.out Hcl.out (by omega) hr2 rC.rd
  go_wp2_with fail
  refine hdirty.mono ?_
  rintro e w3 ⟨v, rfl, oD, b3⟩
  obtain ⟨Ab, cbm, rfl⟩ := own_form oD
  have rY := Rd.of_own oD
  have B3 := B1.trans (b3.mono B1.size)
  clear b3 hdirty oD rC
  have hR := HR.out
  unfold dirtyB at hR
  rw [Hc.out] at hR
  cases hD : dirtyR s.2 c with
  | none =>
    rw [hD] at hR
    (try rw [hD] at rY)
    have e : R = oNo := hR.symm
    subst e
    clear hR HR
    simp only [Option.getD_none, Option.isSome_none, List.length_nil] at rY ⊢
    have HD := Lib.hid hD; clear hD
    go_wp2_with fail
    refine (l51Sky_any Ab 0 cbm [] false _ rfl (by omega) rY).mono ?_
    rintro e w4 ⟨rfl, b4⟩
    rw [if_neg (by decide)]
    have B4 := B3.trans (b4.mono B3.size)
    clear b4
    go_wp2_with fail
    go_ret
    exact ⟨rfl, B4⟩
  | some d =>
    rw [hD] at hR
    (try rw [hD] at rY)
    have e : R = skyStr d := hR.symm
    have hdl := skyV_len (dirtyR_some hD).1
    simp only [Option.getD_some, Option.isSome_some, hdl] at rY ⊢
    clear hR
    have HD := Lib.hid hD; clear hD
    have Hdl := Lib.hid hdl; clear hdl
    have E := Lib.hid e; clear e
    go_wp2_with fail
    refine (l51Sky_any Ab 16 cbm d true _ Hdl.out (by omega) rY).mono ?_
    rintro e w4 ⟨rfl, b4⟩
    rw [if_pos rfl]
    have B4 := B3.trans (b4.mono B3.size)
    clear b4
    go_wp2_with fail
    go_ret
    exact ⟨by rw [E.out]; rfl, B4⟩

set_option maxRecDepth 100000 in
set_option maxHeartbeats 1000000 in
theorem l51Ask_point (A B Wd : Option Addr) (n ca cb nw cw m : Nat) (h : Word) (t : List Word) (s : St) (w : World) (hh : h = wPoint) (hmm : m = 2) (hm : t.length = m) (hnw : nw = m + 1) (hb : m ≤ 1000) (hln : ∀ i, (t.getD i []).length ≤ 1000) (hn : s.1.length = n) (hk : n ≤ ca) (h7 : n ≤ 7) (hv : arrV s.1 = true) (hs : skyV s.2 = true) (hr : Rd w w.heap.size A (s.1.flatMap pairCells)) (hr2 : Rd w w.heap.size B (s.2.map (Value.int .i64))) (hrW : Rd w w.heap.size Wd (strs (h :: t))) :
    Calls Tryz.prog 104 #[.agg #[.slice A n ca, .slice B 16 cb], .slice Wd nw cw] w fun e w' => e = .returned (.string ⟨(pointB s.1 (num7 (t.getD 0 [])) (num7 (t.getD 1 []))).toArray⟩) ∧ Below w.heap.size w w' := by
  have p_bases : (h == [98, 97, 115, 101, 115]) = false := by rw [hh]; decide
  have p_cover : (h == [99, 111, 118, 101, 114]) = false := by rw [hh]; decide
  have p_beam : (h == [98, 101, 97, 109]) = false := by rw [hh]; decide
  have p_dirty : (h == [100, 105, 114, 116, 121]) = false := by rw [hh]; decide
  have p_point : (h == [112, 111, 105, 110, 116]) = true := by rw [hh]; decide
  obtain ⟨bW, oW, rfl, hbW, hc0⟩ := hrW 0 _ (strs_get (ls := h :: t) (k := 0) (by simp))
  simp only [List.getD_cons_zero, Nat.add_zero] at hc0
  obtain rfl : nw = 3 := by omega
  clear hnw
  subst hmm
  obtain ⟨R, hR⟩ : ∃ R, pointB s.1 (num7 (t.getD 0 [])) (num7 (t.getD 1 [])) = R := ⟨_, rfl⟩
  rw [hR]
  have rS := Row.new w 83 [.slice A n ca, .slice B 16 cb]
  have B0 := bA1 (w := w) (o := .cells #[.slice A n ca, .slice B 16 cb] 83)
  have hr := hr.ext B0
  have hr2 := hr2.ext B0
  have hrW := hrW.ext B0
  have hc0 := (bcl B0 hbW _).trans hc0
  have hl16 := skyV_len hs
  have hcl := covL_len s.1
  have hcv := covV_cov s.1
  obtain ⟨c, hc⟩ : ∃ c, covL s.1 = c := ⟨_, rfl⟩
  rw [hc] at hcl hcv
  obtain ⟨c0, c1, _, _⟩ := rS.two
  have hn1 : (0 : Int) < 3 := by omega
  have hbW := Nat.lt_of_lt_of_le hbW B0.size
  have Hh := Lib.hid hh; clear hh
  have HR := Lib.hid hR; clear hR
  have Hn := Lib.hid hn; clear hn
  have Hv := Lib.hid hv; clear hv
  have Hs := Lib.hid hs; clear hs
  have Hl16 := Lib.hid hl16; clear hl16
  have Hcl := Lib.hid hcl; clear hcl
  have Hcv := Lib.hid hcv; clear hcv
  have Hc := Lib.hid hc; clear hc
  have Hln := Lib.hid hln; clear hln
  have Hm := Lib.hid hm; clear hm
  go_enter Tryz.func104, Tryz.ntmps104
  go_wp2_with fail
  refine (sCoverOf_yes A n ca s.1 _ Hn.out Hv.out hr).mono ?_
  rintro e w1 ⟨gc, rfl, hgc, rC, b1⟩
  rw [Hc.out] at rC
  have B1 := B0.trans (b1.mono B0.size)
  have hc0x := (bcl b1 hbW _).trans hc0
  clear hc0
  have hc0 := hc0x
  clear hc0x
  have hbWx := Nat.lt_of_lt_of_le hbW b1.size
  clear hbW
  have hbW := hbWx
  clear hbWx
  have extX := (hr.below b1).more b1.size; clear hr; have hr := extX; clear extX
  have extX := (hr2.below b1).more b1.size; clear hr2; have hr2 := extX; clear extX
  have extX := (hrW.below b1).more b1.size; clear hrW; have hrW := extX; clear extX
  have rS := rS.kept b1
  clear c0 c1
  obtain ⟨c0, c1, _, _⟩ := rS.two
  clear b1
  have hd1 := hrW 1 _ (strs_get (ls := h :: t) (k := 1) (by have := Hm.out; simp; omega))
  have hd2 := hrW 2 _ (strs_get (ls := h :: t) (k := 2) (by have := Hm.out; simp; omega))
  obtain ⟨_, _, e1, _, hd1⟩ := hd1
  cases e1
  obtain ⟨_, _, e1, _, hd2⟩ := hd2
  cases e1
  simp only [List.getD_cons_succ] at hd1 hd2
  have hy1 := Hln.out 0
  have hy2 := Hln.out 1
  obtain ⟨y1, hye1⟩ : ∃ y, t.getD 0 [] = y := ⟨_, rfl⟩
  obtain ⟨y2, hye2⟩ : ∃ y, t.getD 1 [] = y := ⟨_, rfl⟩
  have hR := HR.out
  rw [hye1] at hd1 hy1
  rw [hye2] at hd2 hy2
  rw [hye1, hye2] at hR
  obtain ⟨P1, hP1⟩ : ∃ p, num7 y1 = p := ⟨_, rfl⟩
  obtain ⟨P2, hP2⟩ : ∃ p, num7 y2 = p := ⟨_, rfl⟩
  rw [hP1, hP2] at hR
  have f1 : ∀ w', Below w1.heap.size w1 w' → w'.cell? ⟨bW, oW + 1 * 1, none⟩ = some (.string ⟨y1.toArray⟩) := fun w' h => (h.cell (p := ⟨bW, oW + 1, none⟩) hbW).trans hd1
  have f2 : ∀ w', Below w1.heap.size w1 w' → w'.cell? ⟨bW, oW + 2 * 1, none⟩ = some (.string ⟨y2.toArray⟩) := fun w' h => (h.cell (p := ⟨bW, oW + 2, none⟩) hbW).trans hd2
  have LS : ∀ w', Below w1.heap.size w1 w' → (Instr.loadAt 26 (.pointer (some ⟨w.heap.size, 0, none⟩))).run Tryz.prog w' = .ok (.slice A n ca) w' := fun w' h => ld_one (by kernel_rfl) ((rS.kept h).cell 0)
  have Hye1 := Lib.hid hye1; clear hye1
  have Hye2 := Lib.hid hye2; clear hye2
  have HP1 := Lib.hid hP1; clear hP1
  have HP2 := Lib.hid hP2; clear hP2
  have HR := Lib.hid hR; clear hR
  clear hd1 hd2
  go_wp2_with fail
  refine wp_region_N [] [] (by kernel_rfl) (by kernel_rfl) ?_
  refine wpStill_go (v := .pointer (some ⟨w.heap.size, 0, none⟩)) rfl rfl (stays_run fun w' h => by simp [go_sem]) ?_
  simp only [Act.put, List.setIfInBounds_toArray, List.set_cons_succ, List.set_cons_zero]
  refine wpStill_go (v := .slice A n ca) rfl rfl (stays_run fun w' h => ex_load rfl rfl (LS w' h)) ?_
  simp only [Act.put, List.setIfInBounds_toArray, List.set_cons_succ, List.set_cons_zero]
  refine wpStill_go (v := .slice (some ⟨bW, oW, none⟩) 3 cw) rfl rfl (stays_run fun w' h => ex_move rfl rfl) ?_
  simp only [Act.put, List.setIfInBounds_toArray, List.set_cons_succ, List.set_cons_zero]
  refine wpStill_go (v := .pointer (some ⟨bW, oW + 1 * 1, none⟩)) rfl rfl (stays_run fun w' h => ex_index rfl (by kernel_rfl) (by kernel_rfl) rfl rfl ((by omega : 1 < 3))) ?_
  simp only [Act.put, List.setIfInBounds_toArray, List.set_cons_succ, List.set_cons_zero]
  refine wpStill_go (v := .string ⟨y1.toArray⟩) rfl rfl (stays_run fun w' h => ex_load rfl rfl (ld_one (by kernel_rfl) (f1 w' h))) ?_
  simp only [Act.put, List.setIfInBounds_toArray, List.set_cons_succ, List.set_cons_zero]
  refine wpStill_go (v := .int .i64 P1) rfl rfl (stays_call (f := 100) (args := #[.string ⟨y1.toArray⟩]) (fun w' h => by simp [go_sem]) (fun w' _ => (l41Number_any y1 w' (by omega)).mono fun _ _ h => ⟨by rw [h.1, HP1.out], h.2 ▸ Below.refl _ _⟩)) ?_
  simp only [Act.put, List.setIfInBounds_toArray, List.set_cons_succ, List.set_cons_zero]
  refine wpStill_go (v := .slice (some ⟨bW, oW, none⟩) 3 cw) rfl rfl (stays_run fun w' h => ex_move rfl rfl) ?_
  simp only [Act.put, List.setIfInBounds_toArray, List.set_cons_succ, List.set_cons_zero]
  refine wpStill_go (v := .pointer (some ⟨bW, oW + 2 * 1, none⟩)) rfl rfl (stays_run fun w' h => ex_index rfl (by kernel_rfl) (by kernel_rfl) rfl rfl ((by omega : 2 < 3))) ?_
  simp only [Act.put, List.setIfInBounds_toArray, List.set_cons_succ, List.set_cons_zero]
  refine wpStill_go (v := .string ⟨y2.toArray⟩) rfl rfl (stays_run fun w' h => ex_load rfl rfl (ld_one (by kernel_rfl) (f2 w' h))) ?_
  simp only [Act.put, List.setIfInBounds_toArray, List.set_cons_succ, List.set_cons_zero]
  refine wpStill_go (v := .int .i64 P2) rfl rfl (stays_call (f := 100) (args := #[.string ⟨y2.toArray⟩]) (fun w' h => by simp [go_sem]) (fun w' _ => (l41Number_any y2 w' (by omega)).mono fun _ _ h => ⟨by rw [h.1, HP2.out], h.2 ▸ Below.refl _ _⟩)) ?_
  simp only [Act.put, List.setIfInBounds_toArray, List.set_cons_succ, List.set_cons_zero]
  refine wpStill_go (v := .string ⟨R.toArray⟩) rfl rfl (stays_call (f := 139) (args := #[.slice A n ca, .int .i64 P1, .int .i64 P2]) (fun w' h => by simp [go_sem]) (fun w' _ => by rw [← HR.out]; exact l51Point_any A n ca s.1 P1 P2 w' Hn.out hk (by omega) (hr.ext ‹_›))) ?_
  simp only [Act.put, List.setIfInBounds_toArray, List.set_cons_succ, List.set_cons_zero]
  refine wpStill_go (v := .string ⟨R.toArray⟩) rfl rfl (stays_run fun w' h => by simp [go_sem]) ?_
  simp only [Act.put, List.setIfInBounds_toArray, List.set_cons_succ, List.set_cons_zero]
  refine wpStill_nil ?_
  repeat (refine wpMark_skip rfl ?_)
  refine wpMark_nil fun w5 h5 => ?_
  simp only [onlyN, Exit.then]
  have B5 := B1.trans (((Below.refl _ w1).drew.trans h5).mono B1.size)
  clear LS f1 f2 h5
  go_wp2_with fail
  go_ret
  exact ⟨rfl, B5⟩

set_option maxRecDepth 100000 in
set_option maxHeartbeats 1000000 in
theorem l51Ask_clean (A B Wd : Option Addr) (n ca cb nw cw m : Nat) (h : Word) (t : List Word) (s : St) (w : World) (hh : h = wClean) (hmm : m = 1) (hm : t.length = m) (hnw : nw = m + 1) (hb : m ≤ 1000) (hln : ∀ i, (t.getD i []).length ≤ 1000) (hn : s.1.length = n) (hk : n ≤ ca) (h7 : n ≤ 7) (hv : arrV s.1 = true) (hs : skyV s.2 = true) (hr : Rd w w.heap.size A (s.1.flatMap pairCells)) (hr2 : Rd w w.heap.size B (s.2.map (Value.int .i64))) (hrW : Rd w w.heap.size Wd (strs (h :: t))) :
    Calls Tryz.prog 104 #[.agg #[.slice A n ca, .slice B 16 cb], .slice Wd nw cw] w fun e w' => e = .returned (.string ⟨(cleanB s (num7 (t.getD 0 []))).toArray⟩) ∧ Below w.heap.size w w' := by
  have p_bases : (h == [98, 97, 115, 101, 115]) = false := by rw [hh]; decide
  have p_cover : (h == [99, 111, 118, 101, 114]) = false := by rw [hh]; decide
  have p_beam : (h == [98, 101, 97, 109]) = false := by rw [hh]; decide
  have p_dirty : (h == [100, 105, 114, 116, 121]) = false := by rw [hh]; decide
  have p_point : (h == [112, 111, 105, 110, 116]) = false := by rw [hh]; decide
  obtain ⟨bW, oW, rfl, hbW, hc0⟩ := hrW 0 _ (strs_get (ls := h :: t) (k := 0) (by simp))
  simp only [List.getD_cons_zero, Nat.add_zero] at hc0
  obtain rfl : nw = 2 := by omega
  clear hnw
  subst hmm
  obtain ⟨R, hR⟩ : ∃ R, cleanB s (num7 (t.getD 0 [])) = R := ⟨_, rfl⟩
  rw [hR]
  have rS := Row.new w 83 [.slice A n ca, .slice B 16 cb]
  have B0 := bA1 (w := w) (o := .cells #[.slice A n ca, .slice B 16 cb] 83)
  have hr := hr.ext B0
  have hr2 := hr2.ext B0
  have hrW := hrW.ext B0
  have hc0 := (bcl B0 hbW _).trans hc0
  have hl16 := skyV_len hs
  have hcl := covL_len s.1
  have hcv := covV_cov s.1
  obtain ⟨c, hc⟩ : ∃ c, covL s.1 = c := ⟨_, rfl⟩
  rw [hc] at hcl hcv
  obtain ⟨c0, c1, _, _⟩ := rS.two
  have hn1 : (0 : Int) < 2 := by omega
  have hbW := Nat.lt_of_lt_of_le hbW B0.size
  have Hh := Lib.hid hh; clear hh
  have HR := Lib.hid hR; clear hR
  have Hn := Lib.hid hn; clear hn
  have Hv := Lib.hid hv; clear hv
  have Hs := Lib.hid hs; clear hs
  have Hl16 := Lib.hid hl16; clear hl16
  have Hcl := Lib.hid hcl; clear hcl
  have Hcv := Lib.hid hcv; clear hcv
  have Hc := Lib.hid hc; clear hc
  have Hln := Lib.hid hln; clear hln
  have Hm := Lib.hid hm; clear hm
  go_enter Tryz.func104, Tryz.ntmps104
  go_wp2_with fail
  refine (sCoverOf_yes A n ca s.1 _ Hn.out Hv.out hr).mono ?_
  rintro e w1 ⟨gc, rfl, hgc, rC, b1⟩
  rw [Hc.out] at rC
  have B1 := B0.trans (b1.mono B0.size)
  have hc0x := (bcl b1 hbW _).trans hc0
  clear hc0
  have hc0 := hc0x
  clear hc0x
  have hbWx := Nat.lt_of_lt_of_le hbW b1.size
  clear hbW
  have hbW := hbWx
  clear hbWx
  have extX := (hr.below b1).more b1.size; clear hr; have hr := extX; clear extX
  have extX := (hr2.below b1).more b1.size; clear hr2; have hr2 := extX; clear extX
  have extX := (hrW.below b1).more b1.size; clear hrW; have hrW := extX; clear extX
  have rS := rS.kept b1
  clear c0 c1
  obtain ⟨c0, c1, _, _⟩ := rS.two
  clear b1
  have hd1 := hrW 1 _ (strs_get (ls := h :: t) (k := 1) (by have := Hm.out; simp; omega))
  obtain ⟨_, _, e1, _, hd1⟩ := hd1
  cases e1
  simp only [List.getD_cons_succ] at hd1
  have hy1 := Hln.out 0
  obtain ⟨y1, hye1⟩ : ∃ y, t.getD 0 [] = y := ⟨_, rfl⟩
  have hR := HR.out
  rw [hye1] at hd1 hy1 hR
  obtain ⟨P1, hP1⟩ : ∃ p, num7 y1 = p := ⟨_, rfl⟩
  rw [hP1] at hR
  have f1 : ∀ w', Below w1.heap.size w1 w' → w'.cell? ⟨bW, oW + 1 * 1, none⟩ = some (.string ⟨y1.toArray⟩) := fun w' h => (h.cell (p := ⟨bW, oW + 1, none⟩) hbW).trans hd1
  have LS : ∀ w', Below w1.heap.size w1 w' → (Instr.loadAt 83 (.pointer (some ⟨w.heap.size, 0, none⟩))).run Tryz.prog w' = .ok (.agg #[.slice A n ca, .slice B 16 cb]) w' := fun w' h => ld_two (by kernel_rfl) (by kernel_rfl) ((rS.kept h).cell 0) ((rS.kept h).cell 1)
  have Hye1 := Lib.hid hye1; clear hye1
  have HP1 := Lib.hid hP1; clear hP1
  have HR := Lib.hid hR; clear hR
  clear hd1
  go_wp2_with fail
  refine wp_region_N [] [] (by kernel_rfl) (by kernel_rfl) ?_
  refine wpStill_go (v := .agg #[.slice A n ca, .slice B 16 cb]) rfl rfl (stays_run fun w' h => ex_load rfl rfl (LS w' h)) ?_
  simp only [Act.put, List.setIfInBounds_toArray, List.set_cons_succ, List.set_cons_zero]
  refine wpStill_go (v := .slice (some ⟨bW, oW, none⟩) 2 cw) rfl rfl (stays_run fun w' h => ex_move rfl rfl) ?_
  simp only [Act.put, List.setIfInBounds_toArray, List.set_cons_succ, List.set_cons_zero]
  refine wpStill_go (v := .pointer (some ⟨bW, oW + 1 * 1, none⟩)) rfl rfl (stays_run fun w' h => ex_index rfl (by kernel_rfl) (by kernel_rfl) rfl rfl ((by omega : 1 < 2))) ?_
  simp only [Act.put, List.setIfInBounds_toArray, List.set_cons_succ, List.set_cons_zero]
  refine wpStill_go (v := .string ⟨y1.toArray⟩) rfl rfl (stays_run fun w' h => ex_load rfl rfl (ld_one (by kernel_rfl) (f1 w' h))) ?_
  simp only [Act.put, List.setIfInBounds_toArray, List.set_cons_succ, List.set_cons_zero]
  refine wpStill_go (v := .int .i64 P1) rfl rfl (stays_call (f := 100) (args := #[.string ⟨y1.toArray⟩]) (fun w' h => by simp [go_sem]) (fun w' _ => (l41Number_any y1 w' (by omega)).mono fun _ _ h => ⟨by rw [h.1, HP1.out], h.2 ▸ Below.refl _ _⟩)) ?_
  simp only [Act.put, List.setIfInBounds_toArray, List.set_cons_succ, List.set_cons_zero]
  refine wpStill_go (v := .string ⟨R.toArray⟩) rfl rfl (stays_call (f := 140) (args := #[.agg #[.slice A n ca, .slice B 16 cb], .int .i64 P1]) (fun w' h => by simp [go_sem]) (fun w' _ => by rw [← HR.out]; exact l51Clean_any A B n ca cb s.1 s.2 P1 w' Hn.out Hv.out Hs.out (hr.ext ‹_›) (hr2.ext ‹_›))) ?_
  simp only [Act.put, List.setIfInBounds_toArray, List.set_cons_succ, List.set_cons_zero]
  refine wpStill_go (v := .string ⟨R.toArray⟩) rfl rfl (stays_run fun w' h => by simp [go_sem]) ?_
  simp only [Act.put, List.setIfInBounds_toArray, List.set_cons_succ, List.set_cons_zero]
  refine wpStill_nil ?_
  repeat (refine wpMark_skip rfl ?_)
  refine wpMark_nil fun w5 h5 => ?_
  simp only [onlyN, Exit.then]
  have B5 := B1.trans (((Below.refl _ w1).drew.trans h5).mono B1.size)
  clear LS f1 h5
  go_wp2_with fail
  go_ret
  exact ⟨rfl, B5⟩

theorem l51Ask_no (A B Wd : Option Addr) (n ca cb nw cw m : Nat) (h : Word) (t : List Word) (s : St) (w : World) (hm : t.length = m) (hn : s.1.length = n) (h7 : n ≤ 7) (hv : arrV s.1 = false) (hr : Rd w w.heap.size A (s.1.flatMap pairCells)) :
    Calls Tryz.prog 104 #[.agg #[.slice A n ca, .slice B 16 cb], .slice Wd nw cw] w fun e w' => e = .returned (.string ⟨(oNo).toArray⟩) ∧ Below w.heap.size w w' := by
  have rS := Row.new w 83 [.slice A n ca, .slice B 16 cb]
  have B0 := bA1 (w := w) (o := .cells #[.slice A n ca, .slice B 16 cb] 83)
  have hr := hr.ext B0
  obtain ⟨c0, c1, _, _⟩ := rS.two
  have Hm := Lib.hid hm; clear hm
  have Hn := Lib.hid hn; clear hn
  have Hv := Lib.hid hv; clear hv
  go_enter Tryz.func104, Tryz.ntmps104
  go_wp2_with fail
  refine (sCoverOf_no A n ca s.1 _ Hn.out (by omega) Hv.out hr).mono ?_
  rintro e w1 ⟨D, d, rfl, b1⟩
  have B1 := B0.trans (b1.mono B0.size)
  clear b1
  go_wp2_with fail
  go_ret
  exact ⟨rfl, B1⟩
/-- What asking returns. -/
theorem l51Ask_any (A B Wd : Option Addr) (n ca cb nw cw m : Nat) (h : Word) (t : List Word) (s : St) (w : World) (hkn : knownW h m = true) (hm : t.length = m) (hnw : nw = m + 1) (hb : m ≤ 1000) (hln : ∀ i, (t.getD i []).length ≤ 1000) (hn : s.1.length = n) (hk : n ≤ ca) (h7 : n ≤ 7) (hs : skyV s.2 = true) (hr : Rd w w.heap.size A (s.1.flatMap pairCells)) (hr2 : Rd w w.heap.size B (s.2.map (Value.int .i64))) (hrW : Rd w w.heap.size Wd (strs (h :: t))) :
    Calls Tryz.prog 104 #[.agg #[.slice A n ca, .slice B 16 cb], .slice Wd nw cw] w fun e w' => e = .returned (.string ⟨(if arrV s.1 then askB s h t else oNo).toArray⟩) ∧ Below w.heap.size w w' := by
  obtain ⟨_, _, _, hw⟩ := known_ask hkn
  cases hv : arrV s.1
  · exact l51Ask_no A B Wd n ca cb nw cw m h t s w hm hn h7 hv hr
  · rw [if_pos rfl]
    rcases hw with hw | hw | hw | hw | hw | hw
    · rw [show askB s h t = basesB s.1 by rw [hw]; rfl]
      exact l51Ask_bases A B Wd n ca cb nw cw m h t s w hw (by rw [hw] at hkn; simpa [knownW] using hkn) hm hnw hb hln hn hk h7 hv hs hr hr2 hrW
    · rw [show askB s h t = covText (covL s.1) by rw [hw]; rfl]
      exact l51Ask_cover A B Wd n ca cb nw cw m h t s w hw (by rw [hw] at hkn; simpa [knownW] using hkn) hm hnw hb hln hn hk h7 hv hs hr hr2 hrW
    · rw [show askB s h t = skyStr (beamL (covL s.1)) by rw [hw]; rfl]
      exact l51Ask_beam A B Wd n ca cb nw cw m h t s w hw (by rw [hw] at hkn; simpa [knownW] using hkn) hm hnw hb hln hn hk h7 hv hs hr hr2 hrW
    · rw [show askB s h t = dirtyB s by rw [hw]; rfl]
      exact l51Ask_dirty A B Wd n ca cb nw cw m h t s w hw (by rw [hw] at hkn; simpa [knownW] using hkn) hm hnw hb hln hn hk h7 hv hs hr hr2 hrW
    · rw [show askB s h t = pointB s.1 (num7 (t.getD 0 [])) (num7 (t.getD 1 [])) by rw [hw]; rfl]
      exact l51Ask_point A B Wd n ca cb nw cw m h t s w hw (by rw [hw] at hkn; revert hkn; unfold knownW; rw [if_neg (by decide), if_pos rfl]; simp) hm hnw hb hln hn hk h7 hv hs hr hr2 hrW
    · rw [show askB s h t = cleanB s (num7 (t.getD 0 [])) by rw [hw]; rfl]
      exact l51Ask_clean A B Wd n ca cb nw cw m h t s w hw (by rw [hw] at hkn; revert hkn; unfold knownW; rw [if_neg (by decide), if_neg (by decide), if_pos rfl]; simp) hm hnw hb hln hn hk h7 hv hs hr hr2 hrW
end Go.Proofs.YtipgpafgampfbaaGreatDoor
