/- 'spec.SkyShift' of a valid sky. -/
import Derived.Test.YtipgpafgampfbaaGreatDoorPeakS
namespace Go.Proofs.YtipgpafgampfbaaGreatDoor
open Go.RowKit

set_option maxRecDepth 100000 in
set_option maxHeartbeats 1000000 in
theorem sSkyShift_yes (A : Option Addr) (ca : Nat) (s : List Int) (d : Nat) (w : World) (hv : skyV s = true) (hd : d < 16) (hr : Rd w w.heap.size A (s.map (Value.int .i64))) :
    Calls Tryz.prog 201 #[.slice A 16 ca, .int .i64 ((d : Int) % 4), .int .i64 ((d : Int) / 4)] w fun e w' => ∃ g, e = .returned (.tuple #[.slice (some ⟨g, 0, none⟩) 16 16, .bool true]) ∧ w.heap.size ≤ g ∧ Row w' g 3 ((shL s d).map (Value.int .i64)) ∧ Below w.heap.size w w' := by
  obtain ⟨Z, hZ⟩ : ∃ Z, List.replicate 16 (Value.int .i64 0) = Z := ⟨_, rfl⟩
  have hmk : ∀ W : World, (Instr.makeSlice 32 (.int .i64 16) (.int .i64 16)).run Tryz.prog W = .ok (.slice (some ⟨W.heap.size, 0, none⟩) 16 16) (W.alloc (.cells Z.toArray 3)) := fun W => by
    rw [← hZ]; exact run_make1 (P := Tryz.prog) 32 3 (.int .i64 0) 8 Tryz.underlying32 (by kernel_rfl) rfl 16 (by omega) (by omega) W
  have hz2 := hZ.symm.trans (shK_zero s d)
  have Hz2 := Lib.hid hz2
  clear hZ hz2
  have hl := skyV_len hv
  have Hl := Lib.hid hl; clear hl
  have Hv := Lib.hid hv; clear hv
  have hd1 : 0 ≤ (d : Int) % 4 ∧ (d : Int) % 4 ≤ 3 := by omega
  have hd2 : 0 ≤ (d : Int) / 4 ∧ (d : Int) / 4 ≤ 3 := by omega
  have hcell : ∀ k : Nat, k < 16 → ∀ w, Calls Tryz.prog 66 #[.int .i64 ((k : Int) % 4 + (d : Int) % 4), .int .i64 ((k : Int) / 4 + (d : Int) / 4)] w fun e w' => e = .returned (.int .i64 ((addC k d : Nat) : Int)) ∧ w = w' := fun k hk w => by
    have h := l21At_any ((k : Int) % 4 + (d : Int) % 4) ((k : Int) / 4 + (d : Int) / 4) w
    have e : cellI ((k : Int) % 4 + (d : Int) % 4) ((k : Int) / 4 + (d : Int) / 4) = ((addC k d : Nat) : Int) := by unfold cellI addC; omega
    rwa [e] at h
  have Hcell := Lib.hid hcell
  clear hcell
  obtain ⟨p, hp⟩ : ∃ p : Int, (d : Int) % 4 = p := ⟨_, rfl⟩
  obtain ⟨q, hq⟩ : ∃ q : Int, (d : Int) / 4 = q := ⟨_, rfl⟩
  have Hcell := Lib.hid (show ∀ k : Nat, k < 16 → ∀ w, Calls Tryz.prog 66 #[.int .i64 ((k : Int) % 4 + p), .int .i64 ((k : Int) / 4 + q)] w fun e w' => e = .returned (.int .i64 ((addC k d : Nat) : Int)) ∧ w = w' from by rw [← hp, ← hq]; exact Hcell.out)
  rw [hp, hq]
  rw [hp] at hd1
  rw [hq] at hd2
  clear hp hq
  have hi1 : inR p 0 3 = true := inR_iff.2 hd1
  have hi2 : inR q 0 3 = true := inR_iff.2 hd2
  have Hi1 := Lib.hid hi1; clear hi1
  have Hi2 := Lib.hid hi2; clear hi2
  go_enter Tryz.func201, Tryz.ntmps201
  go_wp2_with fail
  refine (sSkyValid_any A 16 ca s _ Hl.out (by omega) hr).mono ?_
  rintro e w1 ⟨rfl, rfl⟩
  rw [Hv.out]
  go_wp2_with fail
  refine (l6In_any p 0 3 _).mono ?_
  rintro e w2 ⟨rfl, rfl⟩
  rw [Hi1.out]
  go_wp2_with fail
  refine (l6In_any q 0 3 _).mono ?_
  rintro e w2 ⟨rfl, rfl⟩
  rw [Hi2.out]
  go_wp2_with fail
  refine (l21Cells_any _).mono ?_
  rintro e w' ⟨rfl, rfl⟩
  have r0 := Row.new w 3 Z
  go_wp2_with fail
  clear hmk
  go_loopw [9] (fun i wr => ∃ k : Nat, k ≤ 16 ∧ i = .int .i64 k ∧ Row wr w.heap.size 3 ((shK s d k).map (Value.int .i64)) ∧ Below w.heap.size w wr) (fun i _ => 16 - (intOf i).toNat)
  case atStart => exact ⟨0, by omega, rfl, by rw [← Hz2.out]; exact r0, (Below.refl _ _).alloc (Nat.le_refl _) _⟩
  case round =>
    clear r0
    obtain ⟨k, hk, rfl, hrow, hbel⟩ := hrel
    go_wp2_with fail
    refine (l21Cells_any _).mono ?_
    rintro e w9 ⟨rfl, rfl⟩
    by_cases hlt : k < 16
    · have hk16 : (k : Int) < 16 := by omega
      obtain ⟨b, off, rfl, hb, hc⟩ := (hr.below hbel) k _ (ints_get (by rw [Hl.out]; exact hlt))
      have hset := shK_set s d k hd hlt
      have ho := addC_lt k d
      have hlen := shK_len s d k
      have hkc := Hcell.out k hlt
      obtain ⟨x, hx⟩ : ∃ x, s.getD k 0 = x := ⟨_, rfl⟩
      obtain ⟨o, hoo⟩ : ∃ o, addC k d = o := ⟨_, rfl⟩
      obtain ⟨S, hSS⟩ : ∃ S, shK s d k = S := ⟨_, rfl⟩
      rw [hx] at hc hset
      rw [hoo] at hset ho hkc
      rw [hSS] at hset hlen hrow
      clear hx hoo hSS
      have ck : (S.map (Value.int .i64))[o]? = some (.int .i64 (S.getD o 0)) := ints_get (by rw [hlen]; exact ho)
      obtain ⟨z, hz⟩ : ∃ z, S.getD o 0 = z := ⟨_, rfl⟩
      rw [hz] at ck
      have hbs := hbel.size
      have hgl := hrow.lt
      obtain ⟨u, hu⟩ : ∃ u : Int, (k : Int) % 4 = u := ⟨_, rfl⟩
      obtain ⟨v, hv'⟩ : ∃ v : Int, (k : Int) / 4 = v := ⟨_, rfl⟩
      rw [hu, hv'] at hkc
      have t1 : ((k : Int)).tmod 4 = u := by rw [Int.tmod_eq_emod_of_nonneg (by omega)]; exact hu
      have t2 : ((k : Int)).tdiv 4 = v := by rw [Int.tdiv_eq_ediv_of_nonneg (by omega)]; exact hv'
      have j0 : IntKind.i64.wrap v = v := IntWalk.i64_in _ (by omega)
      have j1 : IntKind.i64.wrap (u + p) = u + p := IntWalk.i64_in _ (by omega)
      have j2 : IntKind.i64.wrap (v + q) = v + q := IntWalk.i64_in _ (by omega)
      have f1 : ∀ w', Below wr.heap.size wr w' → w'.cell? ⟨b, off + k * 1, none⟩ = some (.int .i64 x) := fun w' h => by rw [Nat.mul_one]; exact (h.cell (p := ⟨b, off + k, none⟩) (by exact Nat.lt_of_lt_of_le hb hbs)).trans hc
      have Hset := Lib.hid hset; clear hset
      have Hlen := Lib.hid hlen; clear hlen
      have Hkc := Lib.hid hkc; clear hkc
      have Ck := Lib.hid ck; clear ck
      have T1 := Lib.hid t1; clear t1
      have T2 := Lib.hid t2; clear t2
      have J0 := Lib.hid j0; clear j0
      have J1 := Lib.hid j1; clear j1
      have J2 := Lib.hid j2; clear j2
      have Hz := Lib.hid hz; clear hz
      have Hu := Lib.hid hu; clear hu
      have Hv' := Lib.hid hv'; clear hv'
      go_wp2_with fail
      refine wp_region_N [15] [15] (by kernel_rfl) (by kernel_rfl) ?_
      refine wpStill_go (v := .slice (some ⟨w.heap.size, 0, none⟩) 16 16) rfl rfl (stays_run fun w' h => ex_move rfl rfl) ?_
      simp only [Act.put, List.setIfInBounds_toArray, List.set_cons_succ, List.set_cons_zero]
      refine wpStill_go (v := .int .i64 k) rfl rfl (stays_run fun w' h => ex_move rfl rfl) ?_
      simp only [Act.put, List.setIfInBounds_toArray, List.set_cons_succ, List.set_cons_zero]
      refine wpStill_go (v := .int .i64 u) rfl rfl (stays_run fun w' h => by simp [go_sem, T1.out]) ?_
      simp only [Act.put, List.setIfInBounds_toArray, List.set_cons_succ, List.set_cons_zero]
      refine wpStill_go (v := .int .i64 p) rfl rfl (stays_run fun w' h => ex_move rfl rfl) ?_
      simp only [Act.put, List.setIfInBounds_toArray, List.set_cons_succ, List.set_cons_zero]
      refine wpStill_go (v := .int .i64 (u + p)) rfl rfl (stays_run fun w' h => by simp [go_sem, J1.out]) ?_
      simp only [Act.put, List.setIfInBounds_toArray, List.set_cons_succ, List.set_cons_zero]
      refine wpStill_go (v := .int .i64 k) rfl rfl (stays_run fun w' h => ex_move rfl rfl) ?_
      simp only [Act.put, List.setIfInBounds_toArray, List.set_cons_succ, List.set_cons_zero]
      refine wpStill_go (v := .int .i64 v) rfl rfl (stays_run fun w' h => by simp [go_sem, T2.out, J0.out]) ?_
      simp only [Act.put, List.setIfInBounds_toArray, List.set_cons_succ, List.set_cons_zero]
      refine wpStill_go (v := .int .i64 q) rfl rfl (stays_run fun w' h => ex_move rfl rfl) ?_
      simp only [Act.put, List.setIfInBounds_toArray, List.set_cons_succ, List.set_cons_zero]
      refine wpStill_go (v := .int .i64 (v + q)) rfl rfl (stays_run fun w' h => by simp [go_sem, J2.out]) ?_
      simp only [Act.put, List.setIfInBounds_toArray, List.set_cons_succ, List.set_cons_zero]
      refine wpStill_go (v := .int .i64 (o : Nat)) rfl rfl (stays_call (f := 66) (args := #[.int .i64 (u + p), .int .i64 (v + q)]) (fun w' h => by simp [go_sem]) (fun w' _ => (Hkc.out w').mono (fun _ _ h => ⟨h.1, h.2 ▸ Below.refl _ _⟩))) ?_
      simp only [Act.put, List.setIfInBounds_toArray, List.set_cons_succ, List.set_cons_zero]
      refine wpStill_go (v := .slice (some ⟨b, off, none⟩) 16 ca) rfl rfl (stays_run fun w' h => ex_move rfl rfl) ?_
      simp only [Act.put, List.setIfInBounds_toArray, List.set_cons_succ, List.set_cons_zero]
      refine wpStill_go (v := .int .i64 k) rfl rfl (stays_run fun w' h => ex_move rfl rfl) ?_
      simp only [Act.put, List.setIfInBounds_toArray, List.set_cons_succ, List.set_cons_zero]
      refine wpStill_go (v := .pointer (some ⟨b, off + k * 1, none⟩)) rfl rfl (stays_run fun w' h => ex_index rfl (by kernel_rfl) (by kernel_rfl) rfl rfl (hlt)) ?_
      simp only [Act.put, List.setIfInBounds_toArray, List.set_cons_succ, List.set_cons_zero]
      refine wpStill_go (v := .int .i64 x) rfl rfl (stays_run fun w' h => ex_load rfl rfl (ld_one (by kernel_rfl) (f1 w' h))) ?_
      simp only [Act.put, List.setIfInBounds_toArray, List.set_cons_succ, List.set_cons_zero]
      refine wpStill_go (v := .pointer (some ⟨w.heap.size, 0 + o * 1, none⟩)) rfl rfl (stays_run fun w' h => ex_index rfl (by kernel_rfl) (by kernel_rfl) rfl rfl (ho)) ?_
      simp only [Act.put, List.setIfInBounds_toArray, List.set_cons_succ, List.set_cons_zero]
      refine wpStill_skip rfl ?_
      refine wpStill_nil ?_
      repeat (refine wpMark_skip rfl ?_)
      refine wpMark_go rfl (fun m1 hm1 K hK => ?_)
      have E1 := (Below.refl wr.heap.size wr).drew.trans hm1
      have rm := hrow.kept E1
      have d0 := rm.cell o
      rw [Ck.out] at d0
      have f0 := rm.frozen o
      go_wp2_with fail
      refine hK _ _ (fun h => absurd h (by decide)) (wpMark_nil fun m6 hm6 => ?_)
      simp only [onlyN]
      have r6 := (rm.set_ o (.int .i64 x)).kept hm6
      rw [← List.map_set, Hset.out] at r6
      have B1 := hbel.trans (E1.mono hbs)
      have B2 := B1.setCell (p := ⟨w.heap.size, o, none⟩) (Nat.le_refl _) (.int .i64 x)
      have B3 := B2.trans (hm6.mono B2.size)
      clear f1 d0 f0 rm E1 hK hc
      have R6 := Lib.hid r6
      clear r6
      go_wp2_with fail
      go_roundw
      case measure => simp [intOf]; omega
      case rel => exact ⟨k + 1, by omega, by go_num, R6.out, B3⟩
    · obtain rfl : k = 16 := by omega
      rw [shK_all] at hrow
      have Hrow := Lib.hid hrow; clear hrow
      go_wp2_with fail
      go_ret2
      exact ⟨w.heap.size, rfl, Nat.le_refl _, Hrow.out, hbel⟩
end Go.Proofs.YtipgpafgampfbaaGreatDoor
