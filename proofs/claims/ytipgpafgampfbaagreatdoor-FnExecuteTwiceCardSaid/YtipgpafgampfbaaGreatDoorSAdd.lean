/- 'spec.SkyAdd' of valid skies. -/
import Derived.Test.YtipgpafgampfbaaGreatDoorShiftS
import Derived.Test.YtipgpafgampfbaaGreatDoorSkyD
namespace Go.Proofs.YtipgpafgampfbaaGreatDoor
open Go.RowKit

set_option maxRecDepth 100000 in
set_option maxHeartbeats 1000000 in
theorem sSkyAdd_yes (A B : Option Addr) (ca cb : Nat) (a b : List Int) (m : Int) (w : World) (h1 : skyV a = true) (h2 : skyV b = true) (hm : -100000 ≤ m ∧ m ≤ 100000)
    (hr : Rd w w.heap.size A (a.map (Value.int .i64))) (hr2 : Rd w w.heap.size B (b.map (Value.int .i64))) :
    Calls Tryz.prog 202 #[.slice A 16 ca, .slice B 16 cb, .int .i64 m] w fun e w' => ∃ v n, e = .returned (.tuple #[v, .bool (skyV (addS a b m))]) ∧ (skyV (addS a b m) = true → n = 16) ∧ w'.ownsRow w.heap.size 3 1 v n (((addS a b m).take n).map (Value.int .i64)) ∧ Below w.heap.size w w' := by
  obtain ⟨i0, hi, hz0, hz1, hz2⟩ := info_parts intInfo
  have hla := skyV_len h1
  have hlb := skyV_len h2
  have hbd : ∀ k, k < 16 → (-100000 ≤ a.getD k 0 ∧ a.getD k 0 ≤ 100000) ∧ (-100000 ≤ b.getD k 0 ∧ b.getD k 0 ≤ 100000) := fun k hk => ⟨(skyV_iff.1 h1).2 _ (getD_mem (by omega)), (skyV_iff.1 h2).2 _ (getD_mem (by omega))⟩
  have hi1 : inR m (-100000) 100000 = true := inR_iff.2 hm
  have r0 := Row.new w 3 []
  have b0 := bA1 (w := w) (o := .cells #[] 3)
  have hrA := hr.ext b0
  have hrB := hr2.ext b0
  have o0 := r0.own (base := w.heap.size) (n := 0) (size := 1) (Nat.le_refl _) rfl (by decide)
  have hal := addS_len a b m
  have Hbd := Lib.hid hbd
  clear hbd
  have H1 := Lib.hid h1; clear h1
  have H2 := Lib.hid h2; clear h2
  have Hla := Lib.hid hla; clear hla
  have Hlb := Lib.hid hlb; clear hlb
  have Hi1 := Lib.hid hi1; clear hi1
  have Hal := Lib.hid hal; clear hal
  clear r0
  go_enter Tryz.func202, Tryz.ntmps202
  go_wp2_with fail
  refine (sSkyValid_any A 16 ca a _ Hla.out (by omega) hrA).mono ?_
  rintro e w1 ⟨rfl, rfl⟩
  rw [H1.out]
  go_wp2_with fail
  refine (sSkyValid_any B 16 cb b _ Hlb.out (by omega) hrB).mono ?_
  rintro e w1 ⟨rfl, rfl⟩
  rw [H2.out]
  go_wp2_with fail
  refine (l6In_any m (-100000) 100000 _).mono ?_
  rintro e w2 ⟨rfl, rfl⟩
  rw [Hi1.out]
  go_wp2_with fail
  clear hrA hrB
  go_loopw [8, 9] (fun v i wr => ∃ k : Nat, k ≤ 16 ∧ i = .int .i64 k ∧ wr.ownsRow w.heap.size 3 1 v k (((addS a b m).take k).map (Value.int .i64)) ∧ Below w.heap.size w wr) (fun _ i _ => 16 - (intOf i).toNat)
  case atStart => exact ⟨0, by omega, rfl, o0, b0⟩
  case round =>
    clear o0 b0
    obtain ⟨k, hk, rfl, hrow, hbel⟩ := hrel
    have hbs := hbel.size
    have Hrow := Lib.hid hrow; clear hrow
    go_wp2_with fail
    refine (l21Cells_any _).mono ?_
    rintro e w9 ⟨rfl, rfl⟩
    by_cases hlt : k < 16
    · have hk16 : (k : Int) < 16 := by omega
      obtain ⟨bA, oA, rfl, hbA, hcA⟩ := (hr.below hbel) k _ (ints_get (by rw [Hla.out]; exact hlt))
      obtain ⟨bB, oB, rfl, hbB, hcB⟩ := (hr2.below hbel) k _ (ints_get (by rw [Hlb.out]; exact hlt))
      have hxy := Hbd.out k hlt
      have hts := take_succ_getD (l := addS a b m) (d := 0) (k := k) (by rw [Hal.out]; exact hlt)
      rw [addS_get _ _ _ _ hlt] at hts
      obtain ⟨x, hx⟩ : ∃ x, a.getD k 0 = x := ⟨_, rfl⟩
      obtain ⟨y, hy⟩ : ∃ y, b.getD k 0 = y := ⟨_, rfl⟩
      rw [hx] at hcA hxy hts
      rw [hy] at hcB hxy hts
      have hmy := mul_bd m y 100000 100000 (by omega) (by omega)
      simp only [Int.reduceMul, Int.reduceNeg] at hmy
      obtain ⟨p, hp⟩ : ∃ p, m * y = p := ⟨_, rfl⟩
      rw [hp] at hmy hts
      have i1 : IntKind.i64.wrap (m * y) = p := by rw [hp]; exact IntWalk.i64_in _ (by omega)
      have i2 : IntKind.i64.wrap (x + p) = x + p := IntWalk.i64_in _ (by omega)
      obtain ⟨Av, cv, e3⟩ := own_form Hrow.out
      subst e3
      have f1 : ∀ w', Below wr.heap.size wr w' → w'.cell? ⟨bA, oA + k * 1, none⟩ = some (.int .i64 x) := fun w' h => by rw [Nat.mul_one]; exact (h.cell (p := ⟨bA, oA + k, none⟩) (by exact Nat.lt_of_lt_of_le hbA hbs)).trans hcA
      have f2 : ∀ w', Below wr.heap.size wr w' → w'.cell? ⟨bB, oB + k * 1, none⟩ = some (.int .i64 y) := fun w' h => by rw [Nat.mul_one]; exact (h.cell (p := ⟨bB, oB + k, none⟩) (by exact Nat.lt_of_lt_of_le hbB hbs)).trans hcB
      have Hts := Lib.hid hts; clear hts
      have Hx := Lib.hid hx; clear hx
      have Hy := Lib.hid hy; clear hy
      have I1 := Lib.hid i1; clear i1
      have I2 := Lib.hid i2; clear i2
      clear hcA hcB
      go_wp2_with fail
      refine wp_region_N [12, 13, 14] [13, 14] (by kernel_rfl) (by kernel_rfl) ?_
      refine wpStill_go (v := .slice Av k cv) rfl rfl (stays_run fun w' h => ex_move rfl rfl) ?_
      simp only [Act.put, List.setIfInBounds_toArray, List.set_cons_succ, List.set_cons_zero]
      refine wpStill_go (v := .slice (some ⟨bA, oA, none⟩) 16 ca) rfl rfl (stays_run fun w' h => ex_move rfl rfl) ?_
      simp only [Act.put, List.setIfInBounds_toArray, List.set_cons_succ, List.set_cons_zero]
      refine wpStill_go (v := .int .i64 k) rfl rfl (stays_run fun w' h => ex_move rfl rfl) ?_
      simp only [Act.put, List.setIfInBounds_toArray, List.set_cons_succ, List.set_cons_zero]
      refine wpStill_go (v := .pointer (some ⟨bA, oA + k * 1, none⟩)) rfl rfl (stays_run fun w' h => ex_index rfl (by kernel_rfl) (by kernel_rfl) rfl rfl (hlt)) ?_
      simp only [Act.put, List.setIfInBounds_toArray, List.set_cons_succ, List.set_cons_zero]
      refine wpStill_go (v := .int .i64 x) rfl rfl (stays_run fun w' h => ex_load rfl rfl (ld_one (by kernel_rfl) (f1 w' h))) ?_
      simp only [Act.put, List.setIfInBounds_toArray, List.set_cons_succ, List.set_cons_zero]
      refine wpStill_go (v := .int .i64 m) rfl rfl (stays_run fun w' h => ex_move rfl rfl) ?_
      simp only [Act.put, List.setIfInBounds_toArray, List.set_cons_succ, List.set_cons_zero]
      refine wpStill_go (v := .slice (some ⟨bB, oB, none⟩) 16 cb) rfl rfl (stays_run fun w' h => ex_move rfl rfl) ?_
      simp only [Act.put, List.setIfInBounds_toArray, List.set_cons_succ, List.set_cons_zero]
      refine wpStill_go (v := .int .i64 k) rfl rfl (stays_run fun w' h => ex_move rfl rfl) ?_
      simp only [Act.put, List.setIfInBounds_toArray, List.set_cons_succ, List.set_cons_zero]
      refine wpStill_go (v := .pointer (some ⟨bB, oB + k * 1, none⟩)) rfl rfl (stays_run fun w' h => ex_index rfl (by kernel_rfl) (by kernel_rfl) rfl rfl (hlt)) ?_
      simp only [Act.put, List.setIfInBounds_toArray, List.set_cons_succ, List.set_cons_zero]
      refine wpStill_go (v := .int .i64 y) rfl rfl (stays_run fun w' h => ex_load rfl rfl (ld_one (by kernel_rfl) (f2 w' h))) ?_
      simp only [Act.put, List.setIfInBounds_toArray, List.set_cons_succ, List.set_cons_zero]
      refine wpStill_go (v := .int .i64 p) rfl rfl (stays_run fun w' h => by simp [go_sem, I1.out]) ?_
      simp only [Act.put, List.setIfInBounds_toArray, List.set_cons_succ, List.set_cons_zero]
      refine wpStill_go (v := .int .i64 (x + p)) rfl rfl (stays_run fun w' h => by simp [go_sem, I2.out]) ?_
      simp only [Act.put, List.setIfInBounds_toArray, List.set_cons_succ, List.set_cons_zero]
      refine wpStill_skip rfl ?_
      refine wpStill_skip rfl ?_
      refine wpStill_skip rfl ?_
      refine wpStill_nil ?_
      repeat (refine wpMark_skip rfl ?_)
      refine wpMark_go rfl (fun w3 h3w K hK => ?_)
      go_wp2_with fail
      have hW1 : ∀ o, Below wr.heap.size wr (w3.alloc o) := fun o => ((Below.refl _ _).drew.trans h3w).alloc h3w.size o
      refine hK _ _ (fun _ => hW1 _) ?_
      clear hK
      refine wpMark_go rfl (fun w4 h4w K hK => ?_)
      have hE : Below wr.heap.size wr w4 := (hW1 _).trans (h4w.mono (hW1 _).size)
      have hn := (Row.new w3 3 [.int .i64 (x + p)]).kept h4w
      refine wpList_append_own w4 rfl _ _ 32 rfl w.heap.size 3 i0 (.int .i64 0) 1 8 (by kernel_rfl) hi hz0 hz1 hz2 rfl (by decide) (.slice Av k cv) k _ rfl (own_ext Hrow.out hE)
        ⟨w3.heap.size, 0, none⟩ 1 1 [.int .i64 (x + p)] rfl rfl (fun j u hj => by rw [← hj, ← hn.cell j]; exact congrArg _ (addr_add _ _)) (by simp [Value.oneCell']) (by unfold maxLen; omega) (by omega) (Nat.le_trans hbs hE.size) ?_
      intro v' w5 hown' hgrow _
      obtain ⟨g', cap', rfl⟩ := ownsRow_succ hown'
      have hb5 : Below w.heap.size w w5 := (hbel.trans (hE.mono hbs)).grown hgrow (Nat.le_trans hbs hE.size) fun j hj => (own_lt (own_ext Hrow.out hE) hj).1
      have Hown' := Lib.hid hown'; clear hown'
      have Hb5 := Lib.hid hb5; clear hb5
      clear hgrow hn
      simp only [Act.put, List.setIfInBounds_toArray, List.set_cons_succ, List.set_cons_zero]
      go_wp2_with fail
      refine hK _ _ (fun h => absurd h (by decide)) ?_
      clear hK
      refine wpMark_go rfl (fun w6 h6w K hK => ?_)
      go_wp2_with fail
      refine hK _ _ (fun h => absurd h (by decide)) (wpMark_nil fun w7 h7 => ?_)
      simp only [onlyN]
      clear hK
      have h67 := h6w.trans h7
      have Hown7 := Lib.hid (own_ext Hown'.out h67)
      have Hb7 := Lib.hid (Hb5.out.trans (h67.mono Hb5.out.size))
      clear h6w h7 h67 hE hW1 f1 f2
      go_wp2_with fail
      go_roundw
      case measure => simp [intOf]; omega
      case rel =>
        refine ⟨k + 1, by omega, by go_num, ?_, Hb7.out⟩
        rw [Hts.out, List.map_append]
        exact Hown7.out
    · obtain rfl : k = 16 := by omega
      obtain ⟨A3, c3, e3⟩ := own_form Hrow.out
      subst e3
      have hal := Hal.out
      have hT : (addS a b m).take 16 = addS a b m := List.take_of_length_le (by omega)
      have hr3 := Rd.of_own Hrow.out
      rw [hT] at hr3
      obtain ⟨ok, hok⟩ : ∃ ok, skyV (addS a b m) = ok := ⟨_, rfl⟩
      have HT := Lib.hid hT; clear hT
      go_wp2_with fail
      refine (sSkyValid_any A3 16 c3 _ _ hal (by omega) hr3).mono ?_
      rintro e w3 ⟨rfl, rfl⟩
      rw [hok]
      cases ok
      · have Hok := Lib.hid hok; clear hok
        have Hal := Lib.hid hal; clear hal
        have Hr3 := Lib.hid hr3; clear hr3
        go_wp2_with fail
        go_ret2
        exact ⟨.slice (some ⟨wr.heap.size, 0, none⟩) 0 0, 0, (by rw [Hok.out]; rfl), (fun h => by rw [Hok.out] at h; cases h), (show World.ownsRow _ w.heap.size 3 1 (.slice (some ⟨wr.heap.size, 0, none⟩) 0 0) 0 [] from (Row.new wr 3 []).own hbs rfl (by decide)), hbel.alloc hbs _⟩
      · have Hok := Lib.hid hok; clear hok
        have Hal := Lib.hid hal; clear hal
        have Hr3 := Lib.hid hr3; clear hr3
        go_wp2_with fail
        go_ret2
        exact ⟨.slice A3 16 c3, 16, (by rw [Hok.out]; rfl), fun _ => rfl, Hrow.out, hbel⟩
end Go.Proofs.YtipgpafgampfbaaGreatDoor
