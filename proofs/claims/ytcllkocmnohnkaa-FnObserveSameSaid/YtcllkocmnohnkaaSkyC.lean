/- 'SkyFold', 'SkySum', 'CoverHoles' and the laws' 'spot'. -/
import Derived.Test.YtcllkocmnohnkaaSkyB
import Derived.Test.YtcllkocmnohnkaaBeamS
namespace Go.Proofs.Ytcllkocmnohnkaa
open Go.RowKit

def foldR (a b : List Int) : Option (List Int) := if (skyV a && skyV b) = true ∧ skyV (foldL a b) = true then some (foldL a b) else none
set_option maxHeartbeats 1000000 in
theorem skyFold_any (A B : Option Addr) (na nb ca cb : Nat) (a b : List Int) (w : World) (hla : a.length = na) (hlb : b.length = nb) (hna : na ≤ 1000) (hnb : nb ≤ 1000)
    (hr : Rd w w.heap.size A (a.map (Value.int .i64))) (hr2 : Rd w w.heap.size B (b.map (Value.int .i64))) :
    Calls Try.prog 33 #[.slice A na ca, .slice B nb cb] w fun e w' => ∃ v, e = .returned (.tuple #[v, .bool (foldR a b).isSome]) ∧ w'.ownsRow w.heap.size 3 1 v ((foldR a b).getD []).length (((foldR a b).getD []).map (Value.int .i64)) ∧ Below w.heap.size w w' := by
  have Hla := Lib.hid hla; clear hla
  have Hlb := Lib.hid hlb; clear hlb
  cases h1 : skyV a
  · have hR : foldR a b = none := by unfold foldR; rw [h1]; rfl
    rw [hR]
    have H1 := Lib.hid h1; clear h1
    clear hR
    go_enter Try.func33, Try.ntmps33
    go_wp2_with fail
    refine (skyValid_any A na ca a _ Hla.out (by omega) hr).mono ?_
    rintro e w1 ⟨rfl, rfl⟩
    rw [H1.out]
    go_wp2_with fail
    refine bodyPost_ret (v := .tuple #[.slice none 0 0, .bool false]) (by simp [results, Try.results33, go_sem]) rfl ⟨_, rfl, World.ownsRow_nil _ _ _ _, Below.refl _ _⟩
  · cases h2 : skyV b
    · have hR : foldR a b = none := by unfold foldR; rw [h1, h2]; rfl
      rw [hR]
      have H1 := Lib.hid h1; clear h1
      have H2 := Lib.hid h2; clear h2
      clear hR
      go_enter Try.func33, Try.ntmps33
      go_wp2_with fail
      refine (skyValid_any A na ca a _ Hla.out (by omega) hr).mono ?_
      rintro e w1 ⟨rfl, rfl⟩
      rw [H1.out]
      go_wp2_with fail
      refine (skyValid_any B nb cb b _ Hlb.out (by omega) hr2).mono ?_
      rintro e w1 ⟨rfl, rfl⟩
      rw [H2.out]
      go_wp2_with fail
      refine bodyPost_ret (v := .tuple #[.slice none 0 0, .bool false]) (by simp [results, Try.results33, go_sem]) rfl ⟨_, rfl, World.ownsRow_nil _ _ _ _, Below.refl _ _⟩
    · obtain rfl : na = 16 := by rw [← Hla.out]; exact skyV_len h1
      obtain rfl : nb = 16 := by rw [← Hlb.out]; exact skyV_len h2
      have hR : foldR a b = if skyV (foldL a b) then some (foldL a b) else none := by
        unfold foldR
        cases hc : skyV (foldL a b)
        · rw [if_neg (by rintro ⟨_, h⟩; cases h)]; rfl
        · rw [if_pos ⟨by rw [h1, h2]; rfl, rfl⟩]; rfl
      have hba := iLe_sky h1
      have hbb := iLe_sky h2
      have H1 := Lib.hid h1; clear h1
      have H2 := Lib.hid h2; clear h2
      have Hba := Lib.hid hba; clear hba
      have Hbb := Lib.hid hbb; clear hbb
      have HR := Lib.hid hR; clear hR
      go_enter Try.func33, Try.ntmps33
      go_wp2_with fail
      refine (skyValid_any A 16 ca a _ Hla.out (by omega) hr).mono ?_
      rintro e w1 ⟨rfl, rfl⟩
      rw [H1.out]
      go_wp2_with fail
      refine (skyValid_any B 16 cb b _ Hlb.out (by omega) hr2).mono ?_
      rintro e w1 ⟨rfl, rfl⟩
      rw [H2.out]
      go_wp2_with fail
      refine (fold_any A B ca cb a b _ Hla.out Hlb.out Hba.out Hbb.out hr hr2).mono ?_
      rintro e w2 ⟨g, rfl, hg, r2, b2⟩
      go_wp2_with fail
      refine (skyChecked_any _ 16 16 (foldL a b) _ (foldL_len _ _) (by omega) r2.rd).mono ?_
      rintro e w3 ⟨rfl, rfl⟩
      have r2' := okS_own r2 hg (foldL_len a b) (skyV (foldL a b))
      have hR2 : (foldR a b).isSome = skyV (foldL a b) := by rw [HR.out]; cases skyV (foldL a b) <;> rfl
      have hR3 : (foldR a b).getD [] = if skyV (foldL a b) then foldL a b else [] := by rw [HR.out]; cases skyV (foldL a b) <;> rfl
      have hR4 : ((foldR a b).getD []).length = if skyV (foldL a b) then 16 else 0 := by rw [hR3]; cases skyV (foldL a b) <;> simp [foldL_len]
      have R2' := Lib.hid r2'; clear r2'
      have HR2 := Lib.hid hR2; clear hR2
      have HR3 := Lib.hid hR3; clear hR3
      have HR4 := Lib.hid hR4; clear hR4
      clear r2
      go_wp2_with fail
      refine bodyPost_ret (by simp [results, Try.results33, go_sem]; rfl) rfl ⟨_, by rw [HR2.out], ?_, b2⟩
      rw [HR4.out, HR3.out]
      exact R2'.out

set_option maxHeartbeats 1000000 in
theorem coverHoles_yes (A : Option Addr) (cap : Nat) (c : List Bool) (w : World) (hv : covV c = true) (hr : Rd w w.heap.size A (c.map Value.bool)) :
    Calls Try.prog 34 #[.slice A 16 cap] w fun e w' => e = .returned (.tuple #[.slice (some ⟨w.heap.size, 0, none⟩) 16 16, .bool true]) ∧ Row w' w.heap.size 4 ((holesC c).map Value.bool) ∧ Below w.heap.size w w' := by
  obtain ⟨Z, hZ⟩ : ∃ Z, List.replicate 16 (Value.bool false) = Z := ⟨_, rfl⟩
  have hmk : ∀ W : World, (Instr.makeSlice 23 (.int .i64 16) (.int .i64 16)).run Try.prog W = .ok (.slice (some ⟨W.heap.size, 0, none⟩) 16 16) (W.alloc (.cells Z.toArray 4)) := fun W => by
    rw [← hZ]; exact run_make1 (P := Try.prog) 23 4 (.bool false) 1 Try.underlying23 (by kernel_rfl) rfl 16 (by omega) (by omega) W
  have hl := covV_len hv
  have hhl : (holesC c).length = 16 := by unfold holesC; rw [List.length_map]; exact hl
  have hz2 : Z = (part false (holesC c) 0).map Value.bool := by
    rw [← hZ]; unfold part; rw [hhl]; rfl
  have r0 := Row.new w 4 Z
  have Hz2 := Lib.hid hz2
  clear hZ hz2
  have Hv := Lib.hid hv
  have Hl := Lib.hid hl; clear hl
  have Hhl := Lib.hid hhl; clear hhl
  go_enter Try.func34, Try.ntmps34
  go_wp2_with fail
  refine (coverValid_any A 16 cap c _ w.heap.size Hl.out hr).mono ?_
  rintro e w1 ⟨rfl, rfl⟩
  rw [hv]
  clear hv
  go_wp2_with fail
  clear hmk
  go_loopw [14] (fun i wr => ∃ k : Nat, k ≤ 16 ∧ i = .int .i64 k ∧ Row wr w.heap.size 4 ((part false (holesC c) k).map Value.bool) ∧ Below w.heap.size w wr) (fun i _ => 16 - (intOf i).toNat)
  case atStart => exact ⟨0, by omega, rfl, by rw [← Hz2.out]; exact r0, (Below.refl _ _).alloc (Nat.le_refl _) _⟩
  case round =>
    clear r0
    obtain ⟨k, hk, rfl, hrow, hbel⟩ := hrel
    by_cases hlt : k < 16
    · have hk16 : (k : Int) < 16 := by omega
      obtain ⟨b, off, rfl, hb, hc⟩ := (hr.below hbel) k _ (bools_get (by rw [Hl.out]; exact hlt))
      have hg := holesC_get Hl.out k hlt
      have hg? : (holesC c)[k]? = some ((holesC c).getD k false) := by
        rw [List.getD_eq_getElem?_getD, List.getElem?_eq_getElem (by rw [Hhl.out]; exact hlt)]; rfl
      rw [hg] at hg?
      have hps := part_succ false (holesC c) k _ hg?
      have hpg := part_get false (holesC c) k (by rw [Hhl.out]; exact hlt)
      have ck := hrow.cell k
      rw [List.getElem?_map, hpg] at ck
      simp only [Option.map_some] at ck
      have fk := hrow.frozen k
      generalize c.getD k false = x at *
      have r2 := hrow.set_ k (.bool !x)
      rw [← List.map_set, hps] at r2
      have B2 := hbel.setCell (p := ⟨w.heap.size, k, none⟩) (Nat.le_refl _) (.bool !x)
      have Hg := Lib.hid hg; clear hg
      have Hg? := Lib.hid hg?; clear hg?
      have Hps := Lib.hid hps; clear hps
      have Hpg := Lib.hid hpg; clear hpg
      have R2 := Lib.hid r2; clear r2
      have hidX := Lib.hid B2; clear B2; have B2 := hidX; clear hidX
      clear hrow hbel
      go_wp2_with fail
      go_roundw
      case measure => simp [intOf]; omega
      case rel => exact ⟨k + 1, by omega, by go_num, R2.out, B2.out⟩
    · obtain rfl : k = 16 := by omega
      rw [show part false (holesC c) 16 = holesC c from by have := part_all false (holesC c); rwa [Hhl.out] at this] at hrow
      have Hrow := Lib.hid hrow
      clear hrow
      go_wp2_with fail
      refine bodyPost_ret (v := .tuple #[.slice (some ⟨w.heap.size, 0, none⟩) 16 16, .bool true]) (by simp [results, Try.results34, go_sem]) rfl ⟨rfl, Hrow.out, hbel⟩

theorem spot_any (i : Nat) (n : Int) (w : World) (hi : i < 16) :
    Calls Try.prog 36 #[.int .i64 i, .int .i64 n] w fun e w' => e = .returned (.slice (some ⟨w.heap.size, 0, none⟩) 16 16) ∧ Row w' w.heap.size 3 ((spotL i n).map (Value.int .i64)) ∧ Below w.heap.size w w' := by
  obtain ⟨Z, hZ⟩ : ∃ Z, List.replicate 16 (Value.int .i64 0) = Z := ⟨_, rfl⟩
  have hmk : ∀ W : World, (Instr.makeSlice 25 (.int .i64 16) (.int .i64 16)).run Try.prog W = .ok (.slice (some ⟨W.heap.size, 0, none⟩) 16 16) (W.alloc (.cells Z.toArray 3)) := fun W => by
    rw [← hZ]; exact run_make1 (P := Try.prog) 25 3 (.int .i64 0) 8 Try.underlying25 (by kernel_rfl) rfl 16 (by omega) (by omega) W
  have r0 := Row.new w 3 Z
  have hz2 : Z = zeros16.map (Value.int .i64) := by rw [← hZ]; rfl
  have r0' := r0
  rw [hz2] at r0'
  have c0 := r0'.cell i
  rw [ints_get (by simp [zeros16]; exact hi), zeros16_get] at c0
  have f0 := r0'.frozen i
  rw [← hz2] at c0 f0
  have R1 := Lib.hid (Row.new w 3 (Z.set i (.int .i64 n)))
  have he : Z.set i (.int .i64 n) = (spotL i n).map (Value.int .i64) := by unfold spotL; rw [List.map_set, ← hz2]
  have hii : (i : Int) < 16 := by omega
  have He := Lib.hid he; clear he
  clear r0 r0' hZ hz2
  go_enter Try.func36, Try.ntmps36
  go_wp2_with fail
  go_ret
  exact ⟨rfl, by rw [← He.out]; exact R1.out, bA1⟩
end Go.Proofs.Ytcllkocmnohnkaa
