/- The laws' texts of antennas. -/
import Derived.Test.YtipgpafgampfbaaGreatDoorRunU
import Derived.Test.YtipgpafgampfbaaGreatDoorRunO
namespace Go.Proofs.YtipgpafgampfbaaGreatDoor
open Go.RowKit

set_option maxHeartbeats 1000000 in
set_option maxRecDepth 100000 in
/-- The laws' numeral is the library's. -/
theorem digitsK_any (k : Nat) : ∀ (n : Int) (w : World), (n < 0 → 2 * n.natAbs + 1 < k) ∧ (0 ≤ n → 2 * n.natAbs < k) → -1000000000 ≤ n → n ≤ 1000000000 →
    Calls Tryz.prog 37 #[.int .i64 n] w fun e w' => e = .returned (.string ⟨(Lib.itoa n).toArray⟩) ∧ Below w.heap.size w w' := by
  induction k with
  | zero => intro n w hk; omega
  | succ k ih =>
    intro n w hk h0 h1
    by_cases hneg : n < 0
    · have hn0 : ¬ 9223372036854775807 < -n := by omega
      go_enter Tryz.func37, Tryz.ntmps37
      go_wp2_with fail
      refine (ih (-n) _ (by omega) (by omega) (by omega)).mono ?_
      rintro e w1 ⟨rfl, hb⟩
      have hs : ¬ 9223372036854775807 < 1 + (Lib.itoa (-n)).length := by have := itoa_short (n := -n) (by omega) (by omega); omega
      go_wp2_with fail
      go_ret
      exact ⟨by rw [← itoa_neg hneg]; rfl, hb⟩
    · by_cases h10 : n < 10
      · have hcv := conv1 (w.alloc (.cells #[.int .u8 (48 + n)] 5)) w.heap.size 1 n (by omega) ((Row.new w 5 [.int .u8 (48 + n)]).cell 0)
        go_enter Tryz.func37, Tryz.ntmps37
        go_wp2_with fail
        go_ret
        exact ⟨rfl, (Below.refl _ _).alloc (Nat.le_refl _) _⟩
      · go_enter Tryz.func37, Tryz.ntmps37
        go_wp2_with fail
        refine wp_region_N [7, 8, 9, 10] [] (by kernel_rfl) (by kernel_rfl) ?_
        refine wpStill_go (v := .int .i64 n) rfl rfl (stays_run fun w' h => ex_move rfl rfl) ?_
        simp only [Act.put, List.setIfInBounds_toArray, List.set_cons_succ, List.set_cons_zero]
        refine wpStill_go (v := .int .i64 (n / 10)) rfl rfl (stays_run fun w' h => by simp [go_sem]; rw [Int.tdiv_eq_ediv_of_nonneg (by omega), IntKind.wrap_i64] <;> omega) ?_
        simp only [Act.put, List.setIfInBounds_toArray, List.set_cons_succ, List.set_cons_zero]
        refine wpStill_go (v := .string ⟨(Lib.itoa (n / 10)).toArray⟩) rfl rfl (stays_call (f := 37) (args := #[.int .i64 (n / 10)]) (fun w' h => by simp [go_sem]) (fun w' _ => ih (n / 10) w' (by omega) (by omega) (by omega))) ?_
        simp only [Act.put, List.setIfInBounds_toArray, List.set_cons_succ, List.set_cons_zero]
        refine wpStill_go (v := .int .i64 n) rfl rfl (stays_run fun w' h => ex_move rfl rfl) ?_
        simp only [Act.put, List.setIfInBounds_toArray, List.set_cons_succ, List.set_cons_zero]
        refine wpStill_go (v := .int .i64 (n % 10)) rfl rfl (stays_run fun w' h => by simp [go_sem]; exact Int.tmod_eq_emod_of_nonneg (by omega)) ?_
        simp only [Act.put, List.setIfInBounds_toArray, List.set_cons_succ, List.set_cons_zero]
        refine wpStill_go (v := .int .i64 (48 + n % 10)) rfl rfl (stays_run fun w' h => by simp [go_sem]; rw [IntKind.wrap_i64] <;> omega) ?_
        simp only [Act.put, List.setIfInBounds_toArray, List.set_cons_succ, List.set_cons_zero]
        refine wpStill_go (v := .int .u8 (48 + n % 10)) rfl rfl (stays_run fun w' h => by simp [go_sem]; rw [IntKind.wrap_u8] <;> omega) ?_
        simp only [Act.put, List.setIfInBounds_toArray, List.set_cons_succ, List.set_cons_zero]
        refine wpStill_skip rfl (wpStill_skip rfl (wpStill_skip rfl (wpStill_skip rfl (wpStill_nil ?_))))
        repeat (refine wpMark_skip rfl ?_)
        refine wpMark_go rfl (fun w1 h1 K hK => ?_)
        go_wp2_with fail
        refine hK _ _ (fun _ => ((Below.refl _ _).drew.trans h1).alloc h1.size _) ?_
        clear hK
        refine wpMark_go rfl (fun w2 h2 K hK => ?_)
        have e1 := (Row.new w1 5 [.int .u8 (48 + n % 10)]).kept h2
        have hcv := conv1 w2 w1.heap.size 1 (n % 10) (by omega) (e1.cell 0)
        go_wp2_with fail
        have F3 := (((Below.refl _ _).drew.trans h1).alloc h1.size (.cells #[.int .u8 (48 + n % 10)] 5)).trans (h2.mono (((Below.refl _ _).drew.trans h1).alloc h1.size (.cells #[.int .u8 (48 + n % 10)] 5)).size)
        refine hK _ _ (fun _ => F3) (wpMark_go rfl (fun w4 h4 K hK => ?_))
        have F4 := F3.trans (h4.mono F3.size)
        have hs : ¬ 9223372036854775807 < (Lib.itoa (n / 10)).length + (Lib.itoa (n % 10)).length := by
          have := itoa_short (n := n / 10) (by omega) (by omega)
          have := itoa_short (n := n % 10) (by omega) (by omega)
          omega
        go_wp2_with fail
        refine hK _ _ (fun _ => F4) (wpMark_go rfl (fun w5 h5 K hK => ?_))
        go_wp2_with fail
        refine hK _ _ (fun _ => F4.trans (h5.mono F4.size)) (wpMark_nil fun w6 h6 => ?_)
        simp only [onlyN, Exit.then]
        go_wp2_with fail
        go_ret
        exact ⟨by rw [← itoa_more (n := n) (by omega)]; rfl, (F4.trans (h5.mono F4.size)).trans (h6.mono (F4.trans (h5.mono F4.size)).size)⟩
theorem digits_any (n : Int) (h : -1000000000 ≤ n ∧ n ≤ 1000000000) (w : World) :
    Calls Tryz.prog 37 #[.int .i64 n] w fun e w' => e = .returned (.string ⟨(Lib.itoa n).toArray⟩) ∧ Below w.heap.size w w' :=
  digitsK_any (2 * n.natAbs + 2) n w ⟨fun _ => by omega, fun _ => by omega⟩ h.1 h.2
/-- A line that adds an antenna. -/
def antLine (a : Int × Int) : List UInt8 := (((([97, 110, 116, 32] ++ Lib.itoa a.1) ++ [32]) ++ Lib.itoa a.2) ++ [10])
def antsB (xs : List (Int × Int)) : List UInt8 := xs.flatMap antLine
theorem antsB_snoc (xs : List (Int × Int)) (a : Int × Int) : antsB (xs ++ [a]) = ((((antsB xs ++ [97, 110, 116, 32]) ++ Lib.itoa a.1) ++ [32]) ++ Lib.itoa a.2) ++ [10] := by unfold antsB antLine; rw [List.flatMap_append]; simp
theorem antLine_small {a : Int × Int} (h : -1000000 ≤ a.1 ∧ a.1 ≤ 1000000) (h2 : -1000000 ≤ a.2 ∧ a.2 ≤ 1000000) : (antLine a).length ≤ 50 := by
  have i1 := itoa_small (n := a.1) (by omega)
  have i2 := itoa_small (n := a.2) (by omega)
  unfold antLine; simp; omega
theorem antsB_small {xs : List (Int × Int)} (h : gLe 1000000 xs) : (antsB xs).length ≤ 50 * xs.length := by
  unfold antsB
  induction xs with
  | nil => simp
  | cons a t ih =>
    have := ih fun x hx => h x (by simp [hx])
    have := antLine_small (h a (by simp)).1 (h a (by simp)).2
    rw [List.flatMap_cons, List.length_append, List.length_cons]; omega
def oksB (n : Nat) : List UInt8 := (List.range n).flatMap fun _ => oOk
theorem oksB_succ (n : Nat) : oksB (n + 1) = oksB n ++ oOk := by unfold oksB; rw [List.range_succ, List.flatMap_append]; simp
theorem oksB_len (n : Nat) : (oksB n).length = 3 * n := by
  induction n with
  | zero => rfl
  | succ k ih => rw [oksB_succ, List.length_append, ih]; simp [oOk]; omega

set_option maxRecDepth 100000 in
set_option maxHeartbeats 1000000 in
theorem antLines_any (A : Option Addr) (n cap : Nat) (xs : List (Int × Int)) (w : World) (hn : xs.length = n) (hb : n ≤ 100) (hg : gLe 1000000 xs) (hr : Rd w w.heap.size A (xs.flatMap pairCells)) :
    Calls Tryz.prog 23 #[.slice A n cap] w fun e w' => e = .returned (.string ⟨(antsB xs).toArray⟩) ∧ Below w.heap.size w w' := by
  have Hn := Lib.hid hn; clear hn
  go_enter Tryz.func23, Tryz.ntmps23
  go_wp2_with fail
  go_loopw [3, 4] (fun o i wr => ∃ k : Nat, k ≤ n ∧ i = .int .i64 k ∧ o = .string ⟨(antsB (xs.take k)).toArray⟩ ∧ Below w.heap.size w wr) (fun _ i _ => n - (intOf i).toNat)
  case atStart => exact ⟨0, by omega, rfl, rfl, Below.refl _ _⟩
  case round =>
    obtain ⟨k, hk, rfl, rfl, hbel⟩ := hrel
    have hr' := hr.ext hbel
    have hsm := antsB_small (xs := xs.take k) fun x hx => hg x (List.mem_of_mem_take hx)
    rw [List.length_take] at hsm
    by_cases hlt : k < n
    · obtain ⟨a, ha⟩ : ∃ a, xs[k]? = some a := ⟨_, List.getElem?_eq_getElem (by rw [Hn.out]; exact hlt)⟩
      obtain ⟨b, off, rfl, hb2, hc1, hc2⟩ := rd_pair hr' ha
      obtain ⟨g1, g2⟩ := hg a (List.mem_of_getElem? ha)
      have hts : antsB (xs.take (k + 1)) = ((((antsB (xs.take k) ++ [97, 110, 116, 32]) ++ Lib.itoa a.1) ++ [32]) ++ Lib.itoa a.2) ++ [10] := by rw [List.take_add_one, ha]; exact antsB_snoc _ _
      obtain ⟨x, y⟩ := a
      dsimp only at g1 g2 hc1 hc2 hts
      have i1 := itoa_small (n := x) (by omega)
      have i2 := itoa_small (n := y) (by omega)
      have f1 : ∀ w', Below wr.heap.size wr w' → w'.cell? ⟨b, off + k * 2, none⟩ = some (.int .i64 x) := fun w' h => (h.cell (p := ⟨b, off + k * 2, none⟩) hb2).trans hc1
      have f2 : ∀ w', Below wr.heap.size wr w' → w'.cell? ⟨b, off + k * 2 + 1, none⟩ = some (.int .i64 y) := fun w' h => (h.cell (p := ⟨b, off + k * 2 + 1, none⟩) hb2).trans hc2
      generalize antsB (xs.take k) = o at *
      have Ha := Lib.hid ha; clear ha
      have Hts := Lib.hid hts; clear hts
      go_wp2_with fail
      refine wp_region_N [] [] (by kernel_rfl) (by kernel_rfl) ?_
      refine wpStill_go (v := .string ⟨o.toArray⟩) rfl rfl (stays_run fun w' h => ex_move rfl rfl) ?_
      simp only [Act.put, List.setIfInBounds_toArray, List.set_cons_succ, List.set_cons_zero]
      refine wpStill_go (v := .string ⟨(o ++ [97, 110, 116, 32]).toArray⟩) rfl rfl (stays_run fun w' h => by exact ex_addS rfl (by kernel_rfl) rfl rfl (by simp; omega)) ?_
      simp only [Act.put, List.setIfInBounds_toArray, List.set_cons_succ, List.set_cons_zero]
      refine wpStill_go (v := .slice (some ⟨b, off, none⟩) n cap) rfl rfl (stays_run fun w' h => ex_move rfl rfl) ?_
      simp only [Act.put, List.setIfInBounds_toArray, List.set_cons_succ, List.set_cons_zero]
      refine wpStill_go (v := .int .i64 k) rfl rfl (stays_run fun w' h => ex_move rfl rfl) ?_
      simp only [Act.put, List.setIfInBounds_toArray, List.set_cons_succ, List.set_cons_zero]
      refine wpStill_go (v := .pointer (some ⟨b, off + k * 2, none⟩)) rfl rfl (stays_run fun w' h => ex_index rfl (by kernel_rfl) (by kernel_rfl) rfl rfl (hlt)) ?_
      simp only [Act.put, List.setIfInBounds_toArray, List.set_cons_succ, List.set_cons_zero]
      refine wpStill_go (v := .pointer (some ⟨b, off + k * 2, none⟩)) rfl rfl (stays_run fun w' h => by simp [go_sem]) ?_
      simp only [Act.put, List.setIfInBounds_toArray, List.set_cons_succ, List.set_cons_zero]
      refine wpStill_go (v := .int .i64 x) rfl rfl (stays_run fun w' h => ex_load rfl rfl (ld_one (by kernel_rfl) (f1 w' h))) ?_
      simp only [Act.put, List.setIfInBounds_toArray, List.set_cons_succ, List.set_cons_zero]
      refine wpStill_go (v := .string ⟨(Lib.itoa x).toArray⟩) rfl rfl (stays_call (f := 37) (args := #[.int .i64 x]) (fun w' h => by simp [go_sem]) (fun w' _ => digits_any x (by omega) w')) ?_
      simp only [Act.put, List.setIfInBounds_toArray, List.set_cons_succ, List.set_cons_zero]
      refine wpStill_go (v := .string ⟨((o ++ [97, 110, 116, 32]) ++ Lib.itoa x).toArray⟩) rfl rfl (stays_run fun w' h => by exact ex_addS rfl (by kernel_rfl) rfl rfl (by simp; omega)) ?_
      simp only [Act.put, List.setIfInBounds_toArray, List.set_cons_succ, List.set_cons_zero]
      refine wpStill_go (v := .string ⟨(((o ++ [97, 110, 116, 32]) ++ Lib.itoa x) ++ [32]).toArray⟩) rfl rfl (stays_run fun w' h => by exact ex_addS rfl (by kernel_rfl) rfl rfl (by simp; omega)) ?_
      simp only [Act.put, List.setIfInBounds_toArray, List.set_cons_succ, List.set_cons_zero]
      refine wpStill_go (v := .slice (some ⟨b, off, none⟩) n cap) rfl rfl (stays_run fun w' h => ex_move rfl rfl) ?_
      simp only [Act.put, List.setIfInBounds_toArray, List.set_cons_succ, List.set_cons_zero]
      refine wpStill_go (v := .int .i64 k) rfl rfl (stays_run fun w' h => ex_move rfl rfl) ?_
      simp only [Act.put, List.setIfInBounds_toArray, List.set_cons_succ, List.set_cons_zero]
      refine wpStill_go (v := .pointer (some ⟨b, off + k * 2, none⟩)) rfl rfl (stays_run fun w' h => ex_index rfl (by kernel_rfl) (by kernel_rfl) rfl rfl (hlt)) ?_
      simp only [Act.put, List.setIfInBounds_toArray, List.set_cons_succ, List.set_cons_zero]
      refine wpStill_go (v := .pointer (some ⟨b, off + k * 2 + 1, none⟩)) rfl rfl (stays_run fun w' h => by simp [go_sem]) ?_
      simp only [Act.put, List.setIfInBounds_toArray, List.set_cons_succ, List.set_cons_zero]
      refine wpStill_go (v := .int .i64 y) rfl rfl (stays_run fun w' h => ex_load rfl rfl (ld_one (by kernel_rfl) (f2 w' h))) ?_
      simp only [Act.put, List.setIfInBounds_toArray, List.set_cons_succ, List.set_cons_zero]
      refine wpStill_go (v := .string ⟨(Lib.itoa y).toArray⟩) rfl rfl (stays_call (f := 37) (args := #[.int .i64 y]) (fun w' h => by simp [go_sem]) (fun w' _ => digits_any y (by omega) w')) ?_
      simp only [Act.put, List.setIfInBounds_toArray, List.set_cons_succ, List.set_cons_zero]
      refine wpStill_go (v := .string ⟨((((o ++ [97, 110, 116, 32]) ++ Lib.itoa x) ++ [32]) ++ Lib.itoa y).toArray⟩) rfl rfl (stays_run fun w' h => by exact ex_addS rfl (by kernel_rfl) rfl rfl (by simp; omega)) ?_
      simp only [Act.put, List.setIfInBounds_toArray, List.set_cons_succ, List.set_cons_zero]
      refine wpStill_go (v := .string ⟨(((((o ++ [97, 110, 116, 32]) ++ Lib.itoa x) ++ [32]) ++ Lib.itoa y) ++ [10]).toArray⟩) rfl rfl (stays_run fun w' h => by exact ex_addS rfl (by kernel_rfl) rfl rfl (by simp; omega)) ?_
      simp only [Act.put, List.setIfInBounds_toArray, List.set_cons_succ, List.set_cons_zero]
      refine wpStill_go (v := .string ⟨(((((o ++ [97, 110, 116, 32]) ++ Lib.itoa x) ++ [32]) ++ Lib.itoa y) ++ [10]).toArray⟩) rfl rfl (stays_run fun w' h => by simp [go_sem]) ?_
      simp only [Act.put, List.setIfInBounds_toArray, List.set_cons_succ, List.set_cons_zero]
      refine wpStill_nil ?_
      repeat (refine wpMark_skip rfl ?_)
      refine wpMark_nil fun w5 h5 => ?_
      simp only [onlyN]
      have B5 := hbel.trans (((Below.refl _ wr).drew.trans h5).mono hbel.size)
      clear f1 f2 h5
      go_wp2_with fail
      go_roundw
      case measure => simp [intOf]; omega
      case rel => exact ⟨k + 1, by omega, by go_num, by rw [Hts.out], B5⟩
    · obtain rfl : k = n := by omega
      rw [List.take_of_length_le (by rw [Hn.out]; exact Nat.le_refl _)]
      go_wp2_with fail
      go_ret
      exact ⟨rfl, hbel⟩
theorem okLines_any (A : Option Addr) (n cap : Nat) (w : World) (hb : n ≤ 100) :
    Calls Tryz.prog 24 #[.slice A n cap] w fun e w' => e = .returned (.string ⟨(oksB n).toArray⟩) ∧ Below w.heap.size w w' := by
  go_enter Tryz.func24, Tryz.ntmps24
  go_wp2_with fail
  go_loopw [3, 4] (fun o i wr => ∃ k : Nat, k ≤ n ∧ i = .int .i64 k ∧ o = .string ⟨(oksB k).toArray⟩ ∧ Below w.heap.size w wr) (fun _ i _ => n - (intOf i).toNat)
  case atStart => exact ⟨0, by omega, rfl, rfl, Below.refl _ _⟩
  case round =>
    obtain ⟨k, hk, rfl, rfl, hbel⟩ := hrel
    have hsm := oksB_len k
    have hsu := oksB_succ k
    have h1 : ¬ 9223372036854775807 < (oksB k).length + 3 := by omega
    generalize hO : oksB k = o at *
    by_cases hlt : k < n
    · have Hsu := Lib.hid hsu; clear hsu
      have HO := Lib.hid hO; clear hO
      go_wp2_with fail
      go_roundw
      case measure => simp [intOf]; omega
      case rel => exact ⟨k + 1, by omega, by go_num, by rw [Hsu.out, ← str_app]; rfl, hbel⟩
    · obtain rfl : k = n := by omega
      have HO := Lib.hid hO; clear hO
      have Hsu := Lib.hid hsu; clear hsu
      go_wp2_with fail
      go_ret
      exact ⟨by rw [HO.out]; rfl, hbel⟩
theorem endLine_any (n : Nat) (w : World) (hb : n ≤ 1000) : Calls Tryz.prog 25 #[.int .i64 n] w fun e w' => e = .returned (.string ⟨(endB n).toArray⟩) ∧ Below w.heap.size w w' := by
  have hit := itoa_small (n := (n : Int)) (by omega)
  have hs1 : ¬ 9223372036854775807 < 9 + (Lib.itoa (n : Nat)).length := by omega
  have hs2 : ¬ 9223372036854775807 < 9 + (Lib.itoa (n : Nat)).length + 1 := by omega
  have hE : (⟨#[97, 110, 116, 101, 110, 110, 97, 115, 32]⟩ ++ ⟨(Lib.itoa (n : Nat)).toArray⟩ ++ ⟨#[10]⟩ : ByteArray) = ⟨(endB n).toArray⟩ := by
    unfold endB
    rw [← str_app, ← str_app, ByteArray.append_assoc]; rfl
  have HE := Lib.hid hE; clear hE
  go_enter Tryz.func25, Tryz.ntmps25
  go_wp2_with fail
  refine (digits_any n (by omega) _).mono ?_
  rintro e w1 ⟨rfl, b1⟩
  go_wp2_with fail
  go_ret
  exact ⟨by rw [← HE.out]; rfl, b1⟩
end Go.Proofs.YtipgpafgampfbaaGreatDoor
