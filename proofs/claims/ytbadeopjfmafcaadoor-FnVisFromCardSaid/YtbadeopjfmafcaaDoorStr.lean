/- The library's numerals and the reference's: what they return. -/
import Derived.Test.YtbadeopjfmafcaaDoorTxtP
import Derived.Test.YtbadeopjfmafcaaDoorA2
import Derived.Test.YtbadeopjfmafcaaDoorA1
import Derived.Test.YtbadeopjfmafcaaDoorShelf
import Derived.Lib.ItoaMem
import Derived.Laws.IdiomStrings
namespace Go.Proofs.YtbadeopjfmafcaaDoor
open Go.RowKit

/-- The library's table of powers of ten reads as its initialiser lays it. -/
def Tab (w : World) : Prop := Lib.TabIs Tryd.prog w "internal/strconv.uint64pow10" .u64 Lib.pow10Tab
theorem var_ext {P : Program} {w w' : World} {n : String} {cs : Array Value} (h : w.var? P n = some cs) (hb : Below w.heap.size w w') : w'.var? P n = some cs := by
  unfold World.var? at h ⊢
  cases hg : P.globalNamed n with
  | none => rw [hg] at h; cases h
  | some g =>
    rw [hg] at h
    simp only [Option.bind_some] at h ⊢
    have hlt : g < w.heap.size := by
      rcases Nat.lt_or_ge g w.heap.size with h' | h'
      · exact h'
      · rw [Array.getElem?_eq_none h'] at h; cases h
    rw [hb.block g hlt]
    exact h
theorem Tab.ext {w w' : World} (h : Tab w) (hb : Below w.heap.size w w') : Tab w' := by
  unfold Tab Lib.TabIs at *
  exact var_ext h hb
theorem grow_below (w : World) (k : Nat) (os : Array Obj) : Below w.heap.size w (Sort.grow (w.drewN k) os) :=
  ⟨rfl, rfl, rfl, by simp [Sort.grow, World.drewN], fun j hj => by
    have : j < (w.drewN k).heap.size := hj
    simp only [Sort.grow]
    rw [Array.getElem?_append_left this]; rfl⟩
theorem itoa_any (n : Int) (h : -9223372036854775808 ≤ n ∧ n ≤ 9223372036854775807) (w : World) (ht : Tab w) :
    Calls Tryd.prog 43 #[.int .i64 n] w fun e w' => e = .returned (.string ⟨(Lib.itoa n).toArray⟩) ∧ Below w.heap.size w w' :=
  (Any.strconv_Itoa Tryd.laysMn171 n h.1 h.2 w ht).mono fun _ _ ⟨he, k, os, hw⟩ => ⟨he, by subst hw; exact grow_below w k os⟩

theorem itoa_one {n : Int} (h0 : 0 ≤ n) (h : n < 10) : Lib.itoa n = [UInt8.ofNat (48 + n.toNat)] := by
  unfold Lib.itoa
  rw [if_neg (by omega), Lib.decDigits_one (by omega)]
theorem conv1 (w : World) (b cap : Nat) (n : Int) (h : 0 ≤ n ∧ n < 10) (hc : w.cell? ⟨b, 0, none⟩ = some (.int .u8 (48 + n))) :
    (convert 27 9 (.slice (some ⟨b, 0, none⟩) 1 cap)).run Tryd.prog w = .ok (.string ⟨(Lib.itoa n).toArray⟩) w := by
  have := run_convert_bytes_back (P := Tryd.prog) w 27 9 5 ⟨b, 0, none⟩ cap (Lib.itoa n) Tryd.underlying27 Tryd.underlying5 Tryd.underlying9 (fun j hj => by
    simp only [itoa_one h.1 h.2] at hj ⊢
    obtain rfl : j = 0 := by simpa using hj
    rw [addr_add, hc]
    simp only [List.getElem_cons_zero]
    rw [digit_toNat (by omega)]
    congr 2; omega)
  rw [show (Lib.itoa n).length = 1 by rw [itoa_one h.1 h.2]; rfl] at this
  exact this

set_option maxRecDepth 10000 in
theorem itoa_min : (⟨#[45, 57, 50, 50, 51, 51, 55, 50, 48, 51, 54, 56, 53, 52, 55, 55, 53, 56, 48, 56]⟩ : ByteArray) = ⟨(Lib.itoa (-9223372036854775808)).toArray⟩ := by
  unfold Lib.itoa
  rw [if_pos (by decide), show (-9223372036854775808 : Int).natAbs = 9223372036854775808 from rfl, Lib.decDigits_eq, Lib.nDigits_unique 18 _ (by decide) (by decide)]
  decide +kernel
theorem itoa_neg {n : Int} (h : n < 0) : (ByteArray.mk #[45] ++ ByteArray.mk (Lib.itoa (-n)).toArray : ByteArray) = ⟨(Lib.itoa n).toArray⟩ := by
  rw [show (#[45] : Array UInt8) = [45].toArray from rfl, str_app]
  unfold Lib.itoa
  rw [if_neg (by omega), if_pos h, show (-n).toNat = n.natAbs by omega]
  rfl
theorem itoa_more {n : Int} (h : 10 ≤ n) : (ByteArray.mk (Lib.itoa (n / 10)).toArray ++ ByteArray.mk (Lib.itoa (n % 10)).toArray : ByteArray) = ⟨(Lib.itoa n).toArray⟩ := by
  rw [str_app, itoa_one (n := n % 10) (by omega) (by omega)]
  unfold Lib.itoa
  rw [if_neg (by omega), if_neg (by omega)]
  conv => rhs; rw [Lib.decDigits]
  rw [dif_neg (by omega), show (n / 10).toNat = n.toNat / 10 by omega, show (n % 10).toNat = n.toNat % 10 by omega]
/-- A numeral is short. -/
theorem itoa_short {n : Int} (h0 : -9223372036854775808 ≤ n) (h1 : n ≤ 9223372036854775807) : (Lib.itoa n).length ≤ 21 := Lib.itoa_length_le n h0 h1

set_option maxHeartbeats 1000000 in
set_option maxRecDepth 100000 in
/-- The reference's numeral is the library's. -/
theorem l6Dec_any (k : Nat) : ∀ (n : Int) (w : World), (n < 0 → 2 * n.natAbs + 1 < k) ∧ (0 ≤ n → 2 * n.natAbs < k) → -9223372036854775808 ≤ n → n ≤ 9223372036854775807 →
    Calls Tryd.prog 41 #[.int .i64 n] w fun e w' => e = .returned (.string ⟨(Lib.itoa n).toArray⟩) ∧ Below w.heap.size w w' := by
  induction k with
  | zero => intro n w hk; omega
  | succ k ih =>
    intro n w hk h0 h1
    by_cases hmin : n < -9223372036854775807
    · obtain rfl : n = -9223372036854775808 := by omega
      go_enter Tryd.func41, Tryd.ntmps41
      go_wp2_with fail
      go_ret
      exact ⟨by rw [← itoa_min]; rfl, Below.refl _ _⟩
    · by_cases hneg : n < 0
      · have hn0 : ¬ 9223372036854775807 < -n := by omega
        go_enter Tryd.func41, Tryd.ntmps41
        go_wp2_with fail
        refine (ih (-n) _ (by omega) (by omega) (by omega)).mono ?_
        rintro e w1 ⟨rfl, hb⟩
        have hs : ¬ 9223372036854775807 < 1 + (Lib.itoa (-n)).length := by have := itoa_short (n := -n) (by omega) (by omega); omega
        go_wp2_with fail
        go_ret
        exact ⟨by rw [← itoa_neg hneg]; rfl, hb⟩
      · by_cases h10 : n < 10
        · have hcv := conv1 (w.alloc (.cells #[.int .u8 (48 + n)] 5)) w.heap.size 1 n (by omega) ((Row.new w 5 [.int .u8 (48 + n)]).cell 0)
          go_enter Tryd.func41, Tryd.ntmps41
          go_wp2_with fail
          go_ret
          exact ⟨rfl, (Below.refl _ _).alloc (Nat.le_refl _) _⟩
        · go_enter Tryd.func41, Tryd.ntmps41
          go_wp2_with fail
          refine wp_region_N [7, 8, 9, 10] [] (by kernel_rfl) (by kernel_rfl) ?_
          refine wpStill_go (v := .int .i64 n) rfl rfl (stays_run fun w' h => ex_move rfl rfl) ?_
          simp only [Act.put, List.setIfInBounds_toArray, List.set_cons_succ, List.set_cons_zero]
          refine wpStill_go (v := .int .i64 (n / 10)) rfl rfl (stays_run fun w' h => by simp [go_sem]; rw [Int.tdiv_eq_ediv_of_nonneg (by omega), IntKind.wrap_i64] <;> omega) ?_
          simp only [Act.put, List.setIfInBounds_toArray, List.set_cons_succ, List.set_cons_zero]
          refine wpStill_go (v := .string ⟨(Lib.itoa (n / 10)).toArray⟩) rfl rfl (stays_call (f := 41) (args := #[.int .i64 (n / 10)]) (fun w' h => by simp [go_sem]) (fun w' _ => ih (n / 10) w' (by omega) (by omega) (by omega))) ?_
          simp only [Act.put, List.setIfInBounds_toArray, List.set_cons_succ, List.set_cons_zero]
          refine wpStill_go (v := .int .i64 n) rfl rfl (stays_run fun w' h => ex_move rfl rfl) ?_
          simp only [Act.put, List.setIfInBounds_toArray, List.set_cons_succ, List.set_cons_zero]
          refine wpStill_go (v := .int .i64 (n % 10)) rfl rfl (stays_run fun w' h => by simp [go_sem]; exact Int.tmod_eq_emod_of_nonneg (by omega)) ?_
          simp only [Act.put, List.setIfInBounds_toArray, List.set_cons_succ, List.set_cons_zero]
          refine wpStill_go (v := .int .i64 (48 + n % 10)) rfl rfl (stays_run fun w' h => by simp [go_sem]; rw [IntKind.wrap_i64] <;> omega) ?_
          simp only [Act.put, List.setIfInBounds_toArray, List.set_cons_succ, List.set_cons_zero]
          refine wpStill_go (v := .int .u8 (48 + n % 10)) rfl rfl (stays_run fun w' h => by simp [go_sem]; rw [IntKind.wrap_u8] <;> omega) ?_
          simp only [Act.put, List.setIfInBounds_toArray, List.set_cons_succ, List.set_cons_zero]
          refine wpStill_skip rfl (wpStill_skip rfl (wpStill_skip rfl (wpStill_skip rfl (wpStill_nil ?_))))
          repeat (refine wpMark_skip rfl ?_)
          refine wpMark_go rfl (fun w1 h1 K hK => ?_)
          go_wp2_with fail
          refine hK _ _ (fun _ => ((Below.refl _ _).drew.trans h1).alloc h1.size _) ?_
          clear hK
          refine wpMark_go rfl (fun w2 h2 K hK => ?_)
          have e1 := (Row.new w1 5 [.int .u8 (48 + n % 10)]).kept h2
          have hcv := conv1 w2 w1.heap.size 1 (n % 10) (by omega) (e1.cell 0)
          go_wp2_with fail
          have F3 := (((Below.refl _ _).drew.trans h1).alloc h1.size (.cells #[.int .u8 (48 + n % 10)] 5)).trans (h2.mono (((Below.refl _ _).drew.trans h1).alloc h1.size (.cells #[.int .u8 (48 + n % 10)] 5)).size)
          refine hK _ _ (fun _ => F3) (wpMark_go rfl (fun w4 h4 K hK => ?_))
          have F4 := F3.trans (h4.mono F3.size)
          have hs : ¬ 9223372036854775807 < (Lib.itoa (n / 10)).length + (Lib.itoa (n % 10)).length := by
            have := itoa_short (n := n / 10) (by omega) (by omega)
            have := itoa_short (n := n % 10) (by omega) (by omega)
            omega
          go_wp2_with fail
          refine hK _ _ (fun _ => F4) (wpMark_go rfl (fun w5 h5 K hK => ?_))
          go_wp2_with fail
          refine hK _ _ (fun _ => F4.trans (h5.mono F4.size)) (wpMark_nil fun w6 h6 => ?_)
          simp only [onlyN, Exit.then]
          go_wp2_with fail
          go_ret
          exact ⟨by rw [← itoa_more (n := n) (by omega)]; rfl, (F4.trans (h5.mono F4.size)).trans (h6.mono (F4.trans (h5.mono F4.size)).size)⟩
theorem sDec_any (n : Int) (h : -9223372036854775808 ≤ n ∧ n ≤ 9223372036854775807) (w : World) :
    Calls Tryd.prog 41 #[.int .i64 n] w fun e w' => e = .returned (.string ⟨(Lib.itoa n).toArray⟩) ∧ Below w.heap.size w w' :=
  l6Dec_any (2 * n.natAbs + 2) n w ⟨fun _ => by omega, fun _ => by omega⟩ h.1 h.2
end Go.Proofs.YtbadeopjfmafcaaDoor
