/- An observation turned by quarter gains. · 'impl.ObserveTurn' at every input. · Plain laws of turning. · Plain laws of turning, twice. · Slices of visibilities: the laws' copies, comparisons and marks. · The library's numerals and the reference's: what they return. · strings.Builder: a builder that the call itself made. · A sky's text: the program's SkyText and the reference's. · The reference's cutting of texts: 'l41Cut', 'l41Number'. · A sky read back: the reference's SkyFrom. · Point sources: the reference's VisPoint and VisPhases. -/
import Derived.Test.YtipgpafgampfbaaGreatDoorA3
import Derived.Maps.AppendAt
import Derived.Test.YtipgpafgampfbaaGreatDoorA2
import Derived.Test.YtipgpafgampfbaaGreatDoorA1
import Derived.Shelf.Abstract
import Derived.RangeFuncBox
import Derived.Deep.Onto
import Derived.Test.YtipgpafgampfbaaGreatDoorB3
import Derived.Test.YtipgpafgampfbaaGreatDoorShelf
import Derived.Lib.ItoaMem
import Derived.Laws.IdiomStrings
import Derived.Test.YtipgpafgampfbaaGreatDoorProg
import Derived.Shelf.Strings.Builder1
import Derived.Lib.AppendStr
import Derived.Lib.Builder
import Derived.Laws.Externs
import Derived.Outline
import Derived.Lib.OthersKept
import Derived.Test.YtipgpafgampfbaaGreatDoorB2
namespace Go.Proofs.YtipgpafgampfbaaGreatDoor
open Go.RowKit Go.Shelf
attribute [local go_sem] Oper.semAt_some

/-- A box whose slice owns its row. -/
def BoxRow (n₀ B : Nat) (t e : TypeId) (size k : Nat) (xs : List Value) (W : World) : Prop := ∃ v, Boxed W B t v ∧ W.ownsRow n₀ e size v k xs
theorem BoxRow.kept {n₀ B : Nat} {t e : TypeId} {size k : Nat} {xs : List Value} {X Y : World} {row : Option Nat} (h : BoxRow n₀ B t e size k xs X) (hg : X.grownBy Y row) (hrow : ∀ r, row = some r → ∃ o : Obj, X.heap[r]? = some o ∧ o.isCells = false) : BoxRow n₀ B t e size k xs Y := by
  obtain ⟨v, hv, hr⟩ := h
  obtain ⟨v', h1, h2, _⟩ := holdsRow_own n₀ B t e size (fun _ : Unit => k) (fun _ => xs) (fun _ _ => True) () X Y row ⟨v, hv, hr, trivial⟩ hg hrow
  exact ⟨v', h1, h2⟩
end Go.Proofs.YtipgpafgampfbaaGreatDoor

namespace Go.Proofs.YtipgpafgampfbaaGreatDoor
open Go.RowKit

end Go.Proofs.YtipgpafgampfbaaGreatDoor

namespace Go.Proofs.YtipgpafgampfbaaGreatDoor
open Go.RowKit

end Go.Proofs.YtipgpafgampfbaaGreatDoor

namespace Go.Proofs.YtipgpafgampfbaaGreatDoor
open Go.RowKit

end Go.Proofs.YtipgpafgampfbaaGreatDoor

namespace Go.Proofs.YtipgpafgampfbaaGreatDoor
open Go.RowKit

theorem visInfo2 : (Tryz.prog.info? 58).map (fun i => (i.zero, i.size, i.bytes)) = some (some (.agg #[.int .i64 0, .int .i64 0]), 2, 16) := by kernel_rfl
end Go.Proofs.YtipgpafgampfbaaGreatDoor

namespace Go.Proofs.YtipgpafgampfbaaGreatDoor
open Go.RowKit

/-- The library's table of powers of ten reads as its initialiser lays it. -/
def Tab (w : World) : Prop := Lib.TabIs Tryz.prog w "internal/strconv.uint64pow10" .u64 Lib.pow10Tab
theorem var_ext {P : Program} {w w' : World} {n : String} {cs : Array Value} (h : w.var? P n = some cs) (hb : Below w.heap.size w w') : w'.var? P n = some cs := by
  unfold World.var? at h ⊢
  cases hg : P.globalNamed n with
  | none => rw [hg] at h; cases h
  | some g =>
    rw [hg] at h
    simp only [Option.bind_some] at h ⊢
    have hlt : g < w.heap.size := by
      rcases Nat.lt_or_ge g w.heap.size with h' | h'
      · exact h'
      · rw [Array.getElem?_eq_none h'] at h; cases h
    rw [hb.block g hlt]
    exact h
theorem Tab.ext {w w' : World} (h : Tab w) (hb : Below w.heap.size w w') : Tab w' := by
  unfold Tab Lib.TabIs at *
  exact var_ext h hb
theorem grow_below (w : World) (k : Nat) (os : Array Obj) : Below w.heap.size w (Sort.grow (w.drewN k) os) :=
  ⟨rfl, rfl, rfl, by simp [Sort.grow, World.drewN], fun j hj => by
    have : j < (w.drewN k).heap.size := hj
    simp only [Sort.grow]
    rw [Array.getElem?_append_left this]; rfl⟩
theorem itoa_any (n : Int) (h : -9223372036854775808 ≤ n ∧ n ≤ 9223372036854775807) (w : World) (ht : Tab w) :
    Calls Tryz.prog 55 #[.int .i64 n] w fun e w' => e = .returned (.string ⟨(Lib.itoa n).toArray⟩) ∧ Below w.heap.size w w' :=
  (Any.strconv_Itoa Tryz.laysMn171 n h.1 h.2 w ht).mono fun _ _ ⟨he, k, os, hw⟩ => ⟨he, by subst hw; exact grow_below w k os⟩

theorem itoa_one {n : Int} (h0 : 0 ≤ n) (h : n < 10) : Lib.itoa n = [UInt8.ofNat (48 + n.toNat)] := by
  unfold Lib.itoa
  rw [if_neg (by omega), Lib.decDigits_one (by omega)]
theorem conv1 (w : World) (b cap : Nat) (n : Int) (h : 0 ≤ n ∧ n < 10) (hc : w.cell? ⟨b, 0, none⟩ = some (.int .u8 (48 + n))) :
    (convert 22 9 (.slice (some ⟨b, 0, none⟩) 1 cap)).run Tryz.prog w = .ok (.string ⟨(Lib.itoa n).toArray⟩) w := by
  have := run_convert_bytes_back (P := Tryz.prog) w 22 9 5 ⟨b, 0, none⟩ cap (Lib.itoa n) Tryz.underlying22 Tryz.underlying5 Tryz.underlying9 (fun j hj => by
    simp only [itoa_one h.1 h.2] at hj ⊢
    obtain rfl : j = 0 := by simpa using hj
    rw [addr_add, hc]
    simp only [List.getElem_cons_zero]
    rw [digit_toNat (by omega)]
    congr 2; omega)
  rw [show (Lib.itoa n).length = 1 by rw [itoa_one h.1 h.2]; rfl] at this
  exact this

set_option maxRecDepth 10000 in
theorem itoa_min : (⟨#[45, 57, 50, 50, 51, 51, 55, 50, 48, 51, 54, 56, 53, 52, 55, 55, 53, 56, 48, 56]⟩ : ByteArray) = ⟨(Lib.itoa (-9223372036854775808)).toArray⟩ := by
  unfold Lib.itoa
  rw [if_pos (by decide), show (-9223372036854775808 : Int).natAbs = 9223372036854775808 from rfl, Lib.decDigits_eq, Lib.nDigits_unique 18 _ (by decide) (by decide)]
  decide +kernel
theorem itoa_neg {n : Int} (h : n < 0) : (ByteArray.mk #[45] ++ ByteArray.mk (Lib.itoa (-n)).toArray : ByteArray) = ⟨(Lib.itoa n).toArray⟩ := by
  rw [show (#[45] : Array UInt8) = [45].toArray from rfl, str_app]
  unfold Lib.itoa
  rw [if_neg (by omega), if_pos h, show (-n).toNat = n.natAbs by omega]
  rfl
theorem itoa_more {n : Int} (h : 10 ≤ n) : (ByteArray.mk (Lib.itoa (n / 10)).toArray ++ ByteArray.mk (Lib.itoa (n % 10)).toArray : ByteArray) = ⟨(Lib.itoa n).toArray⟩ := by
  rw [str_app, itoa_one (n := n % 10) (by omega) (by omega)]
  unfold Lib.itoa
  rw [if_neg (by omega), if_neg (by omega)]
  conv => rhs; rw [Lib.decDigits]
  rw [dif_neg (by omega), show (n / 10).toNat = n.toNat / 10 by omega, show (n % 10).toNat = n.toNat % 10 by omega]
/-- A numeral is short. -/
theorem itoa_short {n : Int} (h0 : -9223372036854775808 ≤ n) (h1 : n ≤ 9223372036854775807) : (Lib.itoa n).length ≤ 21 := Lib.itoa_length_le n h0 h1

set_option maxHeartbeats 1000000 in
set_option maxRecDepth 100000 in
/-- The reference's numeral is the library's. -/
theorem l6Dec_any (k : Nat) : ∀ (n : Int) (w : World), (n < 0 → 2 * n.natAbs + 1 < k) ∧ (0 ≤ n → 2 * n.natAbs < k) → -9223372036854775808 ≤ n → n ≤ 9223372036854775807 →
    Calls Tryz.prog 49 #[.int .i64 n] w fun e w' => e = .returned (.string ⟨(Lib.itoa n).toArray⟩) ∧ Below w.heap.size w w' := by
  induction k with
  | zero => intro n w hk; omega
  | succ k ih =>
    intro n w hk h0 h1
    by_cases hmin : n < -9223372036854775807
    · obtain rfl : n = -9223372036854775808 := by omega
      go_enter Tryz.func49, Tryz.ntmps49
      go_wp2_with fail
      go_ret
      exact ⟨by rw [← itoa_min]; rfl, Below.refl _ _⟩
    · by_cases hneg : n < 0
      · have hn0 : ¬ 9223372036854775807 < -n := by omega
        go_enter Tryz.func49, Tryz.ntmps49
        go_wp2_with fail
        refine (ih (-n) _ (by omega) (by omega) (by omega)).mono ?_
        rintro e w1 ⟨rfl, hb⟩
        have hs : ¬ 9223372036854775807 < 1 + (Lib.itoa (-n)).length := by have := itoa_short (n := -n) (by omega) (by omega); omega
        go_wp2_with fail
        go_ret
        exact ⟨by rw [← itoa_neg hneg]; rfl, hb⟩
      · by_cases h10 : n < 10
        · have hcv := conv1 (w.alloc (.cells #[.int .u8 (48 + n)] 5)) w.heap.size 1 n (by omega) ((Row.new w 5 [.int .u8 (48 + n)]).cell 0)
          go_enter Tryz.func49, Tryz.ntmps49
          go_wp2_with fail
          go_ret
          exact ⟨rfl, (Below.refl _ _).alloc (Nat.le_refl _) _⟩
        · go_enter Tryz.func49, Tryz.ntmps49
          go_wp2_with fail
          refine wp_region_N [7, 8, 9, 10] [] (by kernel_rfl) (by kernel_rfl) ?_
          refine wpStill_go (v := .int .i64 n) rfl rfl (stays_run fun w' h => ex_move rfl rfl) ?_
          simp only [Act.put, List.setIfInBounds_toArray, List.set_cons_succ, List.set_cons_zero]
          refine wpStill_go (v := .int .i64 (n / 10)) rfl rfl (stays_run fun w' h => by simp [go_sem]; rw [Int.tdiv_eq_ediv_of_nonneg (by omega), IntKind.wrap_i64] <;> omega) ?_
          simp only [Act.put, List.setIfInBounds_toArray, List.set_cons_succ, List.set_cons_zero]
          refine wpStill_go (v := .string ⟨(Lib.itoa (n / 10)).toArray⟩) rfl rfl (stays_call (f := 49) (args := #[.int .i64 (n / 10)]) (fun w' h => by simp [go_sem]) (fun w' _ => ih (n / 10) w' (by omega) (by omega) (by omega))) ?_
          simp only [Act.put, List.setIfInBounds_toArray, List.set_cons_succ, List.set_cons_zero]
          refine wpStill_go (v := .int .i64 n) rfl rfl (stays_run fun w' h => ex_move rfl rfl) ?_
          simp only [Act.put, List.setIfInBounds_toArray, List.set_cons_succ, List.set_cons_zero]
          refine wpStill_go (v := .int .i64 (n % 10)) rfl rfl (stays_run fun w' h => by simp [go_sem]; exact Int.tmod_eq_emod_of_nonneg (by omega)) ?_
          simp only [Act.put, List.setIfInBounds_toArray, List.set_cons_succ, List.set_cons_zero]
          refine wpStill_go (v := .int .i64 (48 + n % 10)) rfl rfl (stays_run fun w' h => by simp [go_sem]; rw [IntKind.wrap_i64] <;> omega) ?_
          simp only [Act.put, List.setIfInBounds_toArray, List.set_cons_succ, List.set_cons_zero]
          refine wpStill_go (v := .int .u8 (48 + n % 10)) rfl rfl (stays_run fun w' h => by simp [go_sem]; rw [IntKind.wrap_u8] <;> omega) ?_
          simp only [Act.put, List.setIfInBounds_toArray, List.set_cons_succ, List.set_cons_zero]
          refine wpStill_skip rfl (wpStill_skip rfl (wpStill_skip rfl (wpStill_skip rfl (wpStill_nil ?_))))
          repeat (refine wpMark_skip rfl ?_)
          refine wpMark_go rfl (fun w1 h1 K hK => ?_)
          go_wp2_with fail
          refine hK _ _ (fun _ => ((Below.refl _ _).drew.trans h1).alloc h1.size _) ?_
          clear hK
          refine wpMark_go rfl (fun w2 h2 K hK => ?_)
          have e1 := (Row.new w1 5 [.int .u8 (48 + n % 10)]).kept h2
          have hcv := conv1 w2 w1.heap.size 1 (n % 10) (by omega) (e1.cell 0)
          go_wp2_with fail
          have F3 := (((Below.refl _ _).drew.trans h1).alloc h1.size (.cells #[.int .u8 (48 + n % 10)] 5)).trans (h2.mono (((Below.refl _ _).drew.trans h1).alloc h1.size (.cells #[.int .u8 (48 + n % 10)] 5)).size)
          refine hK _ _ (fun _ => F3) (wpMark_go rfl (fun w4 h4 K hK => ?_))
          have F4 := F3.trans (h4.mono F3.size)
          have hs : ¬ 9223372036854775807 < (Lib.itoa (n / 10)).length + (Lib.itoa (n % 10)).length := by
            have := itoa_short (n := n / 10) (by omega) (by omega)
            have := itoa_short (n := n % 10) (by omega) (by omega)
            omega
          go_wp2_with fail
          refine hK _ _ (fun _ => F4) (wpMark_go rfl (fun w5 h5 K hK => ?_))
          go_wp2_with fail
          refine hK _ _ (fun _ => F4.trans (h5.mono F4.size)) (wpMark_nil fun w6 h6 => ?_)
          simp only [onlyN, Exit.then]
          go_wp2_with fail
          go_ret
          exact ⟨by rw [← itoa_more (n := n) (by omega)]; rfl, (F4.trans (h5.mono F4.size)).trans (h6.mono (F4.trans (h5.mono F4.size)).size)⟩
theorem sDec_any (n : Int) (h : -9223372036854775808 ≤ n ∧ n ≤ 9223372036854775807) (w : World) :
    Calls Tryz.prog 49 #[.int .i64 n] w fun e w' => e = .returned (.string ⟨(Lib.itoa n).toArray⟩) ∧ Below w.heap.size w w' :=
  l6Dec_any (2 * n.natAbs + 2) n w ⟨fun _ => by omega, fun _ => by omega⟩ h.1 h.2
end Go.Proofs.YtipgpafgampfbaaGreatDoor

namespace Go.Proofs.YtipgpafgampfbaaGreatDoor
open Go.RowKit

theorem bSize : (Tryz.prog.info? 71).map (fun i => (i.zero, i.size, i.bytes)) = some (some (.agg #[.pointer none, .slice none 0 0]), 2, 32) := by kernel_rfl
theorem byteInfo : (Tryz.prog.info? 5).map (fun i => (i.zero, i.size, i.bytes)) = some (some (.int .u8 0), 1, 1) := by kernel_rfl
theorem bLies : liesAt Tryz.prog Tryz.prog.depth 71 (2 / Tryz.prog.cellsOf 71) 0 71 1 = true := by kernel_rfl

set_option maxRecDepth 100000 in
theorem copyCheck_used (b : Nat) (w : World) (h0 : w.cell? ⟨b, 0, none⟩ = some (.pointer (some ⟨b, 0, none⟩))) :
    Calls Tryz.prog 97 #[.pointer (some ⟨b, 0, none⟩)] w fun e w' => e = .returned (.tuple #[]) ∧ w = w' := by
  obtain ⟨j, hj, _⟩ := info_parts bSize
  go_enter Tryz.func97, Tryz.ntmps97
  go_wp2
  rw [Lib.run_neq_ptr_same w _ Tryz.underlying69 hj]
  go_wp2
  go_end0
  exact ⟨rfl, rfl⟩

set_option maxRecDepth 100000 in
theorem copyCheck_fresh (b : Nat) (w : World) (h0 : w.cell? ⟨b, 0, none⟩ = some (.pointer none)) (hsh : w.shape? b = some (71, 2)) (hfz : w.frozen? ⟨b, 0, none⟩ = false) :
    Calls Tryz.prog 97 #[.pointer (some ⟨b, 0, none⟩)] w fun e w' => e = .returned (.tuple #[]) ∧ w.setCell ⟨b, 0, none⟩ (.pointer (some ⟨b, 0, none⟩)) = w' := by
  obtain ⟨j, hj, _, hs, _⟩ := info_parts bSize
  go_enter Tryz.func97, Tryz.ntmps97
  go_wp2
  rw [Lib.run_to_unsafe w ⟨b, 0, none⟩ Tryz.underlying69 Tryz.underlying147 hj (by rw [hs]; decide) hsh (Nat.zero_lt_succ 1)]
  simp only [Result.andThen]
  rw [Oper.upon_value]
  go_wp2
  rw [run_callFunc_extern Tryz.func133 (by kernel_rfl) (by kernel_rfl) (by kernel_rfl) (e := Extern.AbiNoEscape.same) (by kernel_rfl)]
  rw [Lib.run_noEscape]
  simp only [Result.andThen]
  rw [Oper.upon_value]
  go_wp2
  rw [Lib.run_from_unsafe w ⟨b, 0, none⟩ Tryz.underlying147 Tryz.underlying69 hj hsh bLies]
  simp only [Result.andThen]
  rw [Oper.upon_value]
  go_wp2
  go_end0
  exact ⟨rfl, rfl⟩

/-- A strings.Builder of the call's own (the library's words at this program's numbers). -/
abbrev IsB (B b : Nat) (bs : List Value) (w : World) : Prop := Lib.IsBuilder 71 5 B b bs w
abbrev BAt (B b : Nat) (bs : List Value) (w : World) : Prop := Lib.BuilderAt 71 5 B b (.pointer (some ⟨b, 0, none⟩)) bs w
theorem BAt.ext {B b : Nat} {bs : List Value} {w w' : World} (h : BAt B b bs w) (hb : Below w.heap.size w w') : BAt B b bs w' := by
  have hlt := Lib.BuilderAt.lt h
  obtain ⟨h1, v, h2, h3, h4⟩ := h
  exact ⟨h1, v, (hb.block b hlt).trans h2, own_ext h3 hb, h4⟩
theorem IsB.ext {B b : Nat} {bs : List Value} {w w' : World} (h : IsB B b bs w) (hb : Below w.heap.size w w') : IsB B b bs w' := by
  rcases h with h | h
  · have hlt := Lib.BuilderAt.lt h
    obtain ⟨h1, v, h2, h3, h4⟩ := h
    exact .inl ⟨h1, v, (hb.block b hlt).trans h2, own_ext h3 hb, h4⟩
  · exact .inr (BAt.ext h hb)
theorem BAt.isB {B b : Nat} {bs : List Value} {w : World} (h : BAt B b bs w) : IsB B b bs w := .inr h

theorem copyCheck_any (B b : Nat) (bs : List Value) (w : World) (h : IsB B b bs w) :
    Calls Tryz.prog 97 #[.pointer (some ⟨b, 0, none⟩)] w fun e w' => e = .returned (.tuple #[]) ∧ (BAt B b bs w' ∧ Below B w w' ∧ Lib.OthersKept 5 (some b) w w') := by
  rcases h with h | h
  · refine (copyCheck_fresh b w h.cell0 h.shape h.frozen0).mono ?_
    rintro e w' ⟨rfl, rfl⟩
    exact ⟨rfl, h.used _, (Below.refl B w).setCell (p := ⟨b, 0, none⟩) h.1 _, (Lib.OthersKept.refl _ _ _).setCell ⟨b, 0, none⟩ rfl _⟩
  · refine (copyCheck_used b w h.cell0).mono ?_
    rintro e w' ⟨rfl, rfl⟩
    exact ⟨rfl, h, Below.refl B _, Lib.OthersKept.refl _ _ _⟩

set_option maxHeartbeats 1000000 in
set_option maxRecDepth 100000 in
/-- WriteByte appends its byte. -/
theorem writeByte_any (B b : Nat) (bs : List Value) (c : Int) (w : World) (h : IsB B b bs w) (hlen : bs.length + 1 ≤ 140737488355328) (hBw : B ≤ w.heap.size) :
    Calls Tryz.prog 70 #[.pointer (some ⟨b, 0, none⟩), .int .u8 c] w fun e w' => e = .returned .nilIface ∧ (BAt B b (bs ++ [.int .u8 c]) w' ∧ Below B w w') := by
  obtain ⟨i0, hi, hz0, hz1, hz2⟩ := info_parts byteInfo
  go_enter Tryz.func70, Tryz.ntmps70
  go_wp2_with (go_at_call 97; refine (copyCheck_any B b bs _ h).mono ?_)
  rintro e w1 ⟨rfl, h1, hb1, _⟩
  obtain ⟨hB, v, hbk, hown, hne⟩ := h1
  have c0 : w1.cell? ⟨b, 0, none⟩ = some (.pointer (some ⟨b, 0, none⟩)) := by rw [Lib.cell_of_heap hbk]; rfl
  have c1 : w1.cell? ⟨b, 1, none⟩ = some v := by rw [Lib.cell_of_heap hbk]; rfl
  go_wp2_with (at_builtin; refine wpList_append_own _ rfl _ _ 22 rfl B 5 i0 (.int .u8 0) 1 1 Tryz.underlying22 hi hz0 hz1 hz2 rfl (by decide) _ _ _ rfl (hown.alloc _) ⟨w1.heap.size, 0, none⟩ 1 1 [.int .u8 c] rfl rfl ?c1 ?c2 ?c3 ?c4 ?c5 ?_)
  case c1 =>
    intro j u hj
    match j, hj with
    | 0, hj => simp at hj; subst hj; simp [Addr.add]
  case c2 => intro u hu; simp at hu; subst hu; rfl
  case c3 => unfold maxLen; omega
  case c4 => omega
  case c5 => have := hb1.size; simp; omega
  intro v' w2 hown' hgrow _
  have hlt : b < w1.heap.size := by
    rcases Nat.lt_or_ge b w1.heap.size with h' | h'
    · exact h'
    · simp [Array.getElem?_eq_none h'] at hbk
  have hb2 : w2.heap[b]? = some (.cells #[.pointer (some ⟨b, 0, none⟩), v] 71 (0, 0)) := by
    rw [hgrow.block b (by simp; omega) (fun e => hne e.symm), Lib.alloc_old w1 _ b hlt]
    exact hbk
  have d0 : w2.cell? ⟨b, 0, none⟩ = some (.pointer (some ⟨b, 0, none⟩)) := by rw [Lib.cell_of_heap hb2]; rfl
  have d1 : w2.cell? ⟨b, 1, none⟩ = some v := by rw [Lib.cell_of_heap hb2]; rfl
  have f1 : w2.frozen? ⟨b, 1, none⟩ = false := Lib.frozen_of_heap hb2 1
  obtain ⟨g, cap, rfl⟩ : ∃ g cap, v' = .slice (some ⟨g, 0, none⟩) (bs.length + 1) cap := by
    rcases hown'.2 with ⟨_, h0⟩ | ⟨g, cap, cur, hv, _⟩
    · omega
    · exact ⟨g, cap, hv⟩
  go_wp2
  go_ret
  refine ⟨rfl, ?_, ?_⟩
  · exact Lib.BuilderAt.put (T := 71) (e := 5) hB hb2 (bs' := bs ++ [.int .u8 c]) (by simpa using hown') (by decide)
  · exact ((hb1.alloc (by have := hb1.size; omega) _).grown hgrow (by have := hb1.size; simp; omega) (fun k hk => (hown.lt k hk).1)).setCell (p := ⟨b, 1, none⟩) hB _

set_option maxHeartbeats 1000000 in
set_option maxRecDepth 100000 in
/-- WriteString appends its bytes. -/
theorem writeString_k (B b : Nat) (bs : List Value) (s : ByteArray) (w : World) (h : IsB B b bs w) (hlen : bs.length + s.size ≤ 140737488355328) (hBw : B ≤ w.heap.size) :
    Calls Tryz.prog 54 #[.pointer (some ⟨b, 0, none⟩), .string s] w fun e w' => e = .returned (.tuple #[.int .i64 s.size, .nilIface]) ∧ (BAt B b (bs ++ Lib.strCells s) w' ∧ Below B w w' ∧ Lib.OthersKept 5 (some b) w w') := by
  obtain ⟨i0, hi, hz0, hz1, hz2⟩ := info_parts byteInfo
  go_enter Tryz.func54, Tryz.ntmps54
  go_wp2_with (go_at_call 97; refine (copyCheck_any B b bs _ h).mono ?_)
  rintro e w1 ⟨rfl, h1, hb1, hk1⟩
  obtain ⟨hB, v, hbk, hown, hne⟩ := h1
  have c0 : w1.cell? ⟨b, 0, none⟩ = some (.pointer (some ⟨b, 0, none⟩)) := by rw [Lib.cell_of_heap hbk]; rfl
  have c1 : w1.cell? ⟨b, 1, none⟩ = some v := by rw [Lib.cell_of_heap hbk]; rfl
  go_wp2_with (at_builtin; refine Lib.wpList_append_own_string _ rfl _ _ 22 9 rfl B 5 i0 Tryz.underlying22 Tryz.underlying9 hi hz0 hz1 hz2 _ _ _ rfl hown s rfl ?c3 ?c4 ?c5 ?_)
  case c3 => unfold maxLen; omega
  case c4 => omega
  case c5 => have := hb1.size; omega
  intro v' w2 hown' hgrow _
  have hlt : b < w1.heap.size := by
    rcases Nat.lt_or_ge b w1.heap.size with h' | h'
    · exact h'
    · simp [Array.getElem?_eq_none h'] at hbk
  have hb2 : w2.heap[b]? = some (.cells #[.pointer (some ⟨b, 0, none⟩), v] 71 (0, 0)) := by
    rw [hgrow.block b hlt (fun e => hne e.symm)]
    exact hbk
  have d0 : w2.cell? ⟨b, 0, none⟩ = some (.pointer (some ⟨b, 0, none⟩)) := by rw [Lib.cell_of_heap hb2]; rfl
  have d1 : w2.cell? ⟨b, 1, none⟩ = some v := by rw [Lib.cell_of_heap hb2]; rfl
  have f1 : w2.frozen? ⟨b, 1, none⟩ = false := Lib.frozen_of_heap hb2 1
  obtain ⟨ao, n', cap, rfl⟩ : ∃ ao n' cap, v' = .slice ao n' cap := by
    rcases hown'.2 with ⟨hv, _⟩ | ⟨g, cap, cur, hv, _⟩
    · exact ⟨_, _, _, hv⟩
    · exact ⟨_, _, _, hv⟩
  go_wp2
  go_ret2
  refine ⟨rfl, ?_, ?_, ?_⟩
  · exact Lib.BuilderAt.put (T := 71) (e := 5) hB hb2 (bs' := bs ++ Lib.strCells s) (by simpa [Lib.strCells_length] using hown') (by decide)
  · exact (hb1.grown hgrow (by have := hb1.size; omega) (fun k hk => (hown.lt k hk).1)).setCell (p := ⟨b, 1, none⟩) hB _
  · exact (hk1.grown hgrow (fun k hk => by obtain ⟨_, _, cs, fr, e⟩ := own_lt hown hk; exact ⟨cs, fr, e⟩)).setCell ⟨b, 1, none⟩ rfl _
/-- WriteString appends its bytes. -/
theorem writeString_any (B b : Nat) (bs : List Value) (s : ByteArray) (w : World) (h : IsB B b bs w) (hlen : bs.length + s.size ≤ 140737488355328) (hBw : B ≤ w.heap.size) :
    Calls Tryz.prog 54 #[.pointer (some ⟨b, 0, none⟩), .string s] w fun e w' => e = .returned (.tuple #[.int .i64 s.size, .nilIface]) ∧ (BAt B b (bs ++ Lib.strCells s) w' ∧ Below B w w') :=
  (writeString_k B b bs s w h hlen hBw).mono fun _ _ ⟨h1, h2, h3, _⟩ => ⟨h1, h2, h3⟩

/-! ### String, by the library's contract -/
open Go.Shelf in
def bRen : Go.Shelf.Ren := ⟨fun | 169 => 56 | n => n, fun | 70 => 69 | 9 => 9 | 0 => 0 | 72 => 71 | 37 => 22 | 127 => 121 | 3 => 3 | 5 => 5 | n => n, fun | n => n⟩
theorem bLays : Go.Proofs.Lays.n169 Tryz.prog bRen := {
  mixed := by kernel_rfl
  f169 := Tryz.func56.trans (congrArg some (by kernel_rfl))
  t0 := Tryz.underlying0
  a0 := Tryz.isAgg0
  z0 := Tryz.sizeOf0
  v0 := Tryz.zeroValue0
  t3 := Tryz.underlying3
  a3 := Tryz.isAgg3
  z3 := Tryz.sizeOf3
  v3 := Tryz.zeroValue3
  t9 := Tryz.underlying9
  a9 := Tryz.isAgg9
  z9 := Tryz.sizeOf9
  v9 := Tryz.zeroValue9
  t37 := Tryz.underlying22
  a37 := Tryz.isAgg22
  z37 := Tryz.sizeOf22
  v37 := Tryz.zeroValue22
  t70 := Tryz.underlying69
  a70 := Tryz.isAgg69
  z70 := Tryz.sizeOf69
  v70 := Tryz.zeroValue69
  t72 := Tryz.underlying71
  a72 := Tryz.isAgg71
  z72 := Tryz.sizeOf71
  v72 := Tryz.zeroValue71
  t127 := Tryz.underlying121
  a127 := Tryz.isAgg121
  z127 := Tryz.sizeOf121
  v127 := Tryz.zeroValue121 }
theorem bExtra : Builder.Extra Tryz.prog bRen := {
  sizeBuilder := by kernel_rfl
  liesBuilder := by kernel_rfl
  t5 := Tryz.underlying5
  a5 := Tryz.isAgg5
  z5 := Tryz.sizeOf5
  v5 := Tryz.zeroValue5
  infoByte := by kernel_rfl
  cellsByte := by kernel_rfl
  sizeByte := by kernel_rfl
  neB5 := by decide }
/-- String returns what was written. -/
theorem bString_any (B b : Nat) (l : List UInt8) (w : World) (h : IsB B b (Lib.byteCells l) w) (hBw : B ≤ w.heap.size) :
    Calls Tryz.prog 56 #[.pointer (some ⟨b, 0, none⟩)] w fun e w' => e = .returned (.string ⟨l.toArray⟩) ∧ Below B w w' := Any.Builder_String_any bLays bExtra B b l w h hBw

/-- A fresh builder: 'var out strings.Builder'. -/
theorem fresh_isB (w : World) : IsB w.heap.size w.heap.size [] (w.alloc (.cells #[.pointer none, .slice none 0 0] 71)) := Lib.fresh_isBuilder _ _ w
end Go.Proofs.YtipgpafgampfbaaGreatDoor

namespace Go.Proofs.YtipgpafgampfbaaGreatDoor
open Go.RowKit

theorem skyText_yes (A : Option Addr) (cap : Nat) (s : List Int) (w : World) (hv : skyV s = true) (hr : Rd w w.heap.size A (s.map (Value.int .i64))) (ht : Tab w) :
    Calls Tryz.prog 26 #[.slice A 16 cap] w fun e w' => e = .returned (.string ⟨(skyB s 16).toArray⟩) ∧ Below w.heap.size w w' := by
  have Hn := Lib.hid (skyV_len hv)
  have Hv := Lib.hid hv; clear hv
  have Ht := Lib.hid ht; clear ht
  go_enter Tryz.func26, Tryz.ntmps26
  go_wp2_with (go_at_call 64; refine (skyValid_any _ _ _ s _ Hn.out (by omega) hr).mono ?_; rintro e w' ⟨rfl, rfl⟩; rw [Hv.out])
  go_loopw [11] (fun i wr => ∃ k : Nat, k ≤ 16 ∧ i = .int .i64 k ∧ IsB w.heap.size w.heap.size (Lib.byteCells (skyB s k)) wr ∧ Below w.heap.size w wr) (fun i _ => 16 - (intOf i).toNat)
  case atStart => exact ⟨0, by omega, rfl, fresh_isB w, (Below.refl _ _).alloc (Nat.le_refl _) _⟩
  case round =>
    obtain ⟨k, hk, rfl, hB, hbel⟩ := hrel
    have hr' := hr.below hbel
    have Hbel := Lib.hid hbel; clear hbel
    have HB := Lib.hid hB; clear hB
    by_cases hlt : k < 16
    · obtain ⟨b, off, rfl, hb, hc1⟩ := hr' k _ (ints_get (by rw [Hn.out]; exact hlt))
      have Hs := Lib.hid (skyB_succ s k)
      have hxb := skyV_get Hv.out k
      have hlen := skyB_len (s := s) (fun x hx => by have := (skyV_iff.1 Hv.out).2 x hx; omega) k
      generalize s.getD k 0 = x at *
      have Hlen := Lib.hid hlen; clear hlen
      have Hxb := Lib.hid hxb; clear hxb
      have Hl := Lib.hid (itoa_short (n := x) (by have := Hxb.out; omega) (by have := Hxb.out; omega))
      go_wp2_with fail
      refine (itoa_any x (by have := Hxb.out; omega) _ (Ht.out.ext Hbel.out)).mono ?_
      rintro e w1 ⟨rfl, hb1⟩
      have HB1 := Lib.hid (HB.out.ext hb1)
      have Hb1 := Lib.hid (Hbel.out.trans (hb1.mono Hbel.out.size))
      clear hb1
      go_wp2_with fail
      refine (writeString_any w.heap.size w.heap.size _ _ _ HB1.out (by rw [Lib.byteCells_length]; have := Hlen.out; have := Hl.out; have e : (ByteArray.mk (Lib.itoa x).toArray).size = (Lib.itoa x).length := rfl; omega) Hb1.out.size).mono ?_
      rintro e w2 ⟨rfl, hB2, hb2⟩
      have Hb2 := Lib.hid (Hb1.out.trans hb2)
      have HB2 := Lib.hid hB2.isB
      clear hb2 hB2
      have hlim : ((Lib.byteCells (skyB s k)) ++ Lib.strCells ⟨(Lib.itoa x).toArray⟩).length + 1 ≤ 140737488355328 := by
        rw [List.length_append, Lib.byteCells_length, Lib.strCells_length]
        have := Hlen.out; have := Hl.out; have e : (ByteArray.mk (Lib.itoa x).toArray).size = (Lib.itoa x).length := rfl
        omega
      have Hlim := Lib.hid hlim; clear hlim
      by_cases h4 : k % 4 = 3
      · have h4i : ((k : Int) % 4 == 3) = true := by rw [beq_iff_eq]; omega
        go_wp2_with fail
        refine (writeString_any w.heap.size w.heap.size _ _ _ HB2.out (by exact Hlim.out) Hb2.out.size).mono ?_
        rintro e w3 ⟨rfl, hB3, hb3⟩
        have Hb3 := Lib.hid (Hb2.out.trans hb3)
        have HB3 := Lib.hid hB3.isB
        clear hb3 hB3
        go_wp2_with fail
        go_roundw
        case measure => simp [intOf]; omega
        case rel =>
          refine ⟨k + 1, by omega, by go_num, ?_, Hb3.out⟩
          rw [Hs.out]
          have := HB3.out
          unfold sep4; rw [if_pos h4]
          simpa [Lib.byteCells, Lib.strCells] using this
      · have h4i : ((k : Int) % 4 == 3) = false := by rw [beq_eq_false_iff_ne]; omega
        go_wp2_with fail
        refine (writeString_any w.heap.size w.heap.size _ _ _ HB2.out (by exact Hlim.out) Hb2.out.size).mono ?_
        rintro e w3 ⟨rfl, hB3, hb3⟩
        have Hb3 := Lib.hid (Hb2.out.trans hb3)
        have HB3 := Lib.hid hB3.isB
        clear hb3 hB3
        go_wp2_with fail
        go_roundw
        case measure => simp [intOf]; omega
        case rel =>
          refine ⟨k + 1, by omega, by go_num, ?_, Hb3.out⟩
          rw [Hs.out]
          have := HB3.out
          unfold sep4; rw [if_neg h4]
          simpa [Lib.byteCells, Lib.strCells] using this
    · obtain rfl : k = 16 := by omega
      go_wp2_with fail
      refine (bString_any _ _ (skyB s 16) _ HB.out Hbel.out.size).mono ?_
      rintro e w1 ⟨rfl, hb1⟩
      go_wp2_with fail
      go_ret
      exact ⟨rfl, Hbel.out.trans hb1⟩
theorem skyText_no (A : Option Addr) (n cap : Nat) (s : List Int) (w : World) (hn : s.length = n) (hm : n ≤ 1000000000) (hv : skyV s = false) (hr : Rd w w.heap.size A (s.map (Value.int .i64))) :
    Calls Tryz.prog 26 #[.slice A n cap] w fun e w' => e = .returned (.string ⟨#[]⟩) ∧ Below w.heap.size w w' := by
  have Hn := Lib.hid hn; clear hn
  have Hv := Lib.hid hv; clear hv
  go_enter Tryz.func26, Tryz.ntmps26
  go_wp2_with (go_at_call 64; refine (skyValid_any _ _ _ s _ Hn.out hm hr).mono ?_; rintro e w' ⟨rfl, rfl⟩; rw [Hv.out])
  go_ret
  exact ⟨rfl, Below.refl _ _⟩
theorem skyText_any (A : Option Addr) (n cap : Nat) (s : List Int) (w : World) (hn : s.length = n) (hm : n ≤ 1000000000) (hr : Rd w w.heap.size A (s.map (Value.int .i64))) (ht : Tab w) :
    Calls Tryz.prog 26 #[.slice A n cap] w fun e w' => e = .returned (.string ⟨(skyStr s).toArray⟩) ∧ Below w.heap.size w w' := by
  unfold skyStr
  by_cases hv : skyV s = true
  · obtain rfl : n = 16 := by rw [← hn]; exact skyV_len hv
    rw [if_pos hv]
    exact skyText_yes A cap s w hv hr ht
  · rw [if_neg hv]
    exact skyText_no A n cap s w hn hm (by simpa using hv) hr

theorem sSkyText_yes (A : Option Addr) (cap : Nat) (s : List Int) (w : World) (hv : skyV s = true) (hr : Rd w w.heap.size A (s.map (Value.int .i64))) :
    Calls Tryz.prog 160 #[.slice A 16 cap] w fun e w' => e = .returned (.string ⟨(skyB s 16).toArray⟩) ∧ Below w.heap.size w w' := by
  have Hn := Lib.hid (skyV_len hv)
  have Hv := Lib.hid hv; clear hv
  go_enter Tryz.func160, Tryz.ntmps160
  go_wp2_with fail
  go_loopw [3, 4] (fun s0 i wr => ∃ k : Nat, k ≤ 16 ∧ i = .int .i64 k ∧ s0 = .string ⟨(skyB s k).toArray⟩ ∧ Below w.heap.size w wr) (fun _ i _ => 16 - (intOf i).toNat)
  case atStart => exact ⟨0, by omega, rfl, rfl, Below.refl _ _⟩
  case round =>
    obtain ⟨k, hk, rfl, rfl, hbel⟩ := hrel
    have hr' := hr.below hbel
    have Hbel := Lib.hid hbel; clear hbel
    by_cases hlt : k < 16
    · go_wp2_with fail
      refine (sSkyValid_any _ _ _ s _ Hn.out (by omega) (hr'.more Hbel.out.size)).mono ?_
      rintro e w1 ⟨rfl, rfl⟩
      rw [Hv.out]
      obtain ⟨b, off, rfl, hb, hc1⟩ := hr' k _ (ints_get (by rw [Hn.out]; exact hlt))
      have Hs := Lib.hid (skyB_succ s k)
      have hxb := skyV_get Hv.out k
      have hlen := skyB_len (s := s) (fun x hx => by have := (skyV_iff.1 Hv.out).2 x hx; omega) k
      generalize s.getD k 0 = x at *
      have Hxb := Lib.hid hxb; clear hxb
      have hl := itoa_short (n := x) (by have := Hxb.out; omega) (by have := Hxb.out; omega)
      have g1 : ¬ 9223372036854775807 < (skyB s k).length + (Lib.itoa x).length := by omega
      have g2 : ¬ 9223372036854775807 < (skyB s k).length + (Lib.itoa x).length + 1 := by omega
      clear hlen hl
      go_wp2_with fail
      refine (sDec_any x (by have := Hxb.out; omega) _).mono ?_
      rintro e w1 ⟨rfl, hb1⟩
      have Hb1 := Lib.hid (Hbel.out.trans (hb1.mono Hbel.out.size))
      clear hb1
      by_cases h4 : k % 4 = 3
      · have h4i : ((k : Int) % 4 == 3) = true := by rw [beq_iff_eq]; omega
        go_wp2_with fail
        go_roundw
        case measure => simp [intOf]; omega
        case rel =>
          refine ⟨k + 1, by omega, by go_num, ?_, Hb1.out⟩
          rw [Hs.out]
          unfold sep4; rw [if_pos h4, str_app, ← List.append_assoc]
          exact congrArg Value.string (str_app _ [10])
      · have h4i : ((k : Int) % 4 == 3) = false := by rw [beq_eq_false_iff_ne]; omega
        go_wp2_with fail
        go_roundw
        case measure => simp [intOf]; omega
        case rel =>
          refine ⟨k + 1, by omega, by go_num, ?_, Hb1.out⟩
          rw [Hs.out]
          unfold sep4; rw [if_neg h4, str_app, ← List.append_assoc]
          exact congrArg Value.string (str_app _ [32])
    · obtain rfl : k = 16 := by omega
      go_wp2_with fail
      go_ret
      exact ⟨rfl, Hbel.out⟩
theorem sSkyText_no (A : Option Addr) (n cap : Nat) (s : List Int) (w : World) (hn : s.length = n) (hm : n ≤ 1000000000) (hv : skyV s = false) (hr : Rd w w.heap.size A (s.map (Value.int .i64))) :
    Calls Tryz.prog 160 #[.slice A n cap] w fun e w' => e = .returned (.string ⟨#[]⟩) ∧ Below w.heap.size w w' := by
  have Hn := Lib.hid hn; clear hn
  have Hv := Lib.hid hv; clear hv
  by_cases h0 : n = 0
  · subst h0
    go_enter Tryz.func160, Tryz.ntmps160
    go_wp2_with fail
    refine wp_loop_rounds 1 ?_
    rw [rounds_succ]
    go_wp2_with fail
    go_ret
    exact ⟨rfl, Below.refl _ _⟩
  · have hp : (0 : Int) < (n : Int) := by omega
    go_enter Tryz.func160, Tryz.ntmps160
    go_wp2_with fail
    refine wp_loop_rounds 1 ?_
    rw [rounds_succ]
    go_wp2_with fail
    refine (sSkyValid_any _ _ _ s _ Hn.out hm hr).mono ?_
    rintro e w1 ⟨rfl, rfl⟩
    rw [Hv.out]
    go_wp2_with fail
    go_ret
    exact ⟨rfl, Below.refl _ _⟩
theorem sSkyText_any (A : Option Addr) (n cap : Nat) (s : List Int) (w : World) (hn : s.length = n) (hm : n ≤ 1000000000) (hr : Rd w w.heap.size A (s.map (Value.int .i64))) :
    Calls Tryz.prog 160 #[.slice A n cap] w fun e w' => e = .returned (.string ⟨(skyStr s).toArray⟩) ∧ Below w.heap.size w w' := by
  unfold skyStr
  by_cases hv : skyV s = true
  · obtain rfl : n = 16 := by rw [← hn]; exact skyV_len hv
    rw [if_pos hv]
    exact sSkyText_yes A cap s w hv hr
  · rw [if_neg hv]
    exact sSkyText_no A n cap s w hn hm (by simpa using hv) hr
end Go.Proofs.YtipgpafgampfbaaGreatDoor

namespace Go.Proofs.YtipgpafgampfbaaGreatDoor
open Go.RowKit

theorem strInfo : (Tryz.prog.info? 9).map (fun i => (i.zero, i.size, i.bytes)) = some (some (.string ⟨#[]⟩), 1, 16) := by kernel_rfl
/-- Texts as cells. -/
def strs (ls : List (List UInt8)) : List Value := ls.map fun l => Value.string ⟨l.toArray⟩
theorem strs_len (ls : List (List UInt8)) : (strs ls).length = ls.length := by simp [strs]
theorem strs_app (a b : List (List UInt8)) : strs (a ++ b) = strs a ++ strs b := by simp [strs]
theorem strs_get {ls : List (List UInt8)} {k : Nat} (h : k < ls.length) : (strs ls)[k]? = some (.string ⟨(ls.getD k []).toArray⟩) := by
  unfold strs
  rw [List.getElem?_map, List.getElem?_eq_getElem h, List.getD_eq_getElem?_getD, List.getElem?_eq_getElem h]; rfl
theorem strs_of (L : List ByteArray) : L.map Value.string = strs (L.map (·.data.toList)) := by
  unfold strs; rw [List.map_map]
  exact List.map_congr_left fun x _ => by simp

/-- The piece of a text between two places. -/
def piece (l : List UInt8) (a b : Nat) : List UInt8 := (l.drop a).take (b - a)
theorem str_get (l : List UInt8) (k : Nat) (b : UInt8) (hb : l[k]? = some b) : ∀ h : k < (ByteArray.mk l.toArray).size, (ByteArray.mk l.toArray)[k] = b := fun h => by
  have hk : k < l.length := h
  rw [List.getElem?_eq_getElem hk] at hb
  injection hb
theorem extract_str (l : List UInt8) (a b : Nat) : (ByteArray.mk l.toArray).extract a b = ⟨(piece l a b).toArray⟩ := by
  apply ByteArray.ext
  apply Array.ext'
  rw [Lib.extract_data]
  rfl
theorem piece_all (l : List UInt8) (a : Nat) : piece l a l.length = l.drop a := by
  unfold piece
  exact List.take_of_length_le (by simp)
theorem piece_succ (l : List UInt8) (a k : Nat) (b : UInt8) (hak : a ≤ k) (hb : l[k]? = some b) : piece l a (k + 1) = piece l a k ++ [b] := by
  unfold piece
  rw [show k + 1 - a = (k - a) + 1 by omega, List.take_add_one, List.getElem?_drop, show a + (k - a) = k by omega, hb]
  rfl
theorem drop_piece (l : List UInt8) (a k : Nat) (b : UInt8) (hak : a ≤ k) (hb : l[k]? = some b) : l.drop a = piece l a k ++ b :: l.drop (k + 1) := by
  have hk : k < l.length := (List.getElem?_eq_some_iff.1 hb).1
  have e : l.drop k = b :: l.drop (k + 1) := by
    rw [List.drop_eq_getElem_cons hk]
    rw [List.getElem?_eq_getElem hk] at hb
    injection hb with hb
    rw [hb]
  unfold piece
  rw [← e]
  conv => lhs; rw [← List.take_append_drop (k - a) (l.drop a)]
  rw [List.drop_drop, show a + (k - a) = k by omega]
theorem u8_int {b c : UInt8} (h : b ≠ c) : ((b.toNat : Int) == (c.toNat : Int)) = false := by
  rw [beq_eq_false_iff_ne]
  exact fun e => h (UInt8.toNat_inj.1 (by omega))

set_option maxRecDepth 100000 in
set_option maxHeartbeats 1000000 in
theorem l41Cut_any (l : List UInt8) (c : UInt8) (w : World) (hs : l.length ≤ 2000000) :
    Calls Tryz.prog 58 #[.string ⟨l.toArray⟩, .int .u8 c.toNat] w fun e w' => ∃ v, e = .returned v ∧ w'.ownsRow w.heap.size 9 1 v (cut c l).length (strs (cut c l)) ∧ Below w.heap.size w w' := by
  obtain ⟨i0, hi, hz0, hz1, hz2⟩ := info_parts strInfo
  have hsz : (ByteArray.mk l.toArray).size = l.length := rfl
  go_enter Tryz.func58, Tryz.ntmps58
  go_wp2_with fail
  have r0 := (Row.new w 9 []).own (base := w.heap.size) (size := 1) (n := 0) (Nat.le_refl _) rfl (by unfold maxLen; omega)
  go_loopw [5, 6, 7] (fun o f i wr => ∃ (k fr : Nat) (acc : List (List UInt8)), fr ≤ k ∧ k ≤ l.length ∧ i = .int .i64 k ∧ f = .int .i64 fr ∧ acc.length ≤ fr ∧ acc ++ cut c (l.drop fr) = cut c l ∧ c ∉ piece l fr k ∧
    wr.ownsRow w.heap.size 9 1 o acc.length (strs acc) ∧ Below w.heap.size w wr) (fun _ _ i _ => l.length - (intOf i).toNat)
  case atStart => exact ⟨0, 0, [], by omega, by omega, rfl, rfl, by simp, by simp, by simp [piece], r0, bA1⟩
  case round =>
    obtain ⟨k, fr, acc, hfk, hk, rfl, rfl, hal, hcut, hno, hown, hbel⟩ := hrel
    have hbs := hbel.size
    by_cases hlt : k < l.length
    · have hb : l[k]? = some l[k] := List.getElem?_eq_getElem hlt
      generalize l[k] = b at hb
      have hg := str_get l k b hb
      have hx := extract_str l fr k
      have hdp := drop_piece l fr k b hfk hb
      have hps := piece_succ l fr k b hfk hb
      have Hcut := Lib.hid hcut; clear hcut
      have Hno := Lib.hid hno; clear hno
      have Hown := Lib.hid hown; clear hown
      have Hbel := Lib.hid hbel; clear hbel
      have Hb := Lib.hid hb; clear hb
      have Hdp := Lib.hid hdp; clear hdp
      have Hps := Lib.hid hps; clear hps
      by_cases hbc : b = c
      · subst hbc
        go_wp2_with (at_builtin; refine wpList_append_own _ rfl _ _ 72 rfl w.heap.size 9 i0 (.string ⟨#[]⟩) 1 16 (by kernel_rfl) hi hz0 hz1 hz2 rfl (by decide) _ acc.length _ rfl (Hown.out.alloc _) ⟨wr.heap.size, 0, none⟩ 1 1 [.string ⟨(piece l fr k).toArray⟩] rfl rfl (cell_one_new _ _ _) (by simp [Value.oneCell']) (by unfold maxLen; omega) (by omega) (by simp; omega) ?_; intro v' w7 hown' hgrow _; obtain ⟨g', cap', rfl⟩ := ownsRow_succ hown')
        have hb7 := (Hbel.out.alloc hbs _).grown hgrow (by simp; omega) fun j hj => (own_lt Hown.out hj).1
        have Hb7 := Lib.hid hb7; clear hb7
        have Hown' := Lib.hid hown'; clear hown'
        clear hgrow
        go_roundw
        case measure => simp [intOf]; omega
        case rel =>
          refine ⟨k + 1, k + 1, acc ++ [piece l fr k], by omega, by omega, by go_num, by go_num, by simp; omega, ?_, by simp [piece], ?_, Hb7.out⟩
          · rw [← Hcut.out, Hdp.out, cut_hit _ Hno.out]; simp
          · have := Hown'.out
            rw [strs_app, List.length_append]
            exact this
      · have hbi := u8_int hbc
        have Hbc := Lib.hid hbc; clear hbc
        go_wp2_with fail
        go_roundw
        case measure => simp [intOf]; omega
        case rel =>
          refine ⟨k + 1, fr, acc, by omega, by omega, by go_num, rfl, hal, Hcut.out, ?_, Hown.out, Hbel.out⟩
          rw [Hps.out, List.mem_append, not_or]
          exact ⟨Hno.out, by simpa using fun e => Hbc.out e.symm⟩
    · obtain rfl : k = l.length := by omega
      have hx := extract_str l fr l.length
      rw [piece_all] at hx hno
      rw [cut_none hno] at hcut
      have Hcut := Lib.hid hcut; clear hcut
      have Hno := Lib.hid hno; clear hno
      have Hown := Lib.hid hown; clear hown
      have Hbel := Lib.hid hbel; clear hbel
      go_wp2_with (at_builtin; refine wpList_append_own _ rfl _ _ 72 rfl w.heap.size 9 i0 (.string ⟨#[]⟩) 1 16 (by kernel_rfl) hi hz0 hz1 hz2 rfl (by decide) _ acc.length _ rfl (Hown.out.alloc _) ⟨wr.heap.size, 0, none⟩ 1 1 [.string ⟨(l.drop fr).toArray⟩] rfl rfl (cell_one_new _ _ _) (by simp [Value.oneCell']) (by unfold maxLen; omega) (by omega) (by simp; omega) ?_; intro v' w7 hown' hgrow _; obtain ⟨g', cap', rfl⟩ := ownsRow_succ hown')
      have hb7 := (Hbel.out.alloc hbs _).grown hgrow (by simp; omega) fun j hj => (own_lt Hown.out hj).1
      have Hb7 := Lib.hid hb7; clear hb7
      have Hown' := Lib.hid hown'; clear hown'
      clear hgrow
      go_ret
      refine ⟨_, rfl, ?_, Hb7.out⟩
      rw [← Hcut.out, strs_app, List.length_append]
      exact Hown'.out
/-- The reference's number of a word. -/
def decOr (g : Int) (d : List UInt8) : Int := match Lib.decFrom 0 d with
  | some m => g * (m : Int)
  | none => 99999999
theorem num7_neg {r : List UInt8} (h1 : 1 ≤ r.length) (h7 : r.length ≤ 7) : num7 (45 :: r) = decOr (-1) r := by
  unfold num7 numOf decOr
  have h0 : r.isEmpty = false := by cases r with | nil => simp at h1 | cons _ _ => rfl
  simp only [if_true, h0, Bool.false_or, decide_eq_true_eq]
  rw [if_neg (by omega)]
  cases Lib.decFrom 0 r <;> simp
theorem num7_neg_no {r : List UInt8} (h : ¬ (1 ≤ r.length ∧ r.length ≤ 7)) : num7 (45 :: r) = 99999999 := by
  unfold num7 numOf
  simp only [if_true]
  rw [if_pos]
  · rfl
  · simp only [Bool.or_eq_true, decide_eq_true_eq]
    cases r with
    | nil => exact .inl rfl
    | cons a t => right; simp at h ⊢; omega
theorem num7_pos {b : UInt8} {r : List UInt8} (hb : b ≠ 45) (h7 : (b :: r).length ≤ 7) : num7 (b :: r) = decOr 1 (b :: r) := by
  unfold num7 numOf decOr
  simp only [if_neg hb, decide_eq_true_eq]
  rw [if_neg (by omega)]
  cases Lib.decFrom 0 (b :: r) <;> simp
theorem num7_pos_no {b : UInt8} {r : List UInt8} (hb : b ≠ 45) (h : ¬ (b :: r).length ≤ 7) : num7 (b :: r) = 99999999 := by
  unfold num7 numOf
  simp only [if_neg hb, decide_eq_true_eq]
  rw [if_pos (by omega)]
  rfl

set_option maxRecDepth 100000 in
set_option maxHeartbeats 1000000 in
theorem l41Number_any (l : List UInt8) (w : World) (hs : l.length ≤ 2000000) :
    Calls Tryz.prog 100 #[.string ⟨l.toArray⟩] w fun e w' => e = .returned (.int .i64 (num7 l)) ∧ w = w' := by
  by_cases h0 : l = []
  · subst h0
    go_enter Tryz.func100, Tryz.ntmps100
    go_wp2_with fail
    refine (l6In_any _ _ _ _).mono ?_
    rintro e w' ⟨rfl, rfl⟩
    rw [show inR 0 1 7 = false from by decide]
    go_wp2_with fail
    go_ret
    exact ⟨rfl, rfl⟩
  · obtain ⟨b, r, hl⟩ : ∃ b r, l = b :: r := by
      cases l with
      | nil => exact absurd rfl h0
      | cons b r => exact ⟨b, r, rfl⟩
    have hg := str_get l 0 b (by rw [hl]; rfl)
    have hsz : (ByteArray.mk l.toArray).size = l.length := rfl
    have hll : l.length = r.length + 1 := by rw [hl]; rfl
    have hpos : (0 : Int) < (l.length : Int) := by omega
    clear h0
    by_cases hb : b = 45
    · subst hb
      have hx : (ByteArray.mk l.toArray).extract 1 l.length = ⟨r.toArray⟩ := by
        rw [extract_str, piece_all, hl]; rfl
      have hsr : (ByteArray.mk r.toArray).size = r.length := rfl
      have hnn : (if 1 ≤ r.length ∧ r.length ≤ 7 then decOr (-1) r else 99999999) = num7 l := by
        rw [hl]
        split
        · rename_i h; exact (num7_neg h.1 h.2).symm
        · rename_i h; exact (num7_neg_no h).symm
      have Hl := Lib.hid hl; clear hl
      have Hnn := Lib.hid hnn; clear hnn
      have Hll := Lib.hid hll; clear hll
      go_enter Tryz.func100, Tryz.ntmps100
      go_wp2_with fail
      refine (l6In_any _ _ _ _).mono ?_
      rintro e w' ⟨rfl, rfl⟩
      by_cases h17 : 1 ≤ r.length ∧ r.length ≤ 7
      · rw [inR_iff.2 (show (1 : Int) ≤ (r.length : Int) ∧ (r.length : Int) ≤ 7 by omega)]
        have HD := Lib.hid (Hnn.out.symm.trans (if_pos h17))
        clear hx hg
        go_wp2_with fail
        go_loopw [4, 5] (fun n i wr => ∃ (k m : Nat), k ≤ r.length ∧ i = .int .i64 k ∧ n = .int .i64 m ∧ Lib.decFrom 0 (r.take k) = some m ∧ wr = w) (fun _ i _ => r.length - (intOf i).toNat)
        case atStart => exact ⟨0, 0, by omega, rfl, rfl, rfl, rfl⟩
        case round =>
          obtain ⟨k, m, hk, rfl, rfl, hm, rfl⟩ := hrel
          by_cases hlt : k < r.length
          · have hb : r[k]? = some r[k] := List.getElem?_eq_getElem hlt
            generalize r[k] = b at hb
            have hg := str_get r k b hb
            have hmb := Lib.decFrom_lt _ _ _ hm
            have hmc : m < 10000000 := by
              have h1 : (r.take k).length ≤ 7 := by rw [List.length_take]; omega
              have h2 : 10 ^ (r.take k).length ≤ 10 ^ 7 := Nat.pow_le_pow_right (by decide) h1
              omega
            clear hmb
            have hstep := fun d hd => Lib.decFrom_take r k 0 m b d hm hb hd
            by_cases hdig : 48 ≤ b.toNat ∧ b.toNat ≤ 57
            · have hd : Lib.digitVal b = some (b.toNat - 48) := by unfold Lib.digitVal; rw [if_pos hdig]
              have hs := hstep _ hd
              have g1 : ¬ ((b.toNat : Int) < 48) := by omega
              have g2 : ¬ ((57 : Int) < (b.toNat : Int)) := by omega
              have Hm := Lib.hid hm; clear hm
              have Hb := Lib.hid hb; clear hb
              have Hs := Lib.hid hs; clear hs
              have Hd := Lib.hid hd; clear hd
              clear hstep
              go_wp2_with fail
              go_roundw
              case measure => simp [intOf]; omega
              case rel => exact ⟨k + 1, m * 10 + (b.toNat - 48), by omega, by go_num, by congr 1; simp; omega, Hs.out, by first | rfl | trivial⟩
            · have hno : Lib.decFrom 0 r = none := by
                cases hd : Lib.decFrom 0 r with
                | none => rfl
                | some v =>
                  obtain ⟨d, hd2⟩ := Lib.digit_of_decFrom r 0 v hd k b hb
                  unfold Lib.digitVal at hd2
                  rw [if_neg hdig] at hd2
                  cases hd2
              clear hstep
              have Hm := Lib.hid hm; clear hm
              have Hb := Lib.hid hb; clear hb
              have Hno := Lib.hid hno; clear hno
              by_cases g1 : (b.toNat : Int) < 48
              · go_wp2_with fail
                go_ret
                exact ⟨by rw [HD.out, decOr, Hno.out]; rfl, rfl⟩
              · have g2 : (57 : Int) < (b.toNat : Int) := by omega
                go_wp2_with fail
                go_ret
                exact ⟨by rw [HD.out, decOr, Hno.out]; rfl, rfl⟩
          · obtain rfl : k = r.length := by omega
            rw [List.take_length] at hm
            have Hm := Lib.hid hm; clear hm
            have hmc : m < 10000000 := by
              have hmb := Lib.decFrom_lt _ _ _ Hm.out
              have h2 : 10 ^ r.length ≤ 10 ^ 7 := Nat.pow_le_pow_right (by decide) (by omega)
              omega
            go_wp2_with fail
            go_ret
            exact ⟨by rw [HD.out, decOr, Hm.out]; simp, rfl⟩
      · rw [inR_no.2 (show ¬ ((1 : Int) ≤ (r.length : Int) ∧ (r.length : Int) ≤ 7) by omega)]
        have HD := Lib.hid (Hnn.out.symm.trans (if_neg h17))
        clear hx hg
        go_wp2_with fail
        go_ret
        exact ⟨by rw [HD.out]; rfl, rfl⟩
    · have hbi : ((b.toNat : Int) == 45) = false := u8_int (c := 45) hb
      have hnn : (if 1 ≤ l.length ∧ l.length ≤ 7 then decOr 1 l else 99999999) = num7 l := by
        split
        · rename_i h; rw [hl] at h ⊢; exact (num7_pos hb h.2).symm
        · rename_i h; rw [hl] at h ⊢; exact (num7_pos_no hb (by simp at h ⊢; omega)).symm
      have Hl := Lib.hid hl; clear hl
      have Hnn := Lib.hid hnn; clear hnn
      have Hll := Lib.hid hll; clear hll
      go_enter Tryz.func100, Tryz.ntmps100
      go_wp2_with fail
      refine (l6In_any _ _ _ _).mono ?_
      rintro e w' ⟨rfl, rfl⟩
      by_cases h17 : 1 ≤ l.length ∧ l.length ≤ 7
      · rw [inR_iff.2 (show (1 : Int) ≤ (l.length : Int) ∧ (l.length : Int) ≤ 7 by omega)]
        have HD := Lib.hid (Hnn.out.symm.trans (if_pos h17))
        clear hg
        go_wp2_with fail
        go_loopw [4, 5] (fun n i wr => ∃ (k m : Nat), k ≤ l.length ∧ i = .int .i64 k ∧ n = .int .i64 m ∧ Lib.decFrom 0 (l.take k) = some m ∧ wr = w) (fun _ i _ => l.length - (intOf i).toNat)
        case atStart => exact ⟨0, 0, by omega, rfl, rfl, rfl, rfl⟩
        case round =>
          obtain ⟨k, m, hk, rfl, rfl, hm, rfl⟩ := hrel
          by_cases hlt : k < l.length
          · have hb : l[k]? = some l[k] := List.getElem?_eq_getElem hlt
            generalize l[k] = b at hb
            have hg := str_get l k b hb
            have hmb := Lib.decFrom_lt _ _ _ hm
            have hmc : m < 10000000 := by
              have h1 : (l.take k).length ≤ 7 := by rw [List.length_take]; omega
              have h2 : 10 ^ (l.take k).length ≤ 10 ^ 7 := Nat.pow_le_pow_right (by decide) h1
              omega
            clear hmb
            have hstep := fun d hd => Lib.decFrom_take l k 0 m b d hm hb hd
            by_cases hdig : 48 ≤ b.toNat ∧ b.toNat ≤ 57
            · have hd : Lib.digitVal b = some (b.toNat - 48) := by unfold Lib.digitVal; rw [if_pos hdig]
              have hs := hstep _ hd
              have g1 : ¬ ((b.toNat : Int) < 48) := by omega
              have g2 : ¬ ((57 : Int) < (b.toNat : Int)) := by omega
              have Hm := Lib.hid hm; clear hm
              have Hb := Lib.hid hb; clear hb
              have Hs := Lib.hid hs; clear hs
              have Hd := Lib.hid hd; clear hd
              clear hstep
              go_wp2_with fail
              go_roundw
              case measure => simp [intOf]; omega
              case rel => exact ⟨k + 1, m * 10 + (b.toNat - 48), by omega, by go_num, by congr 1; simp; omega, Hs.out, by first | rfl | trivial⟩
            · have hno : Lib.decFrom 0 l = none := by
                cases hd : Lib.decFrom 0 l with
                | none => rfl
                | some v =>
                  obtain ⟨d, hd2⟩ := Lib.digit_of_decFrom l 0 v hd k b hb
                  unfold Lib.digitVal at hd2
                  rw [if_neg hdig] at hd2
                  cases hd2
              clear hstep
              have Hm := Lib.hid hm; clear hm
              have Hb := Lib.hid hb; clear hb
              have Hno := Lib.hid hno; clear hno
              by_cases g1 : (b.toNat : Int) < 48
              · go_wp2_with fail
                go_ret
                exact ⟨by rw [HD.out, decOr, Hno.out]; rfl, rfl⟩
              · have g2 : (57 : Int) < (b.toNat : Int) := by omega
                go_wp2_with fail
                go_ret
                exact ⟨by rw [HD.out, decOr, Hno.out]; rfl, rfl⟩
          · obtain rfl : k = l.length := by omega
            rw [List.take_length] at hm
            have Hm := Lib.hid hm; clear hm
            have hmc : m < 10000000 := by
              have hmb := Lib.decFrom_lt _ _ _ Hm.out
              have h2 : 10 ^ l.length ≤ 10 ^ 7 := Nat.pow_le_pow_right (by decide) (by omega)
              omega
            go_wp2_with fail
            go_ret
            exact ⟨by rw [HD.out, decOr, Hm.out]; simp, rfl⟩
      · rw [inR_no.2 (show ¬ ((1 : Int) ≤ (l.length : Int) ∧ (l.length : Int) ≤ 7) by omega)]
        have HD := Lib.hid (Hnn.out.symm.trans (if_neg h17))
        clear hg
        go_wp2_with fail
        go_ret
        exact ⟨by rw [HD.out]; rfl, rfl⟩
end Go.Proofs.YtipgpafgampfbaaGreatDoor

namespace Go.Proofs.YtipgpafgampfbaaGreatDoor
open Go.RowKit

theorem own_base {W : World} {B B' e s n : Nat} {v : Value} {xs : List Value} (h : W.ownsRow B e s v n xs) (hB : B' ≤ B) : W.ownsRow B' e s v n xs := by
  rcases h with ⟨hl, h | ⟨g, cap, cur, rfl, hg, h1⟩⟩
  · exact ⟨hl, .inl h⟩
  · exact ⟨hl, .inr ⟨g, cap, cur, rfl, Nat.le_trans hB hg, h1⟩⟩

end Go.Proofs.YtipgpafgampfbaaGreatDoor

namespace Go.Proofs.YtipgpafgampfbaaGreatDoor
open Go.RowKit

/-- The visibilities of a point source at some baselines. -/
def ptL (xs : List (Int × Int)) (d : Int × Int) (amp : Int) (ps : List (Nat × Nat)) : List (Int × Int) := ps.map fun p => (amp, (dlyV xs p.2 d - dlyV xs p.1 d) % 360)
theorem ptL_snoc (xs : List (Int × Int)) (d : Int × Int) (amp : Int) (ps : List (Nat × Nat)) (p : Nat × Nat) : ptL xs d amp (ps ++ [p]) = ptL xs d amp ps ++ [(amp, (dlyV xs p.2 d - dlyV xs p.1 d) % 360)] := by unfold ptL; rw [List.map_append]; rfl
theorem ptL_len (xs : List (Int × Int)) (d : Int × Int) (amp : Int) (ps : List (Nat × Nat)) : (ptL xs d amp ps).length = ps.length := by simp [ptL]
def ptV (xs : List (Int × Int)) (d : Int × Int) (amp : Int) : Bool := arrV xs && (antOk d && inR amp 1 1000000)
set_option maxRecDepth 100000 in
set_option maxHeartbeats 1000000 in
theorem sVisPoint_yes (A : Option Addr) (n cap : Nat) (xs : List (Int × Int)) (d : Int × Int) (amp : Int) (w : World) (hn : xs.length = n) (hk : n ≤ cap) (hv : ptV xs d amp = true) (hr : Rd w w.heap.size A (xs.flatMap pairCells)) :
    Calls Tryz.prog 40 #[.slice A n cap, .agg #[.int .i64 d.1, .int .i64 d.2], .int .i64 amp] w fun e w' =>
      ∃ v, e = .returned (.tuple #[v, .bool true]) ∧ w'.ownsRow w.heap.size 58 2 v (pairsN n).length ((ptL xs d amp (pairsN n)).flatMap pairCells) ∧ Below w.heap.size w w' := by
  obtain ⟨i0, hi, hz0, hz1, hz2⟩ := info_parts visInfo2
  unfold ptV at hv
  rw [Bool.and_eq_true, Bool.and_eq_true] at hv
  obtain ⟨v1, v2, v3⟩ := hv
  have hl := arrV_len v1
  have h2 : 2 ≤ n := by omega
  have h7 : n ≤ 7 := by omega
  have hab := inR_iff.1 v3
  obtain ⟨d1, d2⟩ := d
  dsimp only at *
  have hDP := fun i j W (hi : i < n) (hj : j < n) (h : Below w.heap.size w W) => sdelayPhase_yes A n cap xs i j (d1, d2) W hn hk v1 hi hj v2 (hr.ext h)
  dsimp only at hDP
  have r0 := Row.new w 50 [.int .i64 d1, .int .i64 d2]
  have hr1 := hr.ext (bA2 (o := .cells #[.int .i64 d1, .int .i64 d2] 50) (o' := .cells #[] 58))
  have r1 := r0.alloc (.cells #[] 58)
  have e1 := Row.new (w.alloc (.cells #[.int .i64 d1, .int .i64 d2] 50)) 58 []
  obtain ⟨c0, c1, _, _⟩ := r1.two
  have Hn := Lib.hid hn; clear hn
  have V1 := Lib.hid v1; clear v1
  have V2 := Lib.hid v2; clear v2
  have V3 := Lib.hid v3; clear v3
  have HDP := Lib.hid hDP; clear hDP
  go_enter Tryz.func40, Tryz.ntmps40
  go_wp2_with fail
  refine (sArrayValid_any A n cap xs _ Hn.out (by omega) hr1).mono ?_
  rintro e w1 ⟨rfl, b1⟩
  rw [V1.out]
  have B1 := bA2.trans (b1.mono bA2.size)
  have r2 := r1.kept b1
  have e2 := e1.kept b1
  obtain ⟨c0, c1, _, _⟩ := r2.two
  clear r0 r1 e1
  go_wp2_with fail
  refine (l3Place_any (d1, d2) _).mono ?_
  rintro e w2 ⟨rfl, b2⟩
  rw [V2.out]
  have B2 := B1.trans (b2.mono B1.size)
  have r3 := r2.kept b2
  have e3 := e2.kept b2
  clear b1 b2 r2 e2 c0 c1
  go_wp2_with fail
  refine (l6In_any amp 1 1000000 _).mono ?_
  rintro e w3 ⟨rfl, rfl⟩
  rw [V3.out]
  rw [World.size_alloc] at e3
  have e4 := e3.own (base := w.heap.size + 1) (size := 2) (n := 0) (Nat.le_refl _) rfl (by unfold maxLen; omega)
  have hlt3 := r3.lt
  go_wp2_with fail
  have hD : ∀ wr, Below (w.heap.size + 1) w2 wr → wr.cell? ⟨w.heap.size, 0, none⟩ = some (.int .i64 d1) ∧ wr.cell? ⟨w.heap.size, 1, none⟩ = some (.int .i64 d2) := fun wr h =>
    ⟨(h.cell (p := ⟨w.heap.size, 0, none⟩) (Nat.lt_succ_self _)).trans (r3.cell 0), (h.cell (p := ⟨w.heap.size, 1, none⟩) (Nat.lt_succ_self _)).trans (r3.cell 1)⟩
  have hW : ∀ wr, Below (w.heap.size + 1) w2 wr → Below w.heap.size w wr := fun wr h => B2.trans (h.mono (Nat.le_succ _))
  have HD := Lib.hid hD; clear hD
  have HW := Lib.hid hW; clear hW
  clear r3 e3 hr1
  go_loopw [8, 9] (fun v i wr => ∃ k : Nat, k ≤ n ∧ i = .int .i64 k ∧ wr.ownsRow (w.heap.size + 1) 58 2 v (upTo n k).length ((ptL xs (d1, d2) amp (upTo n k)).flatMap pairCells) ∧ Below (w.heap.size + 1) w2 wr) (fun _ i _ => n - (intOf i).toNat)
  case atStart => exact ⟨0, by omega, rfl, e4, Below.refl _ _⟩
  case round =>
    obtain ⟨i, hin, rfl, hrow, hbel⟩ := hrel
    by_cases hlt : i < n
    · go_wp2_with fail
      go_loopw [8, 10] (fun v j wr => ∃ k : Nat, i < k ∧ k ≤ n ∧ j = .int .i64 k ∧ wr.ownsRow (w.heap.size + 1) 58 2 v (upTo n i ++ (rowOf n i).take (k - (i + 1))).length ((ptL xs (d1, d2) amp (upTo n i ++ (rowOf n i).take (k - (i + 1)))).flatMap pairCells) ∧ Below (w.heap.size + 1) w2 wr) (fun _ j _ => n - (intOf j).toNat)
      case atStart =>
        refine ⟨i + 1, by omega, by omega, rfl, ?_, hbel⟩
        rw [Nat.sub_self, List.take_zero, List.append_nil]
        exact hrow
      case round =>
        clear hrow hbel
        obtain ⟨j, hij, hjn, rfl, hrow, hbel⟩ := hrel
        have hlen : (upTo n i ++ (rowOf n i).take (j - (i + 1))).length ≤ 21 ∨ j = n := by
          by_cases h : j = n
          · exact .inr h
          · have h1 := upTo_len_bF n i j h7 hij hjn
            have h3 := bF_bd n i j (by omega) (by omega) (by omega)
            have h4 := bm_pairs n h2 h7
            have h5 := bm_le (n : Int)
            exact .inl (by omega)
        by_cases hlt2 : j < n
        · have hlen2 : (upTo n i ++ (rowOf n i).take (j - (i + 1))).length ≤ 21 := by rcases hlen with h | h <;> omega
          have hps : upTo n i ++ (rowOf n i).take (j + 1 - (i + 1)) = (upTo n i ++ (rowOf n i).take (j - (i + 1))) ++ [(i, j)] := by rw [rowOf_take n i j hij hlt2, List.append_assoc]
          have hsn := ptL_snoc xs (d1, d2) amp (upTo n i ++ (rowOf n i).take (j - (i + 1))) (i, j)
          generalize upTo n i ++ (rowOf n i).take (j - (i + 1)) = ps at *
          obtain ⟨c0, c1⟩ := HD.out _ hbel
          have hdp := HDP.out i j _ (by omega) hlt2 (HW.out _ hbel)
          obtain ⟨ph, hph⟩ : ∃ ph, (dlyV xs j (d1, d2) - dlyV xs i (d1, d2)) % 360 = ph := ⟨_, rfl⟩
          rw [hph] at hdp
          dsimp only at hsn
          rw [hph] at hsn
          have Hrow := Lib.hid hrow; clear hrow
          have Hps := Lib.hid hps; clear hps
          have Hsn := Lib.hid hsn; clear hsn
          have Hph := Lib.hid hph; clear hph
          have Hdp := Lib.hid hdp; clear hdp
          clear hlen
          go_wp2_with fail
          refine (Hdp.out).mono ?_
          rintro e w4 ⟨rfl, b4⟩
          have hsz := hbel.size
          have Hr4 := Lib.hid (own_ext Hrow.out b4)
          have B4 := hbel.trans (b4.mono (by omega))
          have hs4 := b4.size
          clear b4 c0 c1
          go_wp2_with (at_builtin; refine wpList_append_own _ rfl _ _ 53 rfl (w.heap.size + 1) 58 i0 (.agg #[.int .i64 0, .int .i64 0]) 2 16 (by kernel_rfl) hi hz0 hz1 hz2 rfl (by decide) _ ps.length _ rfl (Hr4.out.alloc _) ⟨w4.heap.size, 0, none⟩ 1 1 [.int .i64 amp, .int .i64 ph] rfl rfl (cell_two_new _ _ _ _) (by simp [Value.oneCell']) (by unfold maxLen; omega) (by omega) (by simp; omega) ?_; intro v' w7 hown' hgrow _; obtain ⟨g', cap', rfl⟩ := ownsRow_succ hown')
          have B7 := (B4.alloc (by omega) (.cells #[.int .i64 amp, .int .i64 ph] 58)).grown hgrow (by simp; omega) fun k ek => (own_lt Hr4.out ek).1
          have Hown' := Lib.hid hown'; clear hown'
          clear hgrow
          go_wp2_with fail
          go_roundw
          case measure => simp [intOf]; omega
          case rel =>
            refine ⟨j + 1, by omega, by omega, by go_num, ?_, B7⟩
            rw [Hps.out, List.length_append, Hsn.out, List.flatMap_append]
            exact Hown'.out
        · obtain rfl : j = n := by omega
          have Hrow := Lib.hid hrow; clear hrow
          go_wp2_with fail
          go_roundw
          case measure => simp [intOf]; omega
          case rel =>
            refine ⟨i + 1, by omega, by go_num, ?_, hbel⟩
            rw [upTo_succ, ← rowOf_all j i]
            exact Hrow.out
    · obtain rfl : i = n := by omega
      have Hrow := Lib.hid hrow; clear hrow
      go_wp2_with fail
      go_ret2
      exact ⟨_, rfl, own_base Hrow.out (by omega), HW.out _ hbel⟩

theorem sVisPoint_no (A : Option Addr) (n cap : Nat) (xs : List (Int × Int)) (d : Int × Int) (amp : Int) (w : World) (hn : xs.length = n) (hb : n ≤ 1048576) (hv : ptV xs d amp = false) (hr : Rd w w.heap.size A (xs.flatMap pairCells)) :
    Calls Tryz.prog 40 #[.slice A n cap, .agg #[.int .i64 d.1, .int .i64 d.2], .int .i64 amp] w fun e w' =>
      ∃ v, e = .returned (.tuple #[v, .bool false]) ∧ w'.ownsRow w.heap.size 58 2 v 0 [] ∧ Below w.heap.size w w' := by
  have r0 := Row.new w 50 [.int .i64 d.1, .int .i64 d.2]
  have hr1 := hr.ext (bA2 (o := .cells #[.int .i64 d.1, .int .i64 d.2] 50) (o' := .cells #[] 58))
  have r1 := r0.alloc (.cells #[] 58)
  have e1 := Row.new (w.alloc (.cells #[.int .i64 d.1, .int .i64 d.2] 50)) 58 []
  rw [World.size_alloc] at e1
  have fin : ∀ W, Below (w.heap.size + 1 + 1) ((w.alloc (.cells #[.int .i64 d.1, .int .i64 d.2] 50)).alloc (.cells #[] 58)) W → W.ownsRow w.heap.size 58 2 (.slice (some ⟨w.heap.size + 1, 0, none⟩) 0 0) 0 [] ∧ Below w.heap.size w W := fun W h =>
    ⟨own_base ((e1.kept (h.mono (by simp))).own (base := w.heap.size) (size := 2) (n := 0) (by omega) rfl (by unfold maxLen; omega)) (Nat.le_refl _), bA2.trans (h.mono (by omega))⟩
  have hz : ((w.alloc (.cells #[.int .i64 d.1, .int .i64 d.2] 50)).alloc (.cells #[] 58)).heap.size = w.heap.size + 1 + 1 := by simp
  obtain ⟨d1, d2⟩ := d
  dsimp only at *
  unfold ptV at hv
  have Hn := Lib.hid hn; clear hn
  have Fin := Lib.hid fin; clear fin
  have E1 := Lib.hid e1; clear e1
  have Hz := Lib.hid hz; clear hz
  cases v1 : arrV xs
  · clear hv
    have V1 := Lib.hid v1; clear v1
    go_enter Tryz.func40, Tryz.ntmps40
    go_wp2_with fail
    refine (sArrayValid_any A n cap xs _ Hn.out hb hr1).mono ?_
    rintro e w1 ⟨rfl, b1⟩
    rw [V1.out]
    rw [Hz.out] at b1
    go_wp2_with fail
    go_ret2
    exact ⟨_, rfl, Fin.out _ b1⟩
  · cases v2 : antOk (d1, d2)
    · clear hv
      have V1 := Lib.hid v1; clear v1
      have V2 := Lib.hid v2; clear v2
      go_enter Tryz.func40, Tryz.ntmps40
      go_wp2_with fail
      refine (sArrayValid_any A n cap xs _ Hn.out hb hr1).mono ?_
      rintro e w1 ⟨rfl, b1⟩
      rw [V1.out]
      obtain ⟨c0, c1, _, _⟩ := (r1.kept b1).two
      have hs1 := b1.size
      rw [Hz.out] at b1 hs1
      go_wp2_with fail
      refine (l3Place_any (d1, d2) _).mono ?_
      rintro e w2 ⟨rfl, b2⟩
      rw [V2.out]
      have B2 := b1.trans (b2.mono hs1)
      clear b1 b2
      go_wp2_with fail
      go_ret2
      exact ⟨_, rfl, Fin.out _ B2⟩
    · have v3 : inR amp 1 1000000 = false := by rw [v1, v2] at hv; simpa using hv
      clear hv
      have V1 := Lib.hid v1; clear v1
      have V2 := Lib.hid v2; clear v2
      have V3 := Lib.hid v3; clear v3
      go_enter Tryz.func40, Tryz.ntmps40
      go_wp2_with fail
      refine (sArrayValid_any A n cap xs _ Hn.out hb hr1).mono ?_
      rintro e w1 ⟨rfl, b1⟩
      rw [V1.out]
      obtain ⟨c0, c1, _, _⟩ := (r1.kept b1).two
      have hs1 := b1.size
      rw [Hz.out] at b1 hs1
      go_wp2_with fail
      refine (l3Place_any (d1, d2) _).mono ?_
      rintro e w2 ⟨rfl, b2⟩
      rw [V2.out]
      have B2 := b1.trans (b2.mono hs1)
      clear b1 b2
      go_wp2_with fail
      refine (l6In_any amp 1 1000000 _).mono ?_
      rintro e w3 ⟨rfl, rfl⟩
      rw [V3.out]
      go_wp2_with fail
      go_ret2
      exact ⟨_, rfl, Fin.out _ B2⟩

set_option maxRecDepth 100000 in
set_option maxHeartbeats 1000000 in
theorem sVisPhases_yes (n : Int) (A : Option Addr) (m cap : Nat) (vs : List (Int × Int)) (w : World) (hv : visV n vs = true) (hn : vs.length = m) (hr : Rd w w.heap.size A (vs.flatMap pairCells)) :
    Calls Tryz.prog 166 #[.int .i64 n, .slice A m cap] w fun e w' => ∃ v, e = .returned v ∧ w'.ownsRow w.heap.size 3 1 v m ((vs.map (·.2)).map (Value.int .i64)) ∧ Below w.heap.size w w' := by
  obtain ⟨i0, hi, hz0, hz1, hz2⟩ := info_parts intInfo
  obtain ⟨v1, v2, v3⟩ := visV_iff.1 hv
  have hm21 : m ≤ 21 := by have := bm_le n; omega
  have Hn := Lib.hid hn; clear hn
  have Hv := Lib.hid hv; clear hv
  have V2 := Lib.hid v2; clear v2
  have V3 := Lib.hid v3; clear v3
  go_enter Tryz.func166, Tryz.ntmps166
  go_wp2_with fail
  have r0 := (Row.new w 3 []).own (base := w.heap.size) (size := 1) (n := 0) (Nat.le_refl _) rfl (by unfold maxLen; omega)
  go_loopw [5, 6] (fun o i wr => ∃ k : Nat, k ≤ m ∧ i = .int .i64 k ∧ wr.ownsRow w.heap.size 3 1 o k (((vs.take k).map (·.2)).map (Value.int .i64)) ∧ Below w.heap.size w wr) (fun _ i _ => m - (intOf i).toNat)
  case atStart => exact ⟨0, by omega, rfl, r0, bA1⟩
  case round =>
    obtain ⟨k, hk, rfl, hown, hbel⟩ := hrel
    have hr' := hr.below hbel
    have hrw := hr'.more hbel.size
    have hsz := hbel.size
    by_cases hlt : k < m
    · have hg : vs[k]? = some (vs.getD k (0, 0)) := getD_of (by rw [Hn.out]; exact hlt)
      have hts := take_succ_getD (d := (0, 0)) (show k < vs.length by rw [Hn.out]; exact hlt)
      generalize vs.getD k (0, 0) = g at *
      obtain ⟨b, off, rfl, hb, hc1, hc2⟩ := rd_pair hr' hg
      obtain ⟨a, p⟩ := g
      dsimp only at hc1 hc2
      have Hown := Lib.hid hown; clear hown
      have Hts := Lib.hid hts; clear hts
      have Hg := Lib.hid hg; clear hg
      clear hr'
      go_wp2_with fail
      refine (sVisValid_any n _ _ _ vs _ Hn.out (by omega) hrw).mono ?_
      rintro e w' ⟨rfl, rfl⟩
      rw [Hv.out]
      go_wp2_with (at_builtin; refine wpList_append_own _ rfl _ _ 32 rfl w.heap.size 3 i0 (.int .i64 0) 1 8 (by kernel_rfl) hi hz0 hz1 hz2 rfl (by decide) _ k _ rfl (Hown.out.alloc _) ⟨wr.heap.size, 0, none⟩ 1 1 [.int .i64 (p)] rfl rfl (cell_one_new _ _ _) (by simp [Value.oneCell']) (by unfold maxLen; omega) (by omega) (by simp; omega) ?_; intro v' w7 hown' hgrow _; obtain ⟨g', cap', rfl⟩ := ownsRow_succ hown')
      have hb7 := (hbel.alloc hsz _).grown hgrow (by simp; omega) fun j hj => (own_lt Hown.out hj).1
      have Hown' := Lib.hid hown'; clear hown'
      clear hgrow
      go_wp2_with fail
      go_roundw
      case measure => simp [intOf]; omega
      case rel =>
        refine ⟨k + 1, by omega, by go_num, ?_, hb7⟩
        rw [Hts.out, List.map_append, List.map_append]
        exact Hown'.out
    · obtain rfl : k = m := by omega
      rw [List.take_of_length_le (by rw [Hn.out]; exact Nat.le_refl _)] at hown
      have Hown := Lib.hid hown; clear hown
      go_wp2_with fail
      go_ret
      exact ⟨_, rfl, Hown.out, hbel⟩
end Go.Proofs.YtipgpafgampfbaaGreatDoor
