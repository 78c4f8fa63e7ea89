/- Words for memory: a slice that reads as a list of cells, kept over steps that change nothing old. · Cells of a sky: the index of a cell modulo Side, and what the program's small functions on it return. · Coverages: what the program's and the reference's functions on them return. · A row of cells that the call itself made: one block, known whole. · laws.toBoolS copies, laws.eqBoolS compares. -/
import Derived.WalkKit
import Derived.WalkLawsBesides
import Derived.WalkSpells
import Derived.Below
import Derived.Laws.OwnMore
import Derived.Deep.Draws
import Derived.Lib.Hide
import Derived.KernelRfl
import Derived.Test.YtipgpafgampfbaaGreatDoorProg
import Derived.Outline
import Derived.BigQuiet
import Derived.Laws.MakeOwn
import Derived.OwnWalk
namespace Go.Proofs.YtipgpafgampfbaaGreatDoor
open Go.RowKit

/-- The slice value '.slice A n c' reads, in world w, as the cells xs, which lie below block B. -/
def Rd (w : World) (B : Nat) (A : Option Addr) (xs : List Value) : Prop :=
  ∀ (i : Nat) (u : Value), xs[i]? = some u → ∃ b off, A = some ⟨b, off, none⟩ ∧ b < B ∧ w.cell? ⟨b, off + i, none⟩ = some u

theorem Rd.nil (w : World) (B : Nat) (A : Option Addr) : Rd w B A [] := fun i u h => by simp at h

theorem Rd.below {w w' : World} {B : Nat} {A : Option Addr} {xs : List Value} (h : Rd w B A xs) (hb : Below B w w') : Rd w' B A xs := fun i u hu => by
  obtain ⟨b, off, e, hlt, hc⟩ := h i u hu
  exact ⟨b, off, e, hlt, (hb.cell (p := ⟨b, off + i, none⟩) hlt).trans hc⟩

theorem Rd.more {w : World} {B B' : Nat} {A : Option Addr} {xs : List Value} (h : Rd w B A xs) (hB : B ≤ B') : Rd w B' A xs := fun i u hu => by
  obtain ⟨b, off, e, hlt, hc⟩ := h i u hu
  exact ⟨b, off, e, by omega, hc⟩

/-- What an own row holds reads so. -/
theorem Rd.of_own {w : World} {base : Nat} {e : TypeId} {size n c : Nat} {A : Option Addr} {xs : List Value} (h : w.ownsRow base e size (.slice A n c) n xs) : Rd w w.heap.size A xs := fun i u hu => by
  obtain ⟨hl, h | ⟨g, cap, cur, hv, _, hh, _, _, hs, rfl⟩⟩ := h
  · rw [h.2] at hl
    simp at hl
    subst hl
    simp at hu
  · injection hv with hA
    subst hA
    have hlt : g < w.heap.size := by
      rcases Nat.lt_or_ge g w.heap.size with h | h
      · exact h
      · rw [Array.getElem?_eq_none h] at hh; cases hh
    refine ⟨g, 0, rfl, hlt, ?_⟩
    have h1 : cur[i]? = some u := by
      rw [List.getElem?_take] at hu
      split at hu
      · simpa using hu
      · cases hu
    rw [Nat.zero_add, cell_of_row w g i cur e (0, 0) hh]
    exact h1

/-- The cell at an index that lies within. -/
theorem Rd.at_ {w : World} {B : Nat} {A : Option Addr} {xs : List Value} (h : Rd w B A xs) {k : Nat} {u : Value} (hk : xs[k]? = some u) :
    ∃ b off, A = some ⟨b, off, none⟩ ∧ b < B ∧ w.cell? ⟨b, off + k, none⟩ = some u := h k u hk

end Go.Proofs.YtipgpafgampfbaaGreatDoor

namespace Go.Proofs.YtipgpafgampfbaaGreatDoor
open Go.RowKit

theorem ret_int {k : IntKind} {a b : Int} (h : a = b) : Ending.returned (.int k a) = .returned (.int k b) := by rw [h]
theorem ret_bool {a b : Bool} (h : a = b) : Ending.returned (.bool a) = .returned (.bool b) := by rw [h]

theorem tmod_nonneg4 (k : Int) : 0 ≤ k.tmod 4 + 4 ∧ k.tmod 4 + 4 < 8 ∧ (k.tmod 4 + 4) % 4 = k % 4 := by
  rcases Int.le_total 0 k with h | h
  · rw [Int.tmod_eq_emod_of_nonneg h]; omega
  · obtain ⟨m, rfl⟩ : ∃ m : Int, k = -m := ⟨-k, by omega⟩
    rw [Int.neg_tmod, Int.tmod_eq_emod_of_nonneg (by omega)]; omega

theorem circle4_eq (k : Int) : (wrap64 (k.tmod 4 + 4)).tmod 4 = k % 4 := by
  have h := tmod_nonneg4 k
  rw [IntWalk.wrap64_in _ (by omega), Int.tmod_eq_emod_of_nonneg h.1]
  exact h.2.2

/-- impl.circle at 4. -/
theorem circle4 (k : Int) (w : World) :
    Calls Tryz.prog 131 #[.int .i64 k, .int .i64 4] w fun e w' => e = .returned (.int .i64 (k % 4)) ∧ w = w' := by
  go_enter Tryz.func131, Tryz.ntmps131
  go_wp2
  go_ret
  exact ⟨ret_int (circle4_eq k), rfl⟩

/-- The index of the cell (x, y), modulo 4. -/
def cellI (x y : Int) : Int := 4 * (y % 4) + x % 4
theorem cellI_bd (x y : Int) : 0 ≤ cellI x y ∧ cellI x y < 16 := by unfold cellI; omega

theorem cellAt_any (x y : Int) (w : World) :
    Calls Tryz.prog 94 #[.int .i64 x, .int .i64 y] w fun e w' => e = .returned (.int .i64 (cellI x y)) ∧ w = w' := by
  go_enter Tryz.func94, Tryz.ntmps94
  go_wp2_with (go_at_call 131; refine (circle4 _ _).mono ?_; rintro e w' ⟨rfl, rfl⟩)
  go_ret
  exact ⟨rfl, rfl⟩

/-- The index of the opposite cell. -/
def oppI (k : Int) : Int := cellI (-(k % 4)) (-(k / 4))
theorem opposite_any (k : Int) (w : World) (h0 : 0 ≤ k) (h1 : k < 16) :
    Calls Tryz.prog 110 #[.int .i64 k] w fun e w' => e = .returned (.int .i64 (oppI k)) ∧ w = w' := by
  go_enter Tryz.func110, Tryz.ntmps110
  go_wp2_with (go_at_call 94; refine (cellAt_any _ _ _).mono ?_; rintro e w' ⟨rfl, rfl⟩)
  go_ret
  exact ⟨rfl, rfl⟩

/-! ### CoverValid -/
def oppN (k : Nat) : Nat := 4 * ((4 - k / 4) % 4) + (4 - k % 4) % 4
theorem oppI_nat (k : Nat) (h : k < 16) : oppI (k : Int) = (oppN k : Int) := by unfold oppI cellI oppN; omega
theorem oppN_lt (k : Nat) : oppN k < 16 := by unfold oppN; omega

/-- A coverage: each cell is set as its opposite is. -/
def covV (c : List Bool) : Bool := c.length == 16 && (List.range 16).all fun k => c.getD (oppN k) false == c.getD k false

theorem all_range_succ (p : Nat → Bool) (k : Nat) : (List.range (k + 1)).all p = ((List.range k).all p && p k) := by
  rw [List.range_succ, List.all_append]; simp

theorem covV_no {c : List Bool} (k : Nat) (hk : k < 16) (h : (c.getD (oppN k) false == c.getD k false) = false) : covV c = false := by
  unfold covV
  rw [Bool.and_eq_false_iff]
  right
  rw [List.all_eq_false]
  exact ⟨k, List.mem_range.2 hk, by simpa using h⟩

theorem coverValid_any (A : Option Addr) (n cap : Nat) (c : List Bool) (w : World) (B : Nat) (hn : c.length = n) (hr : Rd w B A (c.map Value.bool)) :
    Calls Tryz.prog 69 #[.slice A n cap] w fun e w' => e = .returned (.bool (covV c)) ∧ w = w' := by
  by_cases hl : n = 16
  · subst hl
    have Hn := Lib.hid hn; clear hn
    go_enter Tryz.func69, Tryz.ntmps69
    go_wp2_with fail
    go_loop [10] (fun i => ∃ k : Nat, k ≤ 16 ∧ i = .int .i64 k ∧ (List.range k).all (fun k => c.getD (oppN k) false == c.getD k false) = true) (fun i => 16 - (intOf i).toNat)
    case atStart => exact ⟨0, by omega, rfl, rfl⟩
    case round =>
      obtain ⟨k, hk, rfl, hall⟩ := hrel
      have Ha := Lib.hid hall; clear hall
      by_cases hlt : k < 16
      · have e1 : (c.map Value.bool)[k]? = some (.bool (c.getD k false)) := by
          have : k < c.length := by rw [Hn.out]; exact hlt
          simp [List.getD, this]
        have e2 : (c.map Value.bool)[oppN k]? = some (.bool (c.getD (oppN k) false)) := by
          have : oppN k < c.length := by rw [Hn.out]; exact oppN_lt k
          simp [List.getD, this]
        obtain ⟨b, off, rfl, hb, hc1⟩ := hr k _ e1
        obtain ⟨b', off', hA, _, hc2⟩ := hr (oppN k) _ e2
        injection hA with hA; injection hA with h1 h2; subst h1; subst h2
        have ho := oppN_lt k
        have hoi := oppI_nat k hlt
        generalize hoN : oppN k = o at *
        generalize hx : c.getD k false = x at *
        generalize hy : c.getD o false = y at *
        clear e1 e2
        have HoN := Lib.hid hoN; clear hoN
        have Hx := Lib.hid hx; clear hx
        have Hy := Lib.hid hy; clear hy
        have Hoi := Lib.hid hoi; clear hoi
        go_wp2_with fail
        refine (opposite_any _ _ (by omega) (by omega)).mono ?_
        rintro e w' ⟨rfl, rfl⟩
        rw [Hoi.out]
        go_wp2_with fail
        · have hxy : (!y == x) = true := by assumption
          go_ret
          refine ⟨ret_bool ?_, rfl⟩
          symm
          refine covV_no k (by omega) ?_
          rw [Hx.out, HoN.out, Hy.out]
          simpa using hxy
        · have hxy : (!y == x) = false := by assumption
          go_round
          case rel =>
            refine ⟨k + 1, by omega, by go_num, ?_⟩
            rw [all_range_succ, Ha.out, Hx.out, HoN.out, Hy.out]
            simpa using hxy
          case measure => simp [intOf]; omega
      · go_wp2_with fail
        go_ret
        refine ⟨ret_bool ?_, rfl⟩
        obtain rfl : k = 16 := by omega
        unfold covV
        rw [Hn.out, Ha.out]; rfl
  · have hb : ((n : Int) != 16) = true := by rw [bne_iff_ne]; omega
    go_enter Tryz.func69, Tryz.ntmps69
    go_wp2_with fail
    go_ret
    refine ⟨ret_bool ?_, rfl⟩
    unfold covV
    rw [beq_eq_false_iff_ne.2 (by omega)]; rfl
end Go.Proofs.YtipgpafgampfbaaGreatDoor

namespace Go.Proofs.YtipgpafgampfbaaGreatDoor
open Go.RowKit

theorem quiet_left {P : Program} {f : FuncId} {args : Array Value} {w : World} {n : Nat} {v : Value}
    (h : Calls P f args (w.drewN n) fun e w' => e = .returned v ∧ w.drewN n = w') : Calls P f args (w.drewN n) fun e w'' => e = .returned v ∧ ∃ m, w'' = w.drewN m :=
  h.mono fun _ _ ⟨he, hm⟩ => ⟨he, n, hm.symm⟩
theorem below_drewN {B : Nat} {a w : World} (h : Below B a w) (n : Nat) : Below B a (w.drewN n) := ⟨h.os, h.tape, h.output, h.size, h.block⟩

theorem l21Cells_any (w : World) : Calls Tryz.prog 57 #[] w fun e w' => e = .returned (.int .i64 16) ∧ w = w' := by
  go_enter Tryz.func57, Tryz.ntmps57
  go_wp2
  go_ret
  exact ⟨rfl, rfl⟩

theorem tmod_cases (n m : Int) (hm : 0 < m) : (0 ≤ n.tmod m ∧ n.tmod m = n % m) ∨ (n.tmod m < 0 ∧ n.tmod m + m = n % m) := by
  rcases Int.le_total 0 n with h' | h'
  · rw [Int.tmod_eq_emod_of_nonneg h']
    exact .inl ⟨Int.emod_nonneg n (by omega), rfl⟩
  · obtain ⟨k, rfl⟩ : ∃ k : Int, n = -k := ⟨-n, by omega⟩
    rw [Int.neg_tmod, Int.tmod_eq_emod_of_nonneg (by omega), Int.neg_emod]
    have h1 := Int.emod_nonneg k (b := m) (by omega)
    split
    · rename_i hd
      have := Int.emod_eq_zero_of_dvd hd
      omega
    · rename_i hd
      have : k % m ≠ 0 := fun h => hd (Int.dvd_of_emod_eq_zero h)
      have h2 := Int.emod_lt_of_pos k hm
      omega

/-- spec.l1Mod: the remainder that is not negative. -/
theorem l1Mod_any (n m : Int) (w : World) (hm : 0 < m) (hm2 : m ≤ 1000000) :
    Calls Tryz.prog 108 #[.int .i64 n, .int .i64 m] w fun e w' => e = .returned (.int .i64 (n % m)) ∧ w = w' := by
  have hz : (m == 0) = false := beq_eq_false_iff_ne.2 (by omega)
  go_enter Tryz.func108, Tryz.ntmps108
  go_wp2
  · have h : n.tmod m < 0 := by assumption
    go_ret
    refine ⟨ret_int ?_, rfl⟩
    have hc := tmod_cases n m hm
    have hE := Int.emod_lt_of_pos n hm
    have hE0 := Int.emod_nonneg n (b := m) (by omega)
    show wrap64 (n.tmod m + m) = n % m
    rw [IntWalk.wrap64_in _ (by omega)]
    omega
  · have h : 0 ≤ n.tmod m := by assumption
    go_ret
    refine ⟨ret_int ?_, rfl⟩
    have hc := tmod_cases n m hm
    show n.tmod m = n % m
    omega

theorem l21At_any (x y : Int) (w : World) :
    Calls Tryz.prog 66 #[.int .i64 x, .int .i64 y] w fun e w' => e = .returned (.int .i64 (cellI x y)) ∧ w = w' := by
  go_enter Tryz.func66, Tryz.ntmps66
  go_wp2_with (go_at_call 108; refine (l1Mod_any _ 4 _ (by omega) (by omega)).mono ?_; rintro e w' ⟨rfl, rfl⟩)
  go_ret
  exact ⟨rfl, rfl⟩

/-- The reference's CoverValid (its comparison draws its order). -/
theorem sCoverValid_any (A : Option Addr) (n cap : Nat) (c : List Bool) (w : World) (hn : c.length = n) (hr : Rd w w.heap.size A (c.map Value.bool)) :
    Calls Tryz.prog 159 #[.slice A n cap] w fun e w' => e = .returned (.bool (covV c)) ∧ Below w.heap.size w w' := by
  by_cases hl : n = 16
  · subst hl
    have Hn := Lib.hid hn; clear hn
    go_enter Tryz.func159, Tryz.ntmps159
    go_wp2_with (go_at_call 57; refine (l21Cells_any _).mono ?_; rintro e w' ⟨rfl, rfl⟩)
    go_loopw [3] (fun i wr => ∃ k : Nat, k ≤ 16 ∧ i = .int .i64 k ∧ (List.range k).all (fun k => c.getD (oppN k) false == c.getD k false) = true ∧ Below w.heap.size w wr) (fun i _ => 16 - (intOf i).toNat)
    case atStart => exact ⟨0, by omega, rfl, rfl, Below.refl _ _⟩
    case round =>
      obtain ⟨k, hk, rfl, hall, hbel⟩ := hrel
      have Ha := Lib.hid hall; clear hall
      have hr' := hr.below hbel
      have Hbel := Lib.hid hbel; clear hbel
      by_cases hlt : k < 16
      · have e1 : (c.map Value.bool)[k]? = some (.bool (c.getD k false)) := by
          have : k < c.length := by rw [Hn.out]; exact hlt
          simp [List.getD, this]
        have e2 : (c.map Value.bool)[oppN k]? = some (.bool (c.getD (oppN k) false)) := by
          have : oppN k < c.length := by rw [Hn.out]; exact oppN_lt k
          simp [List.getD, this]
        obtain ⟨b, off, rfl, hb, hc1⟩ := hr' k _ e1
        obtain ⟨b', off', hA, _, hc2⟩ := hr' (oppN k) _ e2
        injection hA with hA; injection hA with h1 h2; subst h1; subst h2
        have ho := oppN_lt k
        have hcall : ∀ W : World, Calls Tryz.prog 66 #[.int .i64 (-((k : Int) % 4)), .int .i64 (-((k : Int) / 4))] W fun e w' => e = .returned (.int .i64 (oppN k : Int)) ∧ W = w' := fun W => by
          rw [← oppI_nat k hlt]; exact l21At_any _ _ _
        generalize hoN : oppN k = o at *
        generalize hx : c.getD k false = x at *
        generalize hy : c.getD o false = y at *
        clear e1 e2
        have HoN := Lib.hid hoN; clear hoN
        have Hx := Lib.hid hx; clear hx
        have Hy := Lib.hid hy; clear hy
        have Hcall := Lib.hid hcall; clear hcall
        go_wp2_with (go_at_call 57; refine (l21Cells_any _).mono ?_; rintro e w' ⟨rfl, rfl⟩)
        go_quiet ((go_at_call 66; exact quiet_left (Hcall.out _)))
        go_wp2
        · have hxy : (!x == y) = true := by assumption
          go_ret
          refine ⟨ret_bool ?_, below_drewN Hbel.out _⟩
          symm
          refine covV_no k (by omega) ?_
          rw [Hx.out, HoN.out, Hy.out]
          rw [Bool.beq_comm]
          simpa using hxy
        · have hxy : (!x == y) = false := by assumption
          go_roundw
          case rel =>
            refine ⟨k + 1, by omega, by go_num, ?_, below_drewN Hbel.out _⟩
            rw [all_range_succ, Ha.out, Hx.out, HoN.out, Hy.out, Bool.beq_comm]
            simpa using hxy
          case measure => simp [intOf]; omega
      · go_wp2_with (go_at_call 57; refine (l21Cells_any _).mono ?_; rintro e w' ⟨rfl, rfl⟩)
        go_ret
        refine ⟨ret_bool ?_, Hbel.out⟩
        obtain rfl : k = 16 := by omega
        unfold covV
        rw [Hn.out, Ha.out]; rfl
  · have hb : ((n : Int) != 16) = true := by rw [bne_iff_ne]; omega
    go_enter Tryz.func159, Tryz.ntmps159
    go_wp2_with (go_at_call 57; refine (l21Cells_any _).mono ?_; rintro e w' ⟨rfl, rfl⟩)
    go_ret
    refine ⟨ret_bool ?_, Below.refl _ _⟩
    unfold covV
    rw [beq_eq_false_iff_ne.2 (by omega)]; rfl

/-! ### The text of a coverage -/
def covLine (c : List Bool) (k : Nat) : List UInt8 := (if c.getD k false then 35 else 46) :: (if k % 4 = 3 then [10] else [])
def covBytes (c : List Bool) (n : Nat) : List UInt8 := (List.range n).flatMap (covLine c)
theorem covBytes_succ (c : List Bool) (k : Nat) : covBytes c (k + 1) = covBytes c k ++ covLine c k := by
  unfold covBytes; rw [List.range_succ, List.flatMap_append]; simp
theorem covBytes_len (c : List Bool) (k : Nat) : (covBytes c k).length ≤ 2 * k := by
  induction k with
  | zero => simp [covBytes]
  | succ k ih => rw [covBytes_succ, List.length_append]; unfold covLine; by_cases h : k % 4 = 3 <;> simp [h] <;> omega
/-- The text of a list: empty if it is no coverage. -/
def covText (c : List Bool) : List UInt8 := if covV c then covBytes c 16 else []

theorem covV_len {c : List Bool} (h : covV c = true) : c.length = 16 := by
  unfold covV at h; simp at h; exact h.1

theorem str_app (l m : List UInt8) : (ByteArray.mk l.toArray ++ ByteArray.mk m.toArray : ByteArray) = ⟨(l ++ m).toArray⟩ := by
  apply ByteArray.ext; simp

theorem sCoverText_yes (A : Option Addr) (cap : Nat) (c : List Bool) (w : World) (hv : covV c = true) (hr : Rd w w.heap.size A (c.map Value.bool)) :
    Calls Tryz.prog 135 #[.slice A 16 cap] w fun e w' => e = .returned (.string ⟨(covBytes c 16).toArray⟩) ∧ Below w.heap.size w w' := by
  have Hn := Lib.hid (covV_len hv)
  have Hv := Lib.hid hv; clear hv
  go_enter Tryz.func135, Tryz.ntmps135
  go_wp2_with fail
  go_loopw [3, 4] (fun s i wr => ∃ k : Nat, k ≤ 16 ∧ i = .int .i64 k ∧ s = .string ⟨(covBytes c k).toArray⟩ ∧ Below w.heap.size w wr) (fun _ i _ => 16 - (intOf i).toNat)
  case atStart => exact ⟨0, by omega, rfl, rfl, Below.refl _ _⟩
  case round =>
    obtain ⟨k, hk, rfl, rfl, hbel⟩ := hrel
    have hr' := hr.below hbel
    have Hbel := Lib.hid hbel; clear hbel
    by_cases hlt : k < 16
    · go_wp2_with fail
      refine (sCoverValid_any _ _ _ c _ Hn.out (hr'.more Hbel.out.size)).mono ?_
      rintro e w1 ⟨rfl, hb1⟩
      rw [Hv.out]
      have hbel1 := Hbel.out.trans (hb1.mono Hbel.out.size)
      have hr1 := hr.below hbel1
      have Hbel1 := Lib.hid hbel1; clear hbel1 hb1
      have e1 : (c.map Value.bool)[k]? = some (.bool (c.getD k false)) := by
        have : k < c.length := by rw [Hn.out]; exact hlt
        simp [List.getD, this]
      obtain ⟨b, off, rfl, hb, hc1⟩ := hr1 k _ e1
      generalize hx : c.getD k false = x at *
      clear e1
      have Hx := Lib.hid hx; clear hx
      have hlen := covBytes_len c k
      go_wp2_with fail
      all_goals
        go_roundw
        case measure => simp [intOf]; omega
        case rel =>
          refine ⟨k + 1, by omega, by go_num, ?_, Hbel1.out⟩
          rw [covBytes_succ]
          unfold covLine
          rw [Hx.out]
          first
            | (have h1 : x = true := by assumption
               subst h1
               first
                 | (have h2 : ((k : Int) % 4 == 3) = true := by assumption
                    rw [if_pos (by simp at h2; omega : k % 4 = 3), str_app, str_app, List.append_assoc]; rfl)
                 | (have h2 : ((k : Int) % 4 == 3) = false := by assumption
                    rw [if_neg (by simp at h2; omega : ¬ k % 4 = 3), str_app]; rfl))
            | (have h1 : x = false := by assumption
               subst h1
               first
                 | (have h2 : ((k : Int) % 4 == 3) = true := by assumption
                    rw [if_pos (by simp at h2; omega : k % 4 = 3), str_app, str_app, List.append_assoc]; rfl)
                 | (have h2 : ((k : Int) % 4 == 3) = false := by assumption
                    rw [if_neg (by simp at h2; omega : ¬ k % 4 = 3), str_app]; rfl))
    · obtain rfl : k = 16 := by omega
      go_wp2_with fail
      go_ret
      exact ⟨rfl, Hbel.out⟩
theorem sCoverText_no (A : Option Addr) (n cap : Nat) (c : List Bool) (w : World) (hn : c.length = n) (hv : covV c = false) (hr : Rd w w.heap.size A (c.map Value.bool)) :
    Calls Tryz.prog 135 #[.slice A n cap] w fun e w' => e = .returned (.string ⟨#[]⟩) ∧ Below w.heap.size w w' := by
  have Hn := Lib.hid hn; clear hn
  have Hv := Lib.hid hv; clear hv
  by_cases h0 : n = 0
  · subst h0
    go_enter Tryz.func135, Tryz.ntmps135
    go_wp2_with fail
    refine wp_loop_rounds 1 ?_
    rw [rounds_succ]
    go_wp2_with fail
    go_ret
    exact ⟨rfl, Below.refl _ _⟩
  · have hp : (0 : Int) < (n : Int) := by omega
    go_enter Tryz.func135, Tryz.ntmps135
    go_wp2_with fail
    refine wp_loop_rounds 1 ?_
    rw [rounds_succ]
    go_wp2_with fail
    refine (sCoverValid_any _ _ _ c _ Hn.out hr).mono ?_
    rintro e w1 ⟨rfl, hb1⟩
    rw [Hv.out]
    go_wp2_with fail
    go_ret
    exact ⟨rfl, hb1⟩
theorem sCoverText_any (A : Option Addr) (n cap : Nat) (c : List Bool) (w : World) (hn : c.length = n) (hr : Rd w w.heap.size A (c.map Value.bool)) :
    Calls Tryz.prog 135 #[.slice A n cap] w fun e w' => e = .returned (.string ⟨(covText c).toArray⟩) ∧ Below w.heap.size w w' := by
  unfold covText
  by_cases hv : covV c = true
  · obtain rfl : n = 16 := by rw [← hn]; exact covV_len hv
    rw [if_pos hv]
    exact sCoverText_yes A cap c w hv hr
  · rw [if_neg hv]
    exact sCoverText_no A n cap c w hn (by simpa using hv) hr
end Go.Proofs.YtipgpafgampfbaaGreatDoor

namespace Go.Proofs.YtipgpafgampfbaaGreatDoor
open Go.RowKit

/-- Block g is just the cells xs of element type T, none of them frozen. -/
def Row (w : World) (g : Nat) (T : TypeId) (xs : List Value) : Prop := w.heap[g]? = some (.cells xs.toArray T (0, 0))

section
variable {w w' : World} {g : Nat} {T : TypeId} {xs : List Value}
theorem Row.lt (h : Row w g T xs) : g < w.heap.size := by
  rcases Nat.lt_or_ge g w.heap.size with hlt | hge
  · exact hlt
  · unfold Row at h; rw [Array.getElem?_eq_none hge] at h; cases h
theorem Row.cell (h : Row w g T xs) (i : Nat) : w.cell? ⟨g, i, none⟩ = xs[i]? := by
  rw [cell_of_row w g i _ T (0, 0) h]; simp
theorem Row.frozen (h : Row w g T xs) (i : Nat) : w.frozen? ⟨g, i, none⟩ = false := by
  unfold Row at h
  simp [World.frozen?, h]
theorem Row.new (w : World) (T : TypeId) (xs : List Value) : Row (w.alloc (.cells xs.toArray T)) w.heap.size T xs := heap_alloc_new w _
theorem Row.drew (h : Row w g T xs) : Row w.drew g T xs := h
theorem Row.drewN (h : Row w g T xs) (n : Nat) : Row (w.drewN n) g T xs := h
theorem Row.alloc (h : Row w g T xs) (o : Obj) : Row (w.alloc o) g T xs := (Below.heap_alloc w o g h.lt).trans h
theorem Row.set_ (h : Row w g T xs) (i : Nat) (u : Value) : Row (w.setCell ⟨g, i, none⟩ u) g T (xs.set i u) := by
  unfold Row at h ⊢
  simp [World.setCell, Array.getElem?_modify, h]
theorem Row.far (h : Row w g T xs) {p : Addr} (hp : g ≠ p.block) (u : Value) : Row (w.setCell p u) g T xs := (Below.heap_setCell w p u g hp).trans h
theorem Row.below {B : Nat} (h : Row w g T xs) (hb : Below B w w') (hg : g < B) : Row w' g T xs := (hb.block g hg).trans h
/-- Over a call that leaves what was there. -/
theorem Row.kept (h : Row w g T xs) (hb : Below w.heap.size w w') : Row w' g T xs := h.below hb h.lt
theorem Row.grown {row : Option Nat} (h : Row w g T xs) (hb : w.grownBy w' row) (hg : some g ≠ row) : Row w' g T xs := (hb.block g h.lt hg).trans h
theorem Row.rd (h : Row w g T xs) : Rd w w.heap.size (some ⟨g, 0, none⟩) xs := fun i u hu => ⟨g, 0, rfl, h.lt, by rw [Nat.zero_add, h.cell]; exact hu⟩
theorem Row.ne_ {g' : Nat} {T' : TypeId} {ys : List Value} (h : Row w g T xs) (h' : Row w g' T' ys) (hne : T ≠ T') : g ≠ g' := by
  rintro rfl
  unfold Row at h h'
  rw [h] at h'
  injection h' with h'
  injection h' with _ ht
  exact hne ht
theorem Row.own (h : Row w g T xs) {base size n : Nat} (hb : base ≤ g) (hs : xs.length = n * size) (hm : n ≤ maxLen) : w.ownsRow base T size (.slice (some ⟨g, 0, none⟩) n n) n xs :=
  ⟨hs, .inr ⟨g, n, xs.toArray, rfl, hb, h, Nat.le_refl _, hm, by simpa using hs, by simp [← hs]⟩⟩
end

theorem madeCells_one (z : Value) (n : Nat) : madeCells #[z] n = (List.replicate n z).toArray := by
  apply Array.ext
  · simp [size_madeCells]
  · intro i h1 h2
    simp [madeCells]
    have : i % 1 = 0 := Nat.mod_one i
    simp [this]
theorem madeCells_two (z : Value) (n : Nat) : madeCells #[z, z] n = (List.replicate n z).toArray := by
  apply Array.ext
  · simp [size_madeCells]
  · intro i h1 h2
    simp [madeCells]
    have : i % 2 = 0 ∨ i % 2 = 1 := by omega
    rcases this with h | h <;> simp [h]

/-- 'make([]T, n)', elements of one cell. -/
theorem run_make1 {P : Program} (t e : TypeId) (z : Value) (bytes : Nat) (ht : P.underlying t = some (.slice e)) (hi : (P.info? e).map (fun i => (i.zero, i.size, i.bytes)) = some (some z, 1, bytes)) (hz : z.cells = #[z])
    (n : Nat) (hb : bytes * n ≤ 281474976710656) (h63 : n ≤ 9223372036854775807) (w : World) :
    (Instr.makeSlice t (.int .i64 (n : Int)) (.int .i64 (n : Int))).run P w = .ok (.slice (some ⟨w.heap.size, 0, none⟩) n n) (w.alloc (.cells (List.replicate n z).toArray e)) := by
  obtain ⟨i, hi, h1, h2, h3⟩ := info_parts hi
  have hb' : (i.bytes : Int) * (n : Int) ≤ 281474976710656 := by
    rw [h3]; have h : ((bytes * n : Nat) : Int) ≤ 281474976710656 := by omega
    rwa [Int.natCast_mul] at h
  have hr := run_make (P := P) w t e i z ht hi h1 .i64 .i64 n n (by omega) (by omega) hb' (by omega)
  simp only [Int.toNat_natCast] at hr
  rw [hr, h2, hz, Nat.mul_one, madeCells_one]
/-- 'make([]T, n)', elements of two like cells. -/
theorem run_make2 {P : Program} (t e : TypeId) (z zz : Value) (bytes : Nat) (ht : P.underlying t = some (.slice e)) (hi : (P.info? e).map (fun i => (i.zero, i.size, i.bytes)) = some (some zz, 2, bytes)) (hz : zz.cells = #[z, z])
    (n : Nat) (hb : bytes * n ≤ 281474976710656) (h63 : n ≤ 9223372036854775807) (w : World) :
    (Instr.makeSlice t (.int .i64 (n : Int)) (.int .i64 (n : Int))).run P w = .ok (.slice (some ⟨w.heap.size, 0, none⟩) n n) (w.alloc (.cells (List.replicate (n * 2) z).toArray e)) := by
  obtain ⟨i, hi, h1, h2, h3⟩ := info_parts hi
  have hb' : (i.bytes : Int) * (n : Int) ≤ 281474976710656 := by
    rw [h3]; have h : ((bytes * n : Nat) : Int) ≤ 281474976710656 := by omega
    rwa [Int.natCast_mul] at h
  have hr := run_make (P := P) w t e i zz ht hi h1 .i64 .i64 n n (by omega) (by omega) hb' (by omega)
  simp only [Int.toNat_natCast] at hr
  rw [hr, h2, hz, madeCells_two]
end Go.Proofs.YtipgpafgampfbaaGreatDoor

namespace Go.Proofs.YtipgpafgampfbaaGreatDoor
open Go.RowKit

/-- A copy of which k elements are done. -/
def part {α : Type} (z : α) (l : List α) (k : Nat) : List α := l.take k ++ List.replicate (l.length - k) z
theorem part_len {α : Type} (z : α) (l : List α) (k : Nat) (h : k ≤ l.length) : (part z l k).length = l.length := by
  simp [part]; omega
theorem part_get {α : Type} (z : α) (l : List α) (k : Nat) (h : k < l.length) : (part z l k)[k]? = some z := by
  unfold part
  rw [List.getElem?_append_right (by simp; omega)]
  simp [List.getElem?_replicate]; omega
theorem part_succ {α : Type} (z : α) (l : List α) (k : Nat) (x : α) (hx : l[k]? = some x) : (part z l k).set k x = part z l (k + 1) := by
  have hk : k < l.length := (List.getElem?_eq_some_iff.1 hx).1
  have hx' : l[k] = x := (List.getElem?_eq_some_iff.1 hx).2
  unfold part
  rw [List.set_append_right _ _ (by simp; omega), List.length_take, Nat.min_eq_left (by omega), Nat.sub_self]
  rw [List.take_succ_eq_append_getElem hk, hx', List.append_assoc]
  congr 1
  rw [show l.length - k = (l.length - (k + 1)) + 1 by omega, List.replicate_succ]
  simp
theorem part_all {α : Type} (z : α) (l : List α) : part z l l.length = l := by simp [part]

end Go.Proofs.YtipgpafgampfbaaGreatDoor
