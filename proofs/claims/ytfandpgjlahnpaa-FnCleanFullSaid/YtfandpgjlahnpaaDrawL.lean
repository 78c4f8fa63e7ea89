/- Drawn dirty images. -/
import Derived.Test.YtfandpgjlahnpaaDrawA
import Derived.Test.YtfandpgjlahnpaaDrawS
import Derived.Test.YtfandpgjlahnpaaDrawC
import Derived.Test.YtfandpgjlahnpaaDirtyT
namespace Go.Proofs.Ytfandpgjlahnpaa
open Go.RowKit

theorem rd_lt' {w : World} {B : Nat} {A : Option Addr} {xs : List Value} (h : Rd w B A xs) : ∀ b off, A = some ⟨b, off, none⟩ → b ≠ B ∨ xs = [] := fun b off e => by
  cases xs with
  | nil => exact .inr rfl
  | cons u us =>
    left
    obtain ⟨_, _, e', hb, _⟩ := h 0 u rfl
    rw [e] at e'
    cases e'
    omega
theorem Rd.apartB {w : World} {A : Option Addr} {cs : List Bool} {R : Nat} {p : Int} (h : Rd w w.heap.size A (cs.map Value.bool)) (hR : IsRd w R p) : ∀ b off, A = some ⟨b, off, none⟩ → b ≠ R ∨ cs.map Value.bool = [] := by
  intro b off e
  by_cases hbR : b = R
  · right
    subst hbR
    obtain ⟨A', n, cap, bs, _, _, _, hrow, _⟩ := hR.ex
    cases cs with
    | nil => rfl
    | cons u r =>
      exfalso
      obtain ⟨b1, o1, e1, _, c1⟩ := h 0 (.bool u) rfl
      rw [e] at e1
      cases e1
      rw [hrow.cell] at c1
      cases off with
      | zero => simp at c1
      | succ o =>
        cases o with
        | zero => simp at c1
        | succ o => simp at c1
  · exact .inl hbR

set_option maxRecDepth 100000 in
set_option maxHeartbeats 2000000 in
theorem l93Dirty_any (R : Nat) (p : Int) (w : World) (hp : 0 ≤ p ∧ p ≤ 100000) (h : IsRd w R p) :
    Calls Try.prog 116 #[.pointer (some ⟨R, 0, none⟩)] w fun e w' =>
      ∃ (x y : Value) (A : Option Addr) (k c : Nat) (s : List Int), e = .returned (.tuple #[x, y, .slice A k c]) ∧ s.length = k ∧ k ≤ 16 ∧ k ≤ c ∧ Rd w' w'.heap.size A (s.map (Value.int .i64)) ∧ w.grownBy w' (some R) := by
  obtain ⟨Z, hZ⟩ : ∃ Z, List.replicate 16 (Value.int .i64 0) = Z := ⟨_, rfl⟩
  have hmk : ∀ W : World, (Instr.makeSlice 25 (.int .i64 16) (.int .i64 16)).run Try.prog W = .ok (.slice (some ⟨W.heap.size, 0, none⟩) 16 16) (W.alloc (.cells Z.toArray 3)) := fun W => by
    rw [← hZ]; exact run_make1 (P := Try.prog) 25 3 (.int .i64 0) 8 Try.underlying25 (by kernel_rfl) rfl 16 (by omega) (by omega) W
  have hz2 : Z = (List.replicate 16 (0 : Int)).map (Value.int .i64) := by rw [← hZ]; rfl
  have Hz2 := Lib.hid hz2
  clear hz2 hZ
  obtain ⟨ZB, hZB⟩ : ∃ ZB, List.replicate 16 (Value.bool false) = ZB := ⟨_, rfl⟩
  have hmkB : ∀ W : World, (Instr.makeSlice 38 (.int .i64 16) (.int .i64 16)).run Try.prog W = .ok (.slice (some ⟨W.heap.size, 0, none⟩) 16 16) (W.alloc (.cells ZB.toArray 4)) := fun W => by
    rw [← hZB]; exact run_make1 (P := Try.prog) 38 4 (.bool false) 1 Try.underlying38 (by kernel_rfl) rfl 16 (by omega) (by omega) W
  have hz3 : ZB = (List.replicate 16 false).map Value.bool := by rw [← hZB]; rfl
  have Hz3 := Lib.hid hz3
  clear hz3 hZB
  go_enter Try.func116, Try.ntmps116
  go_wp2_with fail
  refine (l92Cover_any R p _ (by omega) h).mono ?_
  rintro e w1 ⟨C1, kc, cc, cs, p1, rfl, hcl, hk16, hrc, hp1, hrd1, g1⟩
  have hap := Rd.apartB hrc hrd1
  go_wp2_with fail
  refine (pick2 R p1 4 _ (by omega) (by omega) hrd1).mono ?_
  rintro e w2 ⟨x, rfl, x0, x4, hrd2, g2⟩
  have G2 := grown_trans g1 g2
  have hrc2 := hrc.over g2 hap
  have hp2 : 0 ≤ p1 + 1 ∧ p1 + 1 ≤ p + 200 := by omega
  obtain ⟨q, hq⟩ : ∃ q, p1 + 1 = q := ⟨_, rfl⟩
  rw [hq] at hrd2 hp2
  clear hrd1 g1 g2 hrc hq
  by_cases hx0 : x = 0
  · subst hx0
    clear hrc2 hcl hap
    go_wp2_with (go_at_call 73; refine (l21Cells_any _).mono ?_; rintro e w' ⟨rfl, rfl⟩)
    have rS := Row.new w2 4 ZB
    have eS := bA1 (w := w2) (o := .cells ZB.toArray 4)
    have hrdS := hrd2.kept eS
    have GS := grown_trans G2 (World.grownBy_alloc w2 (.cells ZB.toArray 4) (some R))
    have hRW : R < w2.heap.size := hrd2.lt
    have hwW : w.heap.size ≤ w2.heap.size := G2.size
    rw [Hz3.out] at rS eS hrdS GS ⊢
    obtain ⟨WS, hWS⟩ : ∃ WS, w2.alloc (.cells ((List.replicate 16 false).map Value.bool).toArray 4) = WS := ⟨_, rfl⟩
    obtain ⟨g, hgx⟩ : ∃ g, w2.heap.size = g := ⟨_, rfl⟩
    rw [hWS] at rS hrdS GS ⊢
    simp only [hgx] at rS hRW hwW ⊢
    have hF0 : (List.replicate 16 false).length = 16 := by simp
    clear eS hWS hgx hmkB
    go_loopw [6] (fun i wr => ∃ (k : Nat) (cs : List Bool), k ≤ 16 ∧ i = .int .i64 k ∧ cs.length = 16 ∧ Row wr g 4 (cs.map Value.bool) ∧ IsRd wr R q ∧ w.grownBy wr (some R)) (fun i _ => 16 - (intOf i).toNat)
    case atStart => exact ⟨0, _, by omega, rfl, hF0, rS, hrdS, GS⟩
    case round =>
      clear rS hrdS GS
      obtain ⟨k, cs, hk, rfl, hcs, hrow, hrd, hgr⟩ := hrel
      by_cases hlt2 : k < 16
      · have ca := hrow.cell k
        rw [bools_get (by rw [hcs]; exact hlt2)] at ca
        have fa := hrow.frozen k
        have r8 := hrow.set_ k (.bool true)
        rw [← List.map_set] at r8
        have hrd8 := hrd.over (grown_set wr g k (.bool true)) (fun j e => by cases e; omega)
        have G8 := grown_far hgr (grown_set wr g k (.bool true)) (fun j e => by cases e; exact hwW)
        have hDl : (cs.set k true).length = 16 := by rw [List.length_set]; exact hcs
        have R8 := Lib.hid r8; clear r8
        have Hrd8 := Lib.hid hrd8; clear hrd8
        have hidX := Lib.hid G8; clear G8; have G8 := hidX; clear hidX
        have HDl := Lib.hid hDl; clear hDl
        have Hcs := Lib.hid hcs; clear hcs
        clear hrow hrd hgr
        go_wp2_with fail
        go_roundw
        case measure => simp [intOf]; omega
        case rel => exact ⟨k + 1, _, by omega, by go_num, HDl.out, R8.out, Hrd8.out, G8.out⟩
      · obtain rfl : k = 16 := by omega
        have hrc3 := hrow.rd
        have hap : ∀ b off, some (⟨g, 0, none⟩ : Addr) = some ⟨b, off, none⟩ → b ≠ R ∨ cs.map Value.bool = [] := fun b off e => .inl (by cases e; omega)
        have Hcl := Lib.hid hcs
        clear hcs hrow
        obtain ⟨w9x, hw9x⟩ : ∃ x : World, x = wr := ⟨_, rfl⟩
        subst hw9x
        go_wp2_with (go_at_call 73; refine (l21Cells_any _).mono ?_; rintro e w' ⟨rfl, rfl⟩)
        have rS := Row.new w9x 3 Z
        have hS0 : (List.replicate 16 (0 : Int)).length = 16 := by simp
        have eS := bA1 (w := w9x) (o := .cells Z.toArray 3)
        have hrdS := hrd.kept eS
        have GS := grown_trans hgr (World.grownBy_alloc w9x (.cells Z.toArray 3) (some R))
        have hcS := hrc3.ext eS
        have hRW : R < w9x.heap.size := hrd.lt
        have hwW : w.heap.size ≤ w9x.heap.size := hgr.size
        have hcap0 := rd_lt' hrc3
        rw [Hz2.out] at rS eS hrdS GS hcS ⊢
        obtain ⟨WS, hWS⟩ : ∃ WS, w9x.alloc (.cells ((List.replicate 16 (0 : Int)).map (Value.int .i64)).toArray 3) = WS := ⟨_, rfl⟩
        obtain ⟨S, hSx⟩ : ∃ S, w9x.heap.size = S := ⟨_, rfl⟩
        rw [hWS] at rS hrdS GS hcS ⊢
        simp only [hSx] at rS hRW hwW hcap0 ⊢
        clear eS hWS hSx hmk
        refine (pick2 R q 5 _ (by omega) (by omega) hrdS).mono ?_
        rintro e w5 ⟨x, rfl, x0, x5, hrd5, g5⟩
        obtain ⟨n, rfl⟩ : ∃ n : Nat, x = n := ⟨x.toNat, by omega⟩
        have rS5 := rS.grown g5 (by simp; omega)
        have G5 := grown_trans GS g5
        have hc5 := hcS.over g5 hap
        clear rS hrdS GS hcS g5
        go_wp2_with fail
        go_loopw [9] (fun i wr => ∃ (k : Nat) (ss : List Int), k ≤ n ∧ i = .int .i64 k ∧ ss.length = 16 ∧ Row wr S 3 (ss.map (Value.int .i64)) ∧ IsRd wr R (q + 1 + 2 * k) ∧ w.grownBy wr (some R) ∧ Rd wr wr.heap.size (some ⟨g, 0, none⟩) (cs.map Value.bool)) (fun i _ => n - (intOf i).toNat)
        case atStart => exact ⟨0, _, by omega, rfl, hS0, rS5, by simpa using hrd5, G5, hc5⟩
        case round =>
          clear rS5 hrd5 G5 hc5
          obtain ⟨k, ss, hk, rfl, hss, hrow, hrd, hgr, hrc⟩ := hrel
          have Hss := Lib.hid hss; clear hss
          by_cases hlt2 : k < n
          · go_wp2_with fail
            refine (l21Cells_any _).mono ?_
            rintro e w' ⟨rfl, rfl⟩
            go_wp2_with fail
            refine (pick2 R (q + 1 + 2 * k) 16 _ (by omega) (by omega) hrd).mono ?_
            rintro e w6 ⟨x, rfl, x0, x16, hrd6, g6⟩
            obtain ⟨a, rfl⟩ : ∃ a : Nat, x = a := ⟨x.toNat, by omega⟩
            have r6 := hrow.grown g6 (by simp; omega)
            have G6 := grown_trans hgr g6
            have c6 := hrc.over g6 hap
            go_wp2_with fail
            refine (pick2 R (q + 1 + 2 * k + 1) 30 _ (by omega) (by omega) hrd6).mono ?_
            rintro e w7 ⟨y, rfl, y0, y30, hrd7, g7⟩
            have r7 := r6.grown g7 (by simp; omega)
            have G7 := grown_trans G6 g7
            have c7 := c6.over g7 hap
            clear r6 G6 c6 hrow hgr hrd hrd6 hrc
            have ca := r7.cell a
            rw [ints_get (by rw [Hss.out]; omega)] at ca
            have fa := r7.frozen a
            have r8 := r7.set_ a (.int .i64 (1 + y))
            rw [← List.map_set] at r8
            have hrd8 := hrd7.over (grown_set w7 S a (.int .i64 (1 + y))) (fun j e => by cases e; omega)
            have G8 := grown_far G7 (grown_set w7 S a (.int .i64 (1 + y))) (fun j e => by cases e; exact hwW)
            have c8 := c7.over (grown_set w7 S a (.int .i64 (1 + y))) hcap0
            obtain ⟨D, hD⟩ : ∃ D, ss.set a (1 + y) = D := ⟨_, rfl⟩
            have hDl : D.length = 16 := by rw [← hD, List.length_set]; exact Hss.out
            rw [hD] at r8
            have HDl := Lib.hid hDl; clear hDl
            have R8 := Lib.hid r8; clear r8
            have Hrd8 := Lib.hid hrd8; clear hrd8
            have hidX := Lib.hid G8; clear G8; have G8 := hidX; clear hidX
            have C8 := Lib.hid c8; clear c8
            clear r7 hrd7 G7 c7 g6 g7 hD
            go_wp2_with fail
            go_roundw
            case measure => simp [intOf]; omega
            case rel => exact ⟨k + 1, D, by omega, by go_num, HDl.out, R8.out, by rw [show q + 1 + 2 * ((k + 1 : Nat) : Int) = q + 1 + 2 * k + 1 + 1 by omega]; exact Hrd8.out, G8.out, C8.out⟩
          · have Hrd := Lib.hid hrd; clear hrd
            have Hgr := Lib.hid hgr; clear hgr
            go_wp2_with fail
            refine (sDirtyOf_any _ (some ⟨g, 0, none⟩) 16 16 16 16 ss cs _ Hss.out Hcl.out (by omega) hrow.rd hrc).mono ?_
            rintro e w9 ⟨v, rfl, o9, b9⟩
            obtain ⟨A9, c9, rfl⟩ := own_form o9
            have r9 := hrow.kept b9
            have G9 := grown_trans Hgr.out (below_grown b9 R)
            cases hq : (dirtyR ss cs).isSome
            · have Hq := Lib.hid hq; clear hq
              have O9 := Lib.hid o9; clear o9
              go_wp2_with fail
              go_ret3
              exact ⟨_, _, _, _, _, ss, rfl, Hss.out, by omega, by omega, r9.rd, G9⟩
            · have hle : ((dirtyR ss cs).getD []).length ≤ 16 := by unfold dirtyR; split <;> simp [dirtyL_len]
              have hcp := own_cap o9
              have Hq := Lib.hid hq; clear hq
              have O9 := Lib.hid o9; clear o9
              go_wp2_with fail
              go_ret3
              exact ⟨_, _, _, _, _, _, rfl, rfl, hle, hcp, Rd.of_own O9.out, G9⟩
  · have hx0 : (x == 0) = false := beq_eq_false_iff_ne.2 hx0
    have Hcl := Lib.hid hcl; clear hcl
    clear hmkB
    go_wp2_with (go_at_call 73; refine (l21Cells_any _).mono ?_; rintro e w' ⟨rfl, rfl⟩)
    have rS := Row.new w2 3 Z
    have hS0 : (List.replicate 16 (0 : Int)).length = 16 := by simp
    have eS := bA1 (w := w2) (o := .cells Z.toArray 3)
    have hrdS := hrd2.kept eS
    have GS := grown_trans G2 (World.grownBy_alloc w2 (.cells Z.toArray 3) (some R))
    have hcS := hrc2.ext eS
    have hRW : R < w2.heap.size := hrd2.lt
    have hwW : w.heap.size ≤ w2.heap.size := G2.size
    have hcap0 := rd_lt' hrc2
    rw [Hz2.out] at rS eS hrdS GS hcS ⊢
    obtain ⟨WS, hWS⟩ : ∃ WS, w2.alloc (.cells ((List.replicate 16 (0 : Int)).map (Value.int .i64)).toArray 3) = WS := ⟨_, rfl⟩
    obtain ⟨S, hSx⟩ : ∃ S, w2.heap.size = S := ⟨_, rfl⟩
    rw [hWS] at rS hrdS GS hcS ⊢
    simp only [hSx] at rS hRW hwW hcap0 ⊢
    clear eS hWS hSx hmk
    refine (pick2 R q 5 _ (by omega) (by omega) hrdS).mono ?_
    rintro e w5 ⟨x, rfl, x0, x5, hrd5, g5⟩
    obtain ⟨n, rfl⟩ : ∃ n : Nat, x = n := ⟨x.toNat, by omega⟩
    have rS5 := rS.grown g5 (by simp; omega)
    have G5 := grown_trans GS g5
    have hc5 := hcS.over g5 hap
    clear rS hrdS GS hcS g5
    go_wp2_with fail
    go_loopw [9] (fun i wr => ∃ (k : Nat) (ss : List Int), k ≤ n ∧ i = .int .i64 k ∧ ss.length = 16 ∧ Row wr S 3 (ss.map (Value.int .i64)) ∧ IsRd wr R (q + 1 + 2 * k) ∧ w.grownBy wr (some R) ∧ Rd wr wr.heap.size C1 (cs.map Value.bool)) (fun i _ => n - (intOf i).toNat)
    case atStart => exact ⟨0, _, by omega, rfl, hS0, rS5, by simpa using hrd5, G5, hc5⟩
    case round =>
      clear rS5 hrd5 G5 hc5
      obtain ⟨k, ss, hk, rfl, hss, hrow, hrd, hgr, hrc⟩ := hrel
      have Hss := Lib.hid hss; clear hss
      by_cases hlt2 : k < n
      · go_wp2_with fail
        refine (l21Cells_any _).mono ?_
        rintro e w' ⟨rfl, rfl⟩
        go_wp2_with fail
        refine (pick2 R (q + 1 + 2 * k) 16 _ (by omega) (by omega) hrd).mono ?_
        rintro e w6 ⟨x, rfl, x0, x16, hrd6, g6⟩
        obtain ⟨a, rfl⟩ : ∃ a : Nat, x = a := ⟨x.toNat, by omega⟩
        have r6 := hrow.grown g6 (by simp; omega)
        have G6 := grown_trans hgr g6
        have c6 := hrc.over g6 hap
        go_wp2_with fail
        refine (pick2 R (q + 1 + 2 * k + 1) 30 _ (by omega) (by omega) hrd6).mono ?_
        rintro e w7 ⟨y, rfl, y0, y30, hrd7, g7⟩
        have r7 := r6.grown g7 (by simp; omega)
        have G7 := grown_trans G6 g7
        have c7 := c6.over g7 hap
        clear r6 G6 c6 hrow hgr hrd hrd6 hrc
        have ca := r7.cell a
        rw [ints_get (by rw [Hss.out]; omega)] at ca
        have fa := r7.frozen a
        have r8 := r7.set_ a (.int .i64 (1 + y))
        rw [← List.map_set] at r8
        have hrd8 := hrd7.over (grown_set w7 S a (.int .i64 (1 + y))) (fun j e => by cases e; omega)
        have G8 := grown_far G7 (grown_set w7 S a (.int .i64 (1 + y))) (fun j e => by cases e; exact hwW)
        have c8 := c7.over (grown_set w7 S a (.int .i64 (1 + y))) hcap0
        obtain ⟨D, hD⟩ : ∃ D, ss.set a (1 + y) = D := ⟨_, rfl⟩
        have hDl : D.length = 16 := by rw [← hD, List.length_set]; exact Hss.out
        rw [hD] at r8
        have HDl := Lib.hid hDl; clear hDl
        have R8 := Lib.hid r8; clear r8
        have Hrd8 := Lib.hid hrd8; clear hrd8
        have hidX := Lib.hid G8; clear G8; have G8 := hidX; clear hidX
        have C8 := Lib.hid c8; clear c8
        clear r7 hrd7 G7 c7 g6 g7 hD
        go_wp2_with fail
        go_roundw
        case measure => simp [intOf]; omega
        case rel => exact ⟨k + 1, D, by omega, by go_num, HDl.out, R8.out, by rw [show q + 1 + 2 * ((k + 1 : Nat) : Int) = q + 1 + 2 * k + 1 + 1 by omega]; exact Hrd8.out, G8.out, C8.out⟩
      · have Hrd := Lib.hid hrd; clear hrd
        have Hgr := Lib.hid hgr; clear hgr
        go_wp2_with fail
        refine (sDirtyOf_any _ C1 16 kc 16 cc ss cs _ Hss.out Hcl.out (by omega) hrow.rd hrc).mono ?_
        rintro e w9 ⟨v, rfl, o9, b9⟩
        obtain ⟨A9, c9, rfl⟩ := own_form o9
        have r9 := hrow.kept b9
        have G9 := grown_trans Hgr.out (below_grown b9 R)
        cases hq : (dirtyR ss cs).isSome
        · have Hq := Lib.hid hq; clear hq
          have O9 := Lib.hid o9; clear o9
          go_wp2_with fail
          go_ret3
          exact ⟨_, _, _, _, _, ss, rfl, Hss.out, by omega, by omega, r9.rd, G9⟩
        · have hle : ((dirtyR ss cs).getD []).length ≤ 16 := by unfold dirtyR; split <;> simp [dirtyL_len]
          have hcp := own_cap o9
          have Hq := Lib.hid hq; clear hq
          have O9 := Lib.hid o9; clear o9
          go_wp2_with fail
          go_ret3
          exact ⟨_, _, _, _, _, _, rfl, rfl, hle, hcp, Rd.of_own O9.out, G9⟩

theorem drawCleanNew_any (A : Option Addr) (n cap : Nat) (bs : List Int) (w : World) (hn : bs.length = n) (hm : n ≤ 9223372036854775807) (hc : n ≤ cap) (hb : BytesOk bs) (hr : Rd w w.heap.size A (bs.map (Value.int .u8))) :
    Calls Try.prog 54 #[.slice A n cap] w fun e w' =>
      ∃ (A1 : Option Addr) (k1 c1 : Nat) (s : List Int), e = .returned (.slice A1 k1 c1) ∧ s.length = k1 ∧ k1 ≤ 16 ∧ k1 ≤ c1 ∧ Rd w' w'.heap.size A1 (s.map (Value.int .i64)) ∧ Below w.heap.size w w' := by
  go_enter Try.func54, Try.ntmps54
  go_wp2_with fail
  refine (l6Open_any A n cap bs w hn hm hc hr).mono ?_
  rintro e w1 ⟨rfl, hR, hb1⟩
  have hrd := isRd_open hn hb hr hR hb1
  clear hR
  go_wp2_with fail
  refine (pick2 _ 0 12 _ (by omega) (by omega) hrd).mono ?_
  rintro e w2 ⟨x, rfl, x0, x4, hrd2, g2⟩
  have B2 : Below w.heap.size w w2 := hb1.grown g2 hb1.size fun j e => by cases e; exact Nat.le_refl _
  clear hb1 g2 hrd
  by_cases hx0 : x = 0
  · subst hx0
    go_wp2_with fail
    refine (l92Sky_str _ (0 + 1) _ (by omega) hrd2).mono ?_
    rintro e w3 ⟨A2, k, c, s, p', rfl, hl, hk, hr3, hp', hrd3, g3, o, rfl, hkc⟩
    have B3 : Below w.heap.size w w3 := B2.grown g3 B2.size fun j e => by cases e; exact Nat.le_refl _
    have hkI : (1 : Int) ≤ (k : Int) := by omega
    clear g3 hrd3 hrd2
    have Hl := Lib.hid hl; clear hl
    go_wp2_with fail
    go_ret
    refine ⟨_, k - 1, c - 1, s.drop 1, rfl, by rw [List.length_drop, Hl.out], by omega, by omega, fun i u hu => ?_, B3⟩
    rw [List.map_drop, List.getElem?_drop] at hu
    obtain ⟨b, off, e, hb, hc⟩ := hr3 (1 + i) u hu
    cases e
    exact ⟨_, _, rfl, hb, by rw [← hc]; congr 2; omega⟩
  · have hx0 : (x == 0) = false := beq_eq_false_iff_ne.2 hx0
    go_wp2_with fail
    refine (l93Dirty_any _ (0 + 1) _ (by omega) hrd2).mono ?_
    rintro e w3 ⟨u, v, A2, k, c, s, rfl, hl, hk, hkc, hr3, g3⟩
    have B3 : Below w.heap.size w w3 := B2.grown g3 B2.size fun j e => by cases e; exact Nat.le_refl _
    go_wp2_with fail
    go_ret
    exact ⟨A2, k, c, s, rfl, hl, hk, hkc, hr3, B3⟩
end Go.Proofs.Ytfandpgjlahnpaa
