/- FnExactObserveGrid returns true at every input, and leaves what was there. -/
import Derived.Test.YtfandpgjlahnpaaLawGrid
import Derived.Test.YtfandpgjlahnpaaAnts
namespace Go.Proofs.Ytfandpgjlahnpaa
open Go.RowKit

theorem observeGrid_e (A B : Option Addr) (n ca m cb : Nat) (ants seen : List (Int × Int)) (w : World) (hn : ants.length = n) (hm : seen.length = m) (hk : n ≤ ca) (hnb : n ≤ 1048576) (hmb : m ≤ 1048576)
    (hr : Rd w w.heap.size A (ants.flatMap pairCells)) (hs : Rd w w.heap.size B (seen.flatMap pairCells)) :
    Calls Try.prog 35 #[.slice A n ca, .slice B m cb] w fun e w' => ∃ v, e = .returned (.tuple #[v, .bool (gridR ants seen).isSome]) ∧ w'.ownsRow w.heap.size 31 2 v ((gridR ants seen).getD []).length (((gridR ants seen).getD []).flatMap pairCells) ∧ Below w.heap.size w w' :=
  (observeGrid_any A B n ca m cb ants seen w hn hm hk hnb hmb hr hs).mono fun _ _ ⟨hb, v, h1, h2⟩ => ⟨v, h1, h2, hb⟩
theorem sObserveGrid_e (A B : Option Addr) (n ca m cb : Nat) (ants seen : List (Int × Int)) (w : World) (hn : ants.length = n) (hm : seen.length = m) (hnb : n ≤ 1048576) (hmb : m ≤ 1048576)
    (hr : Rd w w.heap.size A (ants.flatMap pairCells)) (hs : Rd w w.heap.size B (seen.flatMap pairCells)) :
    Calls Try.prog 32 #[.slice A n ca, .slice B m cb] w fun e w' => ∃ v, e = .returned (.tuple #[v, .bool (gridR ants seen).isSome]) ∧ w'.ownsRow w.heap.size 31 2 v ((gridR ants seen).getD []).length (((gridR ants seen).getD []).flatMap pairCells) ∧ Below w.heap.size w w' :=
  (sObserveGrid_all A B n ca m cb ants seen w hn hm hnb hmb hr hs).mono fun _ _ ⟨hb, v, h1, h2⟩ => ⟨v, h1, h2, hb⟩

set_option maxRecDepth 100000 in
set_option maxHeartbeats 4000000 in
theorem FnExactObserveGrid_walk (w : World)
    (Pants : Option Addr) (nants capants : Nat) (ants : List (Int × Int)) (hnants : ants.length = nants) (hmants : nants ≤ 9223372036854775807) (hrants : Rd w w.heap.size Pants (ants.flatMap pairCells)) (_hwants : ∀ y ∈ ants, (Lit.int .i64 y.1).wf = true ∧ (Lit.int .i64 y.2).wf = true)
    (Pseen : Option Addr) (nseen capseen : Nat) (seen : List (Int × Int)) (hnseen : seen.length = nseen) (hmseen : nseen ≤ 9223372036854775807) (hrseen : Rd w w.heap.size Pseen (seen.flatMap pairCells)) (_hwseen : ∀ y ∈ seen, (Lit.int .i64 y.1).wf = true ∧ (Lit.int .i64 y.2).wf = true) :
    Calls Try.prog 5 #[.slice Pants nants capants, .slice Pseen nseen capseen] w fun e w' => e = .returned (.bool true) ∧ Below w.heap.size w w' := by
  have Hnants := Lib.hid hnants; clear hnants
  have Hnseen := Lib.hid hnseen; clear hnseen
  by_cases hbants : (nants : Int) ≤ 1048576
  · skip
    have hifants : (if 1048576 < (nants : Int) then (-1 : Int) else 1048576 - nants) = 1048576 - nants := if_neg (by omega)
    by_cases hbseen : (nseen : Int) ≤ 1048576 - (nants : Int)
    · skip
      have hifseen : (if 1048576 - (nants : Int) < (nseen : Int) then (-1 : Int) else 1048576 - (nants : Int) - nseen) = 1048576 - (nants : Int) - nseen := if_neg (by omega)
      go_enter Try.func5, Try.ntmps5
      go_wp2_with fail
      refine (szAntS_any Pants nants capants (1048576) _ hmants (by omega)).mono ?_
      rintro e w' ⟨rfl, rfl⟩
      rw [hifants]
      clear hifants
      go_wp2_with fail
      refine (szGaussS_any Pseen nseen capseen (1048576 - (nants : Int)) _ hmseen (by omega)).mono ?_
      rintro e w' ⟨rfl, rfl⟩
      rw [hifseen]
      clear hifseen
      have hcants : nants ≤ 1048576 := by omega
      have hcseen : nseen ≤ 1048576 := by omega
      go_wp2_with fail
      refine (toAntS_any Pants nants capants ants _ Hnants.out hcants hrants).mono ?_
      rintro e w1 ⟨rfl, raants, kw1⟩
      have Bw1 := kw1
      have hszw1 := kw1.size
      clear kw1
      have hltraants := raants.lt
      go_wp2_with fail
      refine (toGaussS_any Pseen nseen capseen seen _ Hnseen.out hcseen ((hrseen.below Bw1).more Bw1.size)).mono ?_
      rintro e w2 ⟨rfl, raseen, kw2⟩
      have Bw2 := Bw1.trans (kw2.mono Bw1.size)
      have hszw2 := kw2.size
      have raants := raants.kept kw2
      clear kw2
      have hltraseen := raseen.lt
      go_wp2_with fail
      refine (sObserveGrid_e _ _ nants nants nseen nseen ants seen _ Hnants.out Hnseen.out (by omega) (by omega) raants.rd raseen.rd).mono ?_
      rintro e w3 ⟨vw3, rfl, ow3, kw3⟩
      have Bw3 := Bw2.trans (kw3.mono Bw2.size)
      have hszw3 := kw3.size
      have raants := raants.kept kw3
      have raseen := raseen.kept kw3
      clear kw3
      obtain ⟨A8, c8, rfl⟩ := own_form ow3
      obtain ⟨L, hL⟩ : ∃ L, ((gridR ants seen).getD []).length = L := ⟨_, rfl⟩
      have hL21 : L ≤ 21 := by rw [← hL]; exact Nat.le_trans (gridR_len ants seen) (by omega)
      obtain ⟨S, hS⟩ : ∃ S, (gridR ants seen).getD [] = S := ⟨_, rfl⟩
      obtain ⟨ok, hok⟩ : ∃ ok, ((gridR ants seen).isSome) = ok := ⟨_, rfl⟩
      have hLS : S.length = L := by rw [← hS]; exact hL
      have HLS := Lib.hid hLS
      clear hLS
      have hok2 : (ok != ok) = false := by simp
      rw [hL, hS] at ow3
      have lO8 := Lib.hid (show ∀ j, (Value.slice A8 L c8).ownBlock = some j → w2.heap.size ≤ j ∧ j < w3.heap.size from fun j h => ⟨(own_lt ow3 h).1, (own_lt ow3 h).2.1⟩)
      have O8 := Lib.hid ow3
      clear ow3
      rw [hL, hok]
      clear raants
      clear raseen
      go_wp2_with fail
      refine (toAntS_any Pants nants capants ants _ Hnants.out hcants ((hrants.below Bw3).more Bw3.size)).mono ?_
      rintro e w4 ⟨rfl, rxants, kw4⟩
      have Bw4 := Bw3.trans (kw4.mono Bw3.size)
      have hszw4 := kw4.size
      have O8 := Lib.hid (own_ext O8.out kw4)
      clear kw4
      have hltrxants := rxants.lt
      go_wp2_with fail
      refine (toGaussS_any Pseen nseen capseen seen _ Hnseen.out hcseen ((hrseen.below Bw4).more Bw4.size)).mono ?_
      rintro e w5 ⟨rfl, rxseen, kw5⟩
      have Bw5 := Bw4.trans (kw5.mono Bw4.size)
      have hszw5 := kw5.size
      have rxants := rxants.kept kw5
      have O8 := Lib.hid (own_ext O8.out kw5)
      clear kw5
      have hltrxseen := rxseen.lt
      go_wp2_with fail
      refine (observeGrid_e _ _ nants nants nseen nseen ants seen _ Hnants.out Hnseen.out (Nat.le_refl _) (by omega) (by omega) rxants.rd rxseen.rd).mono ?_
      rintro e w6 ⟨vw6, rfl, ow6, kw6⟩
      have Bw6 := Bw5.trans (kw6.mono Bw5.size)
      have hszw6 := kw6.size
      have rxants := rxants.kept kw6
      have rxseen := rxseen.kept kw6
      have O8 := Lib.hid (own_ext O8.out kw6)
      clear kw6
      obtain ⟨A12, c12, rfl⟩ := own_form ow6
      rw [hL, hS] at ow6
      have lO12 := Lib.hid (show ∀ j, (Value.slice A12 L c12).ownBlock = some j → w5.heap.size ≤ j ∧ j < w6.heap.size from fun j h => ⟨(own_lt ow6 h).1, (own_lt ow6 h).2.1⟩)
      have O12 := Lib.hid ow6
      clear ow6
      rw [hL, hok]
      go_wp2_with fail
      refine (eqGaussS_any A12 A8 L L c12 c8 S S _ HLS.out HLS.out (by omega) (Rd.of_own O12.out) (Rd.of_own O8.out)).mono ?_
      rintro e w7 ⟨rfl, kw7⟩
      have Bw7 := Bw6.trans (kw7.mono Bw6.size)
      have hszw7 := kw7.size
      have rxants := rxants.kept kw7
      have rxseen := rxseen.kept kw7
      have O8 := Lib.hid (own_ext O8.out kw7)
      have O12 := Lib.hid (own_ext O12.out kw7)
      clear kw7
      rw [decide_eq_true (rfl : S = S)]
      go_wp2_with fail
      refine (toAntS_any Pants nants capants ants _ Hnants.out hcants ((hrants.below Bw7).more Bw7.size)).mono ?_
      rintro e w8 ⟨rfl, ryants, kw8⟩
      have Bw8 := Bw7.trans (kw8.mono Bw7.size)
      have hszw8 := kw8.size
      have rxants := rxants.kept kw8
      have rxseen := rxseen.kept kw8
      have O8 := Lib.hid (own_ext O8.out kw8)
      have O12 := Lib.hid (own_ext O12.out kw8)
      clear kw8
      have hltryants := ryants.lt
      go_wp2_with fail
      refine (eqAntS_any _ _ nants nants nants nants ants ants _ Hnants.out Hnants.out (by omega) rxants.rd ryants.rd).mono ?_
      rintro e w9 ⟨rfl, kw9⟩
      have Bw9 := Bw8.trans (kw9.mono Bw8.size)
      have hszw9 := kw9.size
      have rxants := rxants.kept kw9
      have rxseen := rxseen.kept kw9
      have ryants := ryants.kept kw9
      have O8 := Lib.hid (own_ext O8.out kw9)
      have O12 := Lib.hid (own_ext O12.out kw9)
      clear kw9
      rw [decide_eq_true (rfl : ants = ants)]
      clear ryants
      go_wp2_with fail
      refine (toGaussS_any Pseen nseen capseen seen _ Hnseen.out hcseen ((hrseen.below Bw9).more Bw9.size)).mono ?_
      rintro e w10 ⟨rfl, ryseen, kw10⟩
      have Bw10 := Bw9.trans (kw10.mono Bw9.size)
      have hszw10 := kw10.size
      have rxants := rxants.kept kw10
      have rxseen := rxseen.kept kw10
      have O8 := Lib.hid (own_ext O8.out kw10)
      have O12 := Lib.hid (own_ext O12.out kw10)
      clear kw10
      have hltryseen := ryseen.lt
      go_wp2_with fail
      refine (eqGaussS_any _ _ nseen nseen nseen nseen seen seen _ Hnseen.out Hnseen.out (by omega) rxseen.rd ryseen.rd).mono ?_
      rintro e w11 ⟨rfl, kw11⟩
      have Bw11 := Bw10.trans (kw11.mono Bw10.size)
      have hszw11 := kw11.size
      have rxants := rxants.kept kw11
      have rxseen := rxseen.kept kw11
      have ryseen := ryseen.kept kw11
      have O8 := Lib.hid (own_ext O8.out kw11)
      have O12 := Lib.hid (own_ext O12.out kw11)
      clear kw11
      rw [decide_eq_true (rfl : seen = seen)]
      clear ryseen
      have hbxants : w.heap.size ≤ w3.heap.size := by first | exact Nat.le_refl _ | exact Bw3.size
      have hbxseen : w.heap.size ≤ w4.heap.size := by first | exact Nat.le_refl _ | exact Bw4.size
      go_wp2_with fail
      refine (markAntS_any w3.heap.size _ nants nants (1) _ _ (by omega) (by omega) (pairs_int ants) (rxants.own (Nat.le_refl _) (by rw [pairCells_len, Hnants.out]) (by unfold maxLen; omega))).mono ?_
      rintro e w12 ⟨rfl, _, gw12⟩
      have tants : ∀ j, (Value.slice (some ⟨w3.heap.size, 0, none⟩) nants nants).ownBlock = some j → w3.heap.size = j := fun j e => by simpa [Value.ownBlock] using e
      have Bw12 : Below w.heap.size w w12 := Bw11.grown gw12 Bw11.size fun j e => by have := tants j e; omega
      have rxseen := rxseen.grown gw12 (fun e => by have := tants _ e.symm; omega)
      have O8 := Lib.hid (own_over O8.out gw12 fun j hj e => by have := tants j e; have := (lO8.out _ hj).2; omega)
      have O12 := Lib.hid (own_over O12.out gw12 fun j hj e => by have := tants j e; have := (lO12.out _ hj).1; omega)
      clear gw12 tants
      clear rxants
      go_wp2_with fail
      refine (markGaussS_any w4.heap.size _ nseen nseen (1 + 2 * nants) _ _ (by omega) (by omega) (pairs_int seen) (rxseen.own (Nat.le_refl _) (by rw [pairCells_len, Hnseen.out]) (by unfold maxLen; omega))).mono ?_
      rintro e w13 ⟨rfl, _, gw13⟩
      have tseen : ∀ j, (Value.slice (some ⟨w4.heap.size, 0, none⟩) nseen nseen).ownBlock = some j → w4.heap.size = j := fun j e => by simpa [Value.ownBlock] using e
      have Bw13 : Below w.heap.size w w13 := Bw12.grown gw13 Bw12.size fun j e => by have := tseen j e; omega
      have O8 := Lib.hid (own_over O8.out gw13 fun j hj e => by have := tseen j e; have := (lO8.out _ hj).2; omega)
      have O12 := Lib.hid (own_over O12.out gw13 fun j hj e => by have := tseen j e; have := (lO12.out _ hj).1; omega)
      clear gw13 tseen
      clear rxseen
      have T12 := Lib.hid (fun j (hj : (Value.slice A12 L c12).ownBlock = some j) => show w.heap.size ≤ j from by have := (lO12.out j hj).1; omega)
      have D12 := Lib.hid (fun j (hj : (Value.slice A8 L c8).ownBlock = some j) (e : (Value.slice A12 L c12).ownBlock = some j) => show False from by have := (lO8.out j hj).2; have := (lO12.out j e).1; omega)
      go_wp2_with fail
      refine (eqGaussS_any A12 A8 L L c12 c8 S S _ HLS.out HLS.out (by omega) (Rd.of_own O12.out) (Rd.of_own O8.out)).mono ?_
      rintro e w14 ⟨rfl, kw14⟩
      have Bw14 := Bw13.trans (kw14.mono Bw13.size)
      have hszw14 := kw14.size
      have O8 := Lib.hid (own_ext O8.out kw14)
      have O12 := Lib.hid (own_ext O12.out kw14)
      clear kw14
      rw [decide_eq_true (rfl : S = S)]
      go_wp2_with fail
      refine (markGaussS_any _ A12 L c12 1 _ _ (by omega) (by omega) (pairs_int S) O12.out).mono ?_
      rintro e w15 ⟨rfl, o15, g15⟩
      have Bw15 : Below w.heap.size w w15 := Bw14.grown g15 Bw14.size fun j e => T12.out j e
      have O8 := Lib.hid (own_over O8.out g15 fun j hj e => D12.out j hj e)
      have O12 := Lib.hid o15
      clear o15 g15
      go_wp2_with fail
      refine (heldGaussS_any A12 L c12 1 _ (by omega) (by omega) (Rd.of_own O12.out)).mono ?_
      rintro e w' ⟨rfl, rfl⟩
      have hne : ((1 : Int) + 2 * L != 1 + 2 * L) = false := by simp
      go_wp2_with fail
      refine (toAntS_any Pants nants capants ants _ Hnants.out hcants ((hrants.below Bw15).more Bw15.size)).mono ?_
      rintro e w16 ⟨rfl, rzants, kw16⟩
      have Bw16 := Bw15.trans (kw16.mono Bw15.size)
      have hszw16 := kw16.size
      have O8 := Lib.hid (own_ext O8.out kw16)
      have O12 := Lib.hid (own_ext O12.out kw16)
      clear kw16
      have hltrzants := rzants.lt
      go_wp2_with fail
      refine (toGaussS_any Pseen nseen capseen seen _ Hnseen.out hcseen ((hrseen.below Bw16).more Bw16.size)).mono ?_
      rintro e w17 ⟨rfl, rzseen, kw17⟩
      have Bw17 := Bw16.trans (kw17.mono Bw16.size)
      have hszw17 := kw17.size
      have rzants := rzants.kept kw17
      have O8 := Lib.hid (own_ext O8.out kw17)
      have O12 := Lib.hid (own_ext O12.out kw17)
      clear kw17
      have hltrzseen := rzseen.lt
      go_wp2_with fail
      refine (observeGrid_e _ _ nants nants nseen nseen ants seen _ Hnants.out Hnseen.out (Nat.le_refl _) (by omega) (by omega) rzants.rd rzseen.rd).mono ?_
      rintro e w18 ⟨vw18, rfl, ow18, kw18⟩
      have Bw18 := Bw17.trans (kw18.mono Bw17.size)
      have hszw18 := kw18.size
      have rzants := rzants.kept kw18
      have rzseen := rzseen.kept kw18
      have O8 := Lib.hid (own_ext O8.out kw18)
      have O12 := Lib.hid (own_ext O12.out kw18)
      clear kw18
      obtain ⟨A19, c19, rfl⟩ := own_form ow18
      rw [hL, hS] at ow18
      have lO19 := Lib.hid (show ∀ j, (Value.slice A19 L c19).ownBlock = some j → w17.heap.size ≤ j ∧ j < w18.heap.size from fun j h => ⟨(own_lt ow18 h).1, (own_lt ow18 h).2.1⟩)
      have O19 := Lib.hid ow18
      clear ow18
      rw [hL, hok]
      clear rzants
      clear rzseen
      go_wp2_with fail
      refine (eqGaussS_any A19 A8 L L c19 c8 S S _ HLS.out HLS.out (by omega) (Rd.of_own O19.out) (Rd.of_own O8.out)).mono ?_
      rintro e w19 ⟨rfl, kw19⟩
      have Bw19 := Bw18.trans (kw19.mono Bw18.size)
      have hszw19 := kw19.size
      have O8 := Lib.hid (own_ext O8.out kw19)
      have O12 := Lib.hid (own_ext O12.out kw19)
      have O19 := Lib.hid (own_ext O19.out kw19)
      clear kw19
      rw [decide_eq_true (rfl : S = S)]
      go_wp2_with fail
      refine (heldGaussS_any A12 L c12 1 _ (by omega) (by omega) (Rd.of_own O12.out)).mono ?_
      rintro e w' ⟨rfl, rfl⟩
      go_wp2_with fail
      go_ret
      exact ⟨rfl, Bw19⟩
    · skip
      have hifseenN : (if 1048576 - (nants : Int) < (nseen : Int) then (-1 : Int) else 1048576 - (nants : Int) - nseen) = -1 := if_pos (by omega)
      go_enter Try.func5, Try.ntmps5
      go_wp2_with fail
      refine (szAntS_any Pants nants capants (1048576) _ hmants (by omega)).mono ?_
      rintro e w' ⟨rfl, rfl⟩
      rw [hifants]
      clear hifants
      go_wp2_with fail
      refine (szGaussS_any Pseen nseen capseen (1048576 - (nants : Int)) _ hmseen (by omega)).mono ?_
      rintro e w' ⟨rfl, rfl⟩
      rw [hifseenN]
      clear hifseenN
      go_wp2_with fail
      go_ret
      exact ⟨rfl, Below.refl _ _⟩
  · skip
    have hifantsN : (if 1048576 < (nants : Int) then (-1 : Int) else 1048576 - nants) = -1 := if_pos (by omega)
    go_enter Try.func5, Try.ntmps5
    go_wp2_with fail
    refine (szAntS_any Pants nants capants (1048576) _ hmants (by omega)).mono ?_
    rintro e w' ⟨rfl, rfl⟩
    rw [hifantsN]
    clear hifantsN
    go_wp2_with fail
    go_ret
    exact ⟨rfl, Below.refl _ _⟩

end Go.Proofs.Ytfandpgjlahnpaa
