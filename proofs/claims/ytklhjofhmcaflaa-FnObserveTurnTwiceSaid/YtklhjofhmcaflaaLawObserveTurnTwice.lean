/- FnObserveTurnTwice returns true at every input, and leaves what was there. -/
import Derived.Test.YtklhjofhmcaflaaTurnQ
import Derived.Test.YtklhjofhmcaflaaLawObserveTurnAll
import Derived.Maps.AppendAt
namespace Go.Proofs.Ytklhjofhmcaflaa
open Go.RowKit

/-- Two rows in different blocks. -/
def Apart (v u : Value) : Prop := ∀ j, v.ownBlock = some j → u.ownBlock ≠ some j
theorem Apart.symm {v u : Value} (h : Apart v u) : Apart u v := fun j hj hv => h j hv hj

theorem two_rows {W0 wr w7 : World} {base k m : Nat} {T : TypeId} {v u v' : Value} {xs ys : List Value} {o : Obj} (hv : wr.ownsRow base T 1 v k xs) (hu : wr.ownsRow base T 1 u m ys) (hap : Apart v u) (hbel : Below base W0 wr) (hbs : base ≤ wr.heap.size)
    (hgrow : (wr.alloc o).grownBy w7 v.ownBlock) (hat : v'.ownBlock = v.ownBlock ∨ v'.ownBlock = some (wr.alloc o).heap.size) : w7.ownsRow base T 1 u m ys ∧ Apart v' u ∧ Below base W0 w7 ∧ base ≤ w7.heap.size := by
  have hb := (hbel.alloc hbs o).grown hgrow (by simp; omega) fun j hj => (own_lt hv hj).1
  refine ⟨own_over (hu.alloc o) hgrow fun j hj e => hap j e hj, ?_, hb, Nat.le_trans hbs (Nat.le_trans (by simp) hgrow.size)⟩
  intro j hj hu'
  rcases hat with e | e
  · exact hap j (e.symm.trans hj) hu'
  · have := (own_lt hu hu').2.1
    rw [e] at hj; injection hj with hj; simp at hj; omega

def sqA (M : Int) (k : Nat) : List Int := (List.range k).map fun x : Nat => ((x : Int) * x + M) % 4
def sqB (q : List Int) (M : Int) (k : Nat) : List Int := (List.range k).map fun x : Nat => (q.getD x 0 + (x : Int) * x + M) % 4
theorem sqA_succ (M : Int) (k : Nat) : sqA M (k + 1) = sqA M k ++ [((k : Int) * k + M) % 4] := by unfold sqA; rw [List.range_succ, List.map_append]; rfl
theorem sqB_succ (q : List Int) (M : Int) (k : Nat) : sqB q M (k + 1) = sqB q M k ++ [(q.getD k 0 + (k : Int) * k + M) % 4] := by unfold sqB; rw [List.range_succ, List.map_append]; rfl
theorem sqA_len (M : Int) (k : Nat) : (sqA M k).length = k := by simp [sqA]
theorem sqB_len (q : List Int) (M : Int) (k : Nat) : (sqB q M k).length = k := by simp [sqB]
theorem sqA_3 (M : Int) (k : Nat) : ∀ x ∈ sqA M k, 0 ≤ x ∧ x ≤ 3 := fun x hx => by
  unfold sqA at hx; obtain ⟨y, _, rfl⟩ := List.mem_map.1 hx; omega
theorem sqB_3 (q : List Int) (M : Int) (k : Nat) : ∀ x ∈ sqB q M k, 0 ≤ x ∧ x ≤ 3 := fun x hx => by
  unfold sqB at hx; obtain ⟨y, _, rfl⟩ := List.mem_map.1 hx; omega
theorem sq_diff (q : List Int) (M : Int) (k i : Nat) (h : i < k) : (q.getD i 0 + (sqA M k).getD i 0 - (sqB q M k).getD i 0) % 4 = 0 := by
  have e1 : (sqA M k).getD i 0 = ((i : Int) * i + M) % 4 := by unfold sqA; rw [List.getD_eq_getElem?_getD, List.getElem?_map, List.getElem?_range h]; rfl
  have e2 : (sqB q M k).getD i 0 = (q.getD i 0 + (i : Int) * i + M) % 4 := by unfold sqB; rw [List.getD_eq_getElem?_getD, List.getElem?_map, List.getElem?_range h]; rfl
  rw [e1, e2]
  generalize (i : Int) * i = s
  omega

theorem twice_plain {N : Nat} {gs : List (Int × Int)} {q : List Int} (h : turnOK N gs q = true) (a b : List Int) (ha : a.length = N) (hb : b.length = N) (ha3 : ∀ x ∈ a, 0 ≤ x ∧ x ≤ 3) (hb3 : ∀ x ∈ b, 0 ≤ x ∧ x ≤ 3)
    (hab : ∀ i, i < N → (q.getD i 0 + a.getD i 0 - b.getD i 0) % 4 = 0) : turnOK N (turnR N gs q) a = true ∧ turnOK N gs b = true ∧ turnR N (turnR N gs q) a = turnR N gs b := by
  obtain ⟨h1, hq, _⟩ := turnOK_of h
  have h2 := obsV_turned q h1
  have hR : ∀ c, turnOK N gs c = true → turnR N gs c = turnedOf gs c (pairsN N) := fun c hc => by unfold turnR; rw [hc, if_pos rfl]; rfl
  rw [hR q h]
  have hA := turnOK_mk h2 ha ha3
  have hB := turnOK_mk h1 hb hb3
  refine ⟨hA, hB, ?_⟩
  rw [hR b hB]
  have : turnR N (turnedOf gs q (pairsN N)) a = turnedOf (turnedOf gs q (pairsN N)) a (pairsN N) := by unfold turnR; rw [hA, if_pos rfl]; rfl
  rw [this]
  refine turnedOf_turnedOf _ _ _ _ _ fun x hx => ?_
  obtain ⟨h3, h4⟩ := mem_pairsN hx
  have e1 := hab x.1 (by omega)
  have e2 := hab x.2 h4
  omega

set_option maxRecDepth 100000 in
set_option maxHeartbeats 4000000 in
theorem FnObserveTurnTwice_walk (w : World) (A : Option Addr) (n cap : Nat) (bs : List Int) (hn : bs.length = n) (hm : n ≤ 9223372036854775807) (hr : Rd w w.heap.size A (bs.map (Value.int .u8))) (hw : ∀ x ∈ bs, (Lit.int .u8 x).wf = true) (hk : n ≤ cap) (C : Option Addr) (nC capC : Nat) (ms : List Int) (_ : ms.length = nC) (_ : nC ≤ 9223372036854775807) (_ : Rd w w.heap.size C (ms.map (Value.int .u8))) (_ : ∀ x ∈ ms, (Lit.int .u8 x).wf = true) (_ : nC ≤ capC) :
    Calls Try.prog 7 #[.slice A n cap, .slice C nC capC] w fun e w' => e = .returned (.bool true) ∧ Below w.heap.size w w' := by
  obtain ⟨i0, hi, hz0, hz1, hz2⟩ := info_parts intInfo
  have Hbs := Lib.hid (bytesOk_of hw); clear hw
  by_cases hb : n ≤ 1048576 ∧ nC ≤ 1048576
  · obtain ⟨hb, hbC⟩ := hb
    have hnb : ¬ (1048576 : Int) < (n : Int) := by omega
    have hnbC : ¬ (1048576 : Int) < (nC : Int) := by omega
    go_enter Try.func7, Try.ntmps7
    go_wp2_with fail
    refine (drawObserveTurn_any A n cap bs w hn hm hk Hbs.out hr).mono ?_
    rintro e w1 ⟨N, A1, k1, c1, gs, A2, k2, c2, q, rfl, hN2, hN6, hgs, hk1, hr1, hq, hk2, hr2, B1⟩
    have Hgs := Lib.hid hgs; clear hgs
    have Hq := Lib.hid hq; clear hq
    clear hr hn
    go_wp2_with fail
    refine (observeTurn_any N A1 A2 k1 c1 k2 c2 gs q _ Hgs.out Hq.out (by omega) (by omega) hr1 hr2).mono ?_
    rintro e w2 ⟨v6, rfl, o6, b2⟩
    have B2 := B1.trans (b2.mono B1.size)
    have hr1 := (hr1.below b2).more b2.size
    have hr2 := (hr2.below b2).more b2.size
    obtain ⟨A6, c6, rfl⟩ := own_form o6
    have hL := turnR_len N gs q
    obtain ⟨L, hLe⟩ : ∃ L, (turnR N gs q).length = L := ⟨_, rfl⟩
    obtain ⟨S, hS⟩ : ∃ S, turnR N gs q = S := ⟨_, rfl⟩
    obtain ⟨ok, hok⟩ : ∃ ok, turnOK N gs q = ok := ⟨_, rfl⟩
    have hLS : S.length = L := by rw [← hS]; exact hLe
    rw [hLe] at hL
    rw [hLe, hS] at o6
    have O6 := Lib.hid o6; clear o6 b2
    rw [hLe, hok]
    go_wp2_with fail
    refine (sObserveTurn_any N A1 A2 k1 c1 k2 c2 gs q _ Hgs.out Hq.out (by omega) (by omega) hr1 hr2).mono ?_
    rintro e w3 ⟨v8, rfl, o8, b3⟩
    have B3 := B2.trans (b3.mono B2.size)
    have hr1 := (hr1.below b3).more b3.size
    have hr2 := (hr2.below b3).more b3.size
    have O6 := Lib.hid (own_ext O6.out b3)
    obtain ⟨A8, c8, rfl⟩ := own_form o8
    rw [hLe, hS] at o8
    have O8 := Lib.hid o8; clear o8 b3
    have HLS := Lib.hid hLS; clear hLS
    have HLe := Lib.hid hLe
    have HS := Lib.hid hS
    have Hok := Lib.hid hok
    have hne : (ok != ok) = false := by simp
    rw [hLe, hok]
    clear hLe hS hok
    go_wp2_with fail
    refine (sameGrid_any A6 A8 L L c6 c8 S S _ HLS.out HLS.out (by omega) (Rd.of_own O6.out) (Rd.of_own O8.out)).mono ?_
    rintro e w4 ⟨rfl, b4⟩
    have B4 := B3.trans (b4.mono B3.size)
    have hr1 := (hr1.below b4).more b4.size
    have hr2 := (hr2.below b4).more b4.size
    have O6 := Lib.hid (own_ext O6.out b4)
    have O8 := Lib.hid (own_ext O8.out b4)
    clear b4
    rw [decide_eq_true (rfl : S = S)]
    cases ok
    · go_wp2_with fail
      refine (sameGrid_any A6 A8 L L c6 c8 S S _ HLS.out HLS.out (by omega) (Rd.of_own O6.out) (Rd.of_own O8.out)).mono ?_
      rintro e w5 ⟨rfl, b5⟩
      rw [decide_eq_true (rfl : S = S)]
      go_wp2_with fail
      go_ret
      exact ⟨rfl, B4.trans (b5.mono B4.size)⟩
    · obtain ⟨hobs, hqN, hq3⟩ := turnOK_of Hok.out
      obtain rfl : k2 = N := by rw [← hqN]; exact Hq.out.symm
      have Hq3 := Lib.hid hq3; clear hq3 hqN
      have Hobs := Lib.hid hobs; clear hobs
      go_wp2_with fail
      go_loopw [12, 13, 14] (fun v u i wr => ∃ k : Nat, k ≤ k2 ∧ i = .int .i64 k ∧ wr.ownsRow w4.heap.size 3 1 v k ((sqA nC k).map (Value.int .i64)) ∧ wr.ownsRow w4.heap.size 3 1 u k ((sqB q nC k).map (Value.int .i64)) ∧ Apart v u ∧ Below w4.heap.size w4 wr) (fun _ _ i _ => k2 - (intOf i).toNat)
      case atStart =>
        refine ⟨0, by omega, rfl, ?_, ?_, ?_, ((Below.refl _ _).alloc (Nat.le_refl _) _).alloc (by simp) _⟩
        · exact ((Row.new w4 3 []).own (Nat.le_refl _) rfl (by decide)).alloc _
        · exact (Row.new1 w4 (.cells #[] 3) 3 []).own (base := w4.heap.size) (n := 0) (size := 1) (by simp) rfl (by decide)
        · intro j h1 h2; simp [Value.ownBlock] at h1 h2; omega
      case round =>
        obtain ⟨k, hkk, rfl, hrow, hrow2, hap, hbel⟩ := hrel
        by_cases hlt : k < k2
        · obtain ⟨x, hx⟩ : ∃ x, q[k]? = some x := ⟨_, List.getElem?_eq_getElem (by rw [Hq.out]; exact hlt)⟩
          obtain ⟨b, off, rfl, hbb, hc⟩ := (hr2.below hbel) k (.int .i64 x) (by rw [List.getElem?_map, hx]; rfl)
          have hx3 := Hq3.out x (List.mem_of_getElem? hx)
          have hkk2 : 0 ≤ (k : Int) * k ∧ (k : Int) * k ≤ 49 := ⟨by exact_mod_cast Nat.zero_le (k * k), by have : k * k ≤ 7 * 7 := Nat.mul_le_mul (by omega) (by omega); exact_mod_cast this⟩
          have hs1 : 0 ≤ (k : Int) * k + nC := by omega
          have hs2 : 0 ≤ x + (k : Int) * k := by omega
          have hs3 : 0 ≤ x + (k : Int) * k + nC := by omega
          have hbs := hbel.size
          have Hx := Lib.hid hx; clear hx
          have Hrow := Lib.hid hrow; clear hrow
          have Hrow2 := Lib.hid hrow2; clear hrow2
          have Hap := Lib.hid hap; clear hap
          have Hbel := Lib.hid hbel; clear hbel
          go_wp2_with (first | (at_builtin; refine wpList_append_own_at _ rfl _ _ 41 rfl w4.heap.size 3 i0 (.int .i64 0) 1 8 (by kernel_rfl) hi hz0 hz1 hz2 rfl (by decide) _ k _ rfl (Hrow.out.alloc _) ⟨wr.heap.size, 0, none⟩ 1 1 [.int .i64 (((k : Int) * k + nC) % 4)] rfl rfl (cell_one_new _ _ _) (by simp [Value.oneCell']) (by unfold maxLen; omega) (by omega) (by simp; omega) ?_; intro v' w7 hown7 hgrow _ hat; obtain ⟨g', cap', rfl⟩ := ownsRow_succ hown7; obtain ⟨r27, hap7, hb7, hs7⟩ := two_rows Hrow.out Hrow2.out Hap.out Hbel.out hbs hgrow hat; obtain ⟨_, _, e2, _, hc7⟩ := (hr2.below hb7) k (.int .i64 x) (by rw [List.getElem?_map, Hx.out]; rfl); cases e2; have Hown7 := Lib.hid hown7; have R27 := Lib.hid r27; have Hap7 := Lib.hid hap7; have Hb7 := Lib.hid hb7; clear hown7 r27 hap7 hb7 hgrow hat Hrow hc) | (at_builtin; refine wpList_append_own_at _ rfl _ _ 41 rfl w4.heap.size 3 i0 (.int .i64 0) 1 8 (by kernel_rfl) hi hz0 hz1 hz2 rfl (by decide) _ k _ rfl (R27.out.alloc _) ⟨w7.heap.size, 0, none⟩ 1 1 [.int .i64 ((x + (k : Int) * k + nC) % 4)] rfl rfl (cell_one_new _ _ _) (by simp [Value.oneCell']) (by unfold maxLen; omega) (by omega) (by simp; omega) ?_; intro v' w8 hown8 hgrow _ hat; obtain ⟨g2, cap2, rfl⟩ := ownsRow_succ hown8; obtain ⟨r18, hap8, hb8, hs8⟩ := two_rows R27.out Hown7.out Hap7.out.symm Hb7.out hs7 hgrow hat; have Hown8 := Lib.hid hown8; have R18 := Lib.hid r18; have Hap8 := Lib.hid hap8.symm; have Hb8 := Lib.hid hb8; clear hown8 r18 hap8 hb8 hgrow hat R27 hc7))
          go_roundw
          case measure => simp [intOf]; omega
          case rel =>
            refine ⟨k + 1, by omega, by go_num, ?_, ?_, Hap8.out, Hb8.out⟩
            · rw [sqA_succ, List.map_append]; exact R18.out
            · rw [sqB_succ, List.map_append, show q.getD k 0 = x from by rw [List.getD_eq_getElem?_getD, Hx.out]; rfl]; exact Hown8.out
        · obtain rfl : k = k2 := by omega
          obtain ⟨A12, c12, rfl⟩ := own_form hrow
          obtain ⟨A13, c13, rfl⟩ := own_form hrow2
          obtain ⟨t1, t2, t3⟩ := twice_plain Hok.out (sqA nC k) (sqB q nC k) (sqA_len _ _) (sqB_len _ _ _) (sqA_3 _ _) (sqB_3 _ _ _) (fun i hi => sq_diff q nC k i hi)
          have la := sqA_len nC k
          have lb := sqB_len q nC k
          rw [HS.out] at t1 t3
          generalize sqA nC k = qa at *
          generalize sqB q nC k = qb at *
          have hLn := turnR_len k S qa
          obtain ⟨L2, hL2⟩ : ∃ L2, (turnR k S qa).length = L2 := ⟨_, rfl⟩
          rw [hL2] at hLn
          have Hrow := Lib.hid hrow
          have Hrow2 := Lib.hid hrow2
          clear hrow hrow2
          have B5 := B4.trans (hbel.mono B4.size)
          have hr1 := (hr1.below hbel).more hbel.size
          have O6 := Lib.hid (own_ext O6.out hbel)
          have T1 := Lib.hid t1; clear t1
          have T2 := Lib.hid t2; clear t2
          have T3 := Lib.hid t3; clear t3
          have La := Lib.hid la; clear la
          have Lb := Lib.hid lb; clear lb
          have HL2 := Lib.hid hL2; clear hL2
          clear hbel hap
          go_wp2_with fail
          refine (observeTurn_any k A6 A12 L c6 k c12 S qa _ HLS.out La.out (by omega) (by omega) (Rd.of_own O6.out) (Rd.of_own Hrow.out)).mono ?_
          rintro e w9 ⟨v15, rfl, o15, b9⟩
          have B9 := B5.trans (b9.mono B5.size)
          have hr1 := (hr1.below b9).more b9.size
          have O6 := Lib.hid (own_ext O6.out b9)
          have Hrow2 := Lib.hid (own_ext Hrow2.out b9)
          obtain ⟨A15, c15, rfl⟩ := own_form o15
          rw [HL2.out] at o15
          have O15 := Lib.hid o15; clear o15 b9
          rw [T1.out, HL2.out]
          go_wp2_with fail
          refine (observeTurn_any k A1 A13 k1 c1 k c13 gs qb _ Hgs.out Lb.out (by omega) (by omega) hr1 (Rd.of_own Hrow2.out)).mono ?_
          rintro e w10 ⟨v17, rfl, o17, b10⟩
          have B10 := B9.trans (b10.mono B9.size)
          have O15 := Lib.hid (own_ext O15.out b10)
          obtain ⟨A17, c17, rfl⟩ := own_form o17
          rw [← T3.out, HL2.out] at o17
          have O17 := Lib.hid o17; clear o17 b10
          rw [T2.out, ← T3.out, HL2.out]
          go_wp2_with fail
          refine (sameGrid_any A15 A17 L2 L2 c15 c17 _ _ _ HL2.out HL2.out (by omega) (Rd.of_own O15.out) (Rd.of_own O17.out)).mono ?_
          rintro e w11 ⟨rfl, b11⟩
          rw [decide_eq_true rfl]
          go_wp2_with fail
          go_ret
          exact ⟨rfl, B10.trans (b11.mono B10.size)⟩
  · have hnb : (1048576 : Int) < (n : Int) ∨ (1048576 : Int) < (nC : Int) := by omega
    by_cases h1 : n ≤ 1048576
    · have hnb : ¬ (1048576 : Int) < (n : Int) := by omega
      have hnbC : (1048576 : Int) < (nC : Int) := by omega
      go_enter Try.func7, Try.ntmps7
      go_wp2_with fail
      go_ret
      exact ⟨rfl, Below.refl _ _⟩
    · have hnb : (1048576 : Int) < (n : Int) := by omega
      go_enter Try.func7, Try.ntmps7
      go_wp2_with fail
      go_ret
      exact ⟨rfl, Below.refl _ _⟩
end Go.Proofs.Ytklhjofhmcaflaa
