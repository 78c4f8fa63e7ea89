/- 'bases(n)': the iterator over the baselines, and its contract for whatever loop body. -/
import Derived.RangeFuncNested
import Derived.RangeFuncBound
import Derived.RangeFuncCalls
import Derived.RangeFuncLeaves
import Derived.RangeFuncFrom
import Derived.WalkKit
import Derived.OwnWalkIn
import Derived.TacticsInMore
import Derived.LoopNIn
import Derived.LoopIn
import Derived.Test.YtcllkocmnohnkaaBase
namespace Go.Proofs.Ytcllkocmnohnkaa
open Go.RowKit
attribute [local go_sem] Oper.semAt_some

/-- The baselines with a first antenna i of n. -/
def rowOf (n i : Nat) : List (Nat × Nat) := (List.range (n - (i + 1))).map fun d => (i, i + 1 + d)
/-- All baselines whose first antenna is less than i. -/
def upTo (n i : Nat) : List (Nat × Nat) := (List.range i).flatMap (rowOf n)
def pairsN (n : Nat) : List (Nat × Nat) := upTo n n
theorem upTo_succ (n i : Nat) : upTo n (i + 1) = upTo n i ++ rowOf n i := by
  unfold upTo; rw [List.range_succ, List.flatMap_append]; simp
theorem rowOf_take (n i j : Nat) (hj : i < j) (hjn : j < n) : (rowOf n i).take (j + 1 - (i + 1)) = (rowOf n i).take (j - (i + 1)) ++ [(i, j)] := by
  have h1 : j + 1 - (i + 1) = (j - (i + 1)) + 1 := by omega
  rw [h1, List.take_add_one]
  unfold rowOf
  rw [List.getElem?_map, List.getElem?_range (by omega)]
  simp; omega
theorem rowOf_all (n i : Nat) : (rowOf n i).take (n - (i + 1)) = rowOf n i := by
  rw [List.take_of_length_le]; simp [rowOf]
theorem upTo_prefix (n i k : Nat) (h : i ≤ k) : upTo n i <+: upTo n k := by
  induction k with
  | zero => rw [show i = 0 by omega]; exact List.prefix_rfl
  | succ k ih =>
    rcases Nat.lt_or_ge k i with h1 | h1
    · rw [show i = k + 1 by omega]; exact List.prefix_rfl
    · rw [upTo_succ]; exact (ih h1).trans (List.prefix_append _ _)
theorem inner_prefix (n i m : Nat) (hi : i < n) : upTo n i ++ (rowOf n i).take m <+: pairsN n := by
  refine List.IsPrefix.trans ?_ (upTo_prefix n (i + 1) n (by omega))
  rw [upTo_succ]
  exact (List.prefix_append_right_inj _).2 (List.take_prefix _ _)
/-- A baseline: two antennas of n, the first one less. -/
abbrev BP (n : Nat) : Type := { x : Nat × Nat // x.1 < x.2 ∧ x.2 < n }
theorem mem_pairsN {n : Nat} {x : Nat × Nat} (h : x ∈ pairsN n) : x.1 < x.2 ∧ x.2 < n := by
  unfold pairsN upTo at h
  obtain ⟨i, hi, hx⟩ := List.mem_flatMap.1 h
  unfold rowOf at hx
  obtain ⟨d, hd, rfl⟩ := List.mem_map.1 hx
  simp at hd ⊢
  omega
def pairsB (n : Nat) : List (BP n) := (pairsN n).attachWith _ fun _ h => mem_pairsN h
theorem pairsB_map (n : Nat) : (pairsB n).map (·.1) = pairsN n := by
  unfold pairsB; rw [List.attachWith_map_subtype_val]
theorem pairsB_len (n : Nat) : (pairsB n).length = (pairsN n).length := by unfold pairsB; simp
theorem pairsB_inj {n : Nat} {xs ys : List (BP n)} (h : xs.map (·.1) = ys.map (·.1)) : xs = ys :=
  (List.map_inj_right (fun _ _ h => Subtype.ext h)).1 h

theorem bases_any (n : Int) (w : World) :
    Calls Try.prog 119 #[.int .i64 n] w fun e w' => e = .returned (.func (.func 175) #[] #[.pointer (some ⟨w.heap.size, 0, none⟩)]) ∧ w.alloc (.cells #[.int .i64 n] 3) = w' := by
  go_enter Try.func119, Try.ntmps119
  go_wp2
  go_ret
  exact ⟨rfl, rfl⟩

theorem wideN {m : Nat} : Fence.wide.depth.isSome = true → 1 ≤ m := fun h => by cases h

/-- What a body must keep for the iterator: its cell with n. -/
def KC (Bn n : Nat) (A B : World) : Prop := A.cell? ⟨Bn, 0, none⟩ = some (.int .i64 n) → B.cell? ⟨Bn, 0, none⟩ = some (.int .i64 n)
theorem KC_t {Bn n : Nat} {A B C : World} (h : KC Bn n A B) (k : KC Bn n B C) : KC Bn n A C := fun e => k (h e)
theorem KC_b {Bn n : Nat} (W : World) (l : Nat) (o o' : Obj) (h : W.heap[l]? = some o) (ho : o.isCells = false) : KC Bn n W (W.putObj l o') := fun e => by
  have hne : Bn ≠ l := by
    rintro rfl
    unfold World.cell? at e
    dsimp only at e
    rw [h] at e
    cases o <;> simp_all [Obj.isCells]
  unfold World.cell? at e ⊢
  dsimp only at e ⊢
  rw [World.putObj_heap_other hne]
  exact e
theorem KC_of {Bn n n₀ : Nat} {A B : World} (h : Below n₀ A B) (hlt : Bn < n₀) : KC Bn n A B := fun e => (h.cell (p := ⟨Bn, 0, none⟩) hlt).trans e

/-- The iterator hands every baseline of n antennas to the loop body, in order, till it says no more. -/
theorem bases1_in (m n : Nat) (h2 : 2 ≤ n) (h7 : n ≤ 7) (l Bn : Nat) (J Jx : List (Nat × Nat) → World → Prop)
    (hY : ∀ pre x W, J pre W → pre ++ [x] <+: pairsN n → YieldAt Fence.wide (m - 1) Try.prog l #[.int .i64 (x.1 : Nat), .int .i64 (x.2 : Nat)] W fun e W' =>
      (e = .returned (.bool true) ∧ J (pre ++ [x]) W' ∧ KC Bn n W W') ∨ (e = .returned (.bool false) ∧ Jx (pre ++ [x]) W'))
    (W : World) (hBn : W.cell? ⟨Bn, 0, none⟩ = some (.int .i64 n)) (h0 : J [] W) :
    CallsIn Fence.wide m Try.prog 175 #[.func (.yield l) #[] #[], .pointer (some ⟨Bn, 0, none⟩)] W fun e W' => (∃ v, e = .returned v) ∧
      ((∃ ys, ys = pairsN n ∧ J ys W') ∨ (∃ pre, pre <+: pairsN n ∧ Jx pre W')) := by
  refine callsIn_of_wp Try.func175 rfl trivial ?_ rfl
  simp only [Try.ntmps175, List.size_toArray, List.length_cons, List.length_nil, Nat.reduceAdd, Nat.reduceSub, Array.replicate_succ, Array.replicate_zero, List.push_toArray, List.append_toArray, List.nil_append, List.cons_append]
  gi_wp2
  gi_loopw [3] (fun p wr => ∃ i : Nat, i ≤ n ∧ p = .int .i64 i ∧ J (upTo n i) wr ∧ wr.cell? ⟨Bn, 0, none⟩ = some (.int .i64 n)) (fun p _ => n - (intOf p).toNat)
  case atStart => exact ⟨0, by omega, rfl, h0, hBn⟩
  case round =>
    obtain ⟨i, hi, rfl, hJ, hc⟩ := hrel
    have hmany : inR (n : Int) 2 7 = true := inR_iff.2 (by omega)
    have Hm := Lib.hid hmany; clear hmany
    have HJ := Lib.hid hJ; clear hJ
    by_cases hlt2 : i < n
    · gi_wp2_with fail
      refine ⟨trivial, wideN, (callsIn_wide.2 (isMany_any _ _)).mono ?_⟩
      rintro e w' ⟨rfl, rfl⟩
      rw [Hm.out]
      gi_wp2_with fail
      obtain ⟨wo, hwo⟩ : ∃ wo : World, wo = wr := ⟨_, rfl⟩
      gi_loopw [4] (fun p wr2 => ∃ j : Nat, i < j ∧ j ≤ n ∧ p = .int .i64 j ∧ J (upTo n i ++ (rowOf n i).take (j - (i + 1))) wr2 ∧ wr2.cell? ⟨Bn, 0, none⟩ = some (.int .i64 n)) (fun p _ => n - (intOf p).toNat)
      case atStart => exact ⟨i + 1, by omega, by omega, by go_num, by simpa using HJ.out, hc⟩
      case round =>
        obtain ⟨j, hij, hj, rfl, hJ2, hc2⟩ := hrel
        have HJ2 := Lib.hid hJ2; clear hJ2 HJ hwo hc
        by_cases hlt3 : j < n
        · obtain ⟨fn, tmps, assign, body, hy, hR⟩ := hY _ (i, j) _ HJ2.out (by rw [List.append_assoc, ← rowOf_take n i j hij hlt3]; exact inner_prefix n i _ hlt2)
          dsimp only at hy
          have hrow := rowOf_take n i j hij hlt3
          have Hrow := Lib.hid hrow; clear hrow
          have HR := Lib.hid hR; clear hR
          gi_wp2_with fail
          refine ⟨wideN, HR.out.mono ?_⟩
          rintro e W3 (⟨rfl, hJ3, hk3⟩ | ⟨rfl, hJx3⟩)
          · have hc3 : W3.cell? ⟨Bn, 0, none⟩ = some (.int .i64 n) := hk3 hc2
            have HJ3 := Lib.hid hJ3; clear hJ3 hk3 HR
            gi_wp2_with fail
            go_roundw
            case measure => simp [intOf]; omega
            case rel =>
              refine ⟨j + 1, by omega, by omega, by go_num, ?_, hc3⟩
              rw [Hrow.out, ← List.append_assoc]
              exact HJ3.out
          · have HJ3 := Lib.hid hJx3; clear hJx3 HR
            gi_wp2_with fail
            refine bodyPost_ret (results_none rfl _ _ _) rfl ?_
            refine ⟨⟨_, rfl⟩, .inr ⟨_, ?_, HJ3.out⟩⟩
            rw [List.append_assoc, ← Hrow.out]
            exact inner_prefix n i _ hlt2
        · obtain rfl : j = n := by omega
          gi_wp2_with fail
          go_roundw
          case measure => simp [intOf]; omega
          case rel =>
            refine ⟨i + 1, by omega, by go_num, ?_, hc2⟩
            rw [upTo_succ, ← rowOf_all j i]
            exact HJ2.out
    · obtain rfl : i = n := by omega
      gi_wp2_with fail
      refine ⟨trivial, ?_⟩
      gi_wp2_with fail
      go_end0
      exact ⟨⟨_, rfl⟩, .inl ⟨_, rfl, HJ.out⟩⟩

/-- .. in the words of the law on loops over a function: the body is handed baselines of n. -/
theorem bases_stops (m n : Nat) (h2 : 2 ≤ n) (h7 : n ≤ 7) (Bn : Nat) (w : World) (hBn : w.cell? ⟨Bn, 0, none⟩ = some (.int .i64 n)) (hlt : Bn < w.heap.size) :
    SeqStopsK Fence.wide m Try.prog 175 #[.pointer (some ⟨Bn, 0, none⟩)] (fun x : BP n => #[.int .i64 (x.1.1 : Nat), .int .i64 (x.1.2 : Nat)]) (KC Bn n) (fun xs => xs = pairsB n) (fun pre => pre <+: pairsB n) (pairsN n).length w := by
  intro l J Jx W hW _ _ hY h0
  refine (bases1_in m n h2 h7 l Bn (fun pre W => ∃ pb : List (BP n), pb.map (·.1) = pre ∧ J pb W) (fun pre W => ∃ pb : List (BP n), pb.map (·.1) = pre ∧ Jx pb W) ?_ W ((hW.cell (p := ⟨Bn, 0, none⟩) (by simpa using hlt)).trans hBn) ⟨[], rfl, h0⟩).mono ?_
  · rintro pre x W1 ⟨pb, rfl, hJ⟩ hp
    have hx := mem_pairsN (List.IsPrefix.subset hp (List.mem_append_right _ (List.mem_singleton.2 rfl)))
    have hl := hp.length_le
    refine (hY pb ⟨x, hx⟩ W1 hJ (by simp at hl; omega)).mono ?_
    rintro e W' (⟨he, h1, h2⟩ | ⟨he, h1⟩)
    · exact .inl ⟨he, ⟨_, by rw [List.map_append]; rfl, h1⟩, h2⟩
    · exact .inr ⟨he, ⟨_, by rw [List.map_append]; rfl, h1⟩⟩
  · rintro e W' ⟨hv, (⟨ys, rfl, pb, hp, hJ⟩ | ⟨pre, hp, pb, rfl, hJ⟩)⟩
    · exact ⟨hv, .inl ⟨pb, pairsB_inj (hp.trans (pairsB_map n).symm), hJ⟩⟩
    · refine ⟨hv, .inr ⟨pb, ?_, hJ⟩⟩
      rw [← pairsB_map] at hp
      obtain ⟨t, ht⟩ := hp
      refine ⟨(pairsB n).drop pb.length, pairsB_inj ?_⟩
      rw [List.map_append, List.map_drop, ← ht]
      congr 1
      rw [List.drop_append_of_le_length (by simp)]
      simp
theorem bm_pairs (n : Nat) (h2 : 2 ≤ n) (h7 : n ≤ 7) : bm n = ((pairsN n).length : Int) := by
  have : n = 2 ∨ n = 3 ∨ n = 4 ∨ n = 5 ∨ n = 6 ∨ n = 7 := by omega
  rcases this with rfl | rfl | rfl | rfl | rfl | rfl <;> decide
theorem upTo_len_bF (n i j : Nat) (h7 : n ≤ 7) (hi : i < j) (hj : j ≤ n) : (((upTo n i ++ (rowOf n i).take (j - (i + 1))).length : Nat) : Int) = bF n i j := by
  have h1 : ((rowOf n i).take (j - (i + 1))).length = j - (i + 1) := by
    rw [List.length_take, rowOf, List.length_map, List.length_range]; omega
  rw [List.length_append, h1]
  have hn : n = 0 ∨ n = 1 ∨ n = 2 ∨ n = 3 ∨ n = 4 ∨ n = 5 ∨ n = 6 ∨ n = 7 := by omega
  have hi' : i = 0 ∨ i = 1 ∨ i = 2 ∨ i = 3 ∨ i = 4 ∨ i = 5 ∨ i = 6 := by omega
  unfold bF
  rcases hi' with rfl | rfl | rfl | rfl | rfl | rfl | rfl <;> rcases hn with rfl | rfl | rfl | rfl | rfl | rfl | rfl | rfl <;> first | omega | (simp [upTo, rowOf, List.range_succ]; omega)
end Go.Proofs.Ytcllkocmnohnkaa
