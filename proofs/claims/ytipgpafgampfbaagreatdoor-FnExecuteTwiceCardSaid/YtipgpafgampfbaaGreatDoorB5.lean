/- 'slices.Clone', 'slices.Max', 'slices.Index' on numbers. · A region that draws its order and whose marked operations may come in several orders: each order is walked. · The first functions of cleanings. · What a script does: plain. · The library's Atoi at every word; FieldsFunc at blanks; Split at one byte; TrimSuffix: what they return. · The draws of a sky. · The draws of an array. · 'impl.CoverOf' at an array that is none; the script's numbers, antennas, phases. · The script's antennas and phases. -/
import Derived.Test.YtipgpafgampfbaaGreatDoorA5
import Derived.WalkSpells
import Derived.Test.YtipgpafgampfbaaGreatDoorA2
import Derived.Test.YtipgpafgampfbaaGreatDoorB1
import Derived.Test.YtipgpafgampfbaaGreatDoorB3
import Derived.Test.YtipgpafgampfbaaGreatDoorB4
import Derived.Lib.AtoiAllCases
import Derived.Test.YtipgpafgampfbaaGreatDoorB2
import Derived.Maps.AppendAt
namespace Go.Proofs.YtipgpafgampfbaaGreatDoor
open Go.RowKit

theorem rd_some {w : World} {B : Nat} {A : Option Addr} {xs : List Value} (h : Rd w B A xs) (hx : 0 < xs.length) : ∃ b o, A = some ⟨b, o, none⟩ ∧ b < B := by
  obtain ⟨b, o, e, hb, _⟩ := h 0 xs[0] (List.getElem?_eq_getElem hx)
  exact ⟨b, o, e, hb⟩
theorem rd_cells {w : World} {B b o : Nat} {xs : List Value} (h : Rd w B (some ⟨b, o, none⟩) xs) (i : Nat) (u : Value) (hu : xs[i]? = some u) : w.cell? ⟨b, o + i, none⟩ = some u := by
  obtain ⟨_, _, e, _, hc⟩ := h i u hu
  cases e
  exact hc

theorem ints_at' {l : List Int} {c : Nat} (h : c < l.length) : (l.map (Value.int .i64))[c]? = some (.int .i64 (l.getD c 0)) := by
  simp [List.getD, h]
set_option maxHeartbeats 1000000 in
theorem clone_any (A : Option Addr) (n cap : Nat) (s : List Int) (w : World) (hn : s.length = n) (h0 : 0 < n) (h1 : n ≤ 1000) (hr : Rd w w.heap.size A (s.map (Value.int .i64))) :
    Calls Tryz.prog 76 #[.slice A n cap] w fun e w' => ∃ v, e = .returned v ∧ w'.ownsRow w.heap.size 3 1 v n (s.map (Value.int .i64)) ∧ Below w.heap.size w w' := by
  obtain ⟨i0, hi, hz0, hz1, hz2⟩ := info_parts intInfo
  obtain ⟨b, o, rfl, hb⟩ := rd_some hr (by rw [List.length_map]; omega)
  have hnil := fun (w : World) => Lib.run_eql_slice_nil (P := Tryz.prog) w 32 3 (some ⟨b, o, none⟩) n cap 0 0 Tryz.underlying32
  have r0 := Row.new w 3 []
  have o2 := r0.own (base := w.heap.size) (n := 0) (size := 1) (Nat.le_refl _) rfl (by decide)
  have hr1 := hr.ext (bA1 (o := .cells #[] 3))
  have hcs : ∀ j u, (s.map (Value.int .i64))[j]? = some u → (w.alloc (.cells #[] 3)).cell? ((⟨b, o, none⟩ : Addr).add j) = some u := fun j u hu => by
    have := rd_cells hr1 j u hu
    by_cases h0 : j = 0
    · subst h0; simpa [Addr.add] using this
    · simpa [Addr.add, h0] using this
  have hll : (s.map (Value.int .i64)).length = n * 1 := by rw [List.length_map, hn, Nat.mul_one]
  have hone : ∀ u ∈ s.map (Value.int .i64), u.oneCell' = true := fun u hu => by
    obtain ⟨x, _, rfl⟩ := List.mem_map.1 hu
    rfl
  have Hn := Lib.hid hn; clear hn
  clear r0 hr1 hr
  go_enter Tryz.func76, Tryz.ntmps76
  go_wp2_with (at_builtin; refine wpList_append_own _ rfl _ _ 32 rfl w.heap.size 3 i0 (.int .i64 0) 1 8 (by kernel_rfl) hi hz0 hz1 hz2 rfl (by decide) _ 0 _ rfl o2 ⟨b, o, none⟩ n cap _ rfl hll hcs hone (by unfold maxLen; omega) (by omega) (by simp) ?_; intro v' w7 hown' hgrow _)
  have hb7 := (bA1 (w := w) (o := .cells #[] 3)).grown hgrow (by simp) fun j hj => (own_lt o2 hj).1
  rw [Nat.zero_add, List.nil_append] at hown'
  have Hown := Lib.hid hown'
  clear hown' hgrow hnil
  go_wp2_with fail
  go_ret
  exact ⟨_, rfl, Hown.out, hb7⟩

theorem maxL_take (l : List Int) (k : Nat) (hk : k < l.length) (h0 : 0 < k) : maxL (l.take (k + 1)) = max (maxL (l.take k)) (l.getD k 0) := by
  unfold maxL
  rw [List.take_succ_eq_append_getElem hk, List.foldl_append]
  have e : (l.take k ++ [l[k]]).getD 0 0 = (l.take k).getD 0 0 := by
    rw [List.getD_eq_getElem?_getD, List.getElem?_append_left (by rw [List.length_take]; omega), List.getD_eq_getElem?_getD]
  rw [e, List.getD_eq_getElem?_getD (l := l), List.getElem?_eq_getElem hk]
  rfl
theorem maxL_one (l : List Int) (h : 0 < l.length) : maxL (l.take 1) = l.getD 0 0 := by
  cases l with
  | nil => simp at h
  | cons x l => simp [maxL]
set_option maxHeartbeats 1000000 in
theorem slicesMax_any (A : Option Addr) (n cap : Nat) (s : List Int) (w : World) (hn : s.length = n) (h0 : 0 < n) (h1 : n ≤ 1000) (hr : Rd w w.heap.size A (s.map (Value.int .i64))) :
    Calls Tryz.prog 141 #[.slice A n cap] w fun e w' => e = .returned (.int .i64 (maxL s)) ∧ w = w' := by
  obtain ⟨b, o, rfl, hb⟩ := rd_some hr (by rw [List.length_map]; omega)
  have hc : ∀ k, k < n → w.cell? ⟨b, o + k, none⟩ = some (.int .i64 (s.getD k 0)) := fun k hk => rd_cells hr k _ (ints_at' (by omega))
  have c0 := hc 0 h0
  rw [Nat.add_zero] at c0
  have hm1 := maxL_one s (by omega)
  have hM : maxL s = maxL (s.take n) := by rw [List.take_of_length_le (by omega)]
  have HC := Lib.hid hc
  rw [hM]
  have Hn := Lib.hid hn; clear hn
  have Hm1 := Lib.hid hm1; clear hm1
  have HM := Lib.hid hM; clear hM
  clear hc hr
  go_enter Tryz.func141, Tryz.ntmps141
  go_wp2_with fail
  go_loop [3, 4] (fun m i => ∃ k : Nat, 0 < k ∧ k ≤ n ∧ i = .int .i64 k ∧ m = .int .i64 (maxL (s.take k))) (fun _ i => n - (intOf i).toNat)
  case atStart => exact ⟨1, by omega, by omega, rfl, by rw [Hm1.out]; rfl⟩
  case round =>
    obtain ⟨k, hk0, hk, rfl, rfl⟩ := hrel
    by_cases hlt : k < n
    · have hck := HC.out k hlt
      have hmt := maxL_take s k (by rw [Hn.out]; exact hlt) hk0
      generalize s.getD k 0 = x at *
      have Hmt := Lib.hid hmt; clear hmt
      clear c0
      go_wp2_with fail
      go_round
      case rel => exact ⟨k + 1, by omega, by omega, by go_num, by rw [Hmt.out, Int.max_def] <;> (congr 1; split <;> split <;> omega)⟩
      case measure => simp [intOf]; omega
    · obtain rfl : k = n := by omega
      go_wp2_with fail
      go_ret
      exact ⟨rfl, rfl⟩
set_option maxHeartbeats 1000000 in
theorem slicesIndex_any (A : Option Addr) (n cap : Nat) (s : List Int) (x : Int) (w : World) (hn : s.length = n) (h0 : 0 < n) (h1 : n ≤ 1000) (hx : x ∈ s) (hr : Rd w w.heap.size A (s.map (Value.int .i64))) :
    Calls Tryz.prog 142 #[.slice A n cap, .int .i64 x] w fun e w' => e = .returned (.int .i64 (s.idxOf x : Nat)) ∧ w = w' := by
  obtain ⟨b, o, rfl, hb⟩ := rd_some hr (by rw [List.length_map]; omega)
  have hc : ∀ k, k < n → w.cell? ⟨b, o + k, none⟩ = some (.int .i64 (s.getD k 0)) := fun k hk => rd_cells hr k _ (ints_at' (by omega))
  have hil := List.idxOf_lt_length_iff.2 hx
  have hiv : s.getD (s.idxOf x) 0 = x := by
    rw [List.getD_eq_getElem?_getD, List.getElem?_eq_getElem hil]
    exact List.getElem_idxOf hil
  have hbefore : ∀ k, k < s.idxOf x → s.getD k 0 ≠ x := fun k hk e => by
    have hkl : k < s.length := by omega
    rw [List.getD_eq_getElem?_getD, List.getElem?_eq_getElem hkl] at e
    have := List.not_of_lt_findIdx (p := (· == x)) hk
    simp at e
    simp [e] at this
  rw [hn] at hil
  generalize s.idxOf x = p at *
  have HC := Lib.hid hc
  have Hn := Lib.hid hn; clear hn
  have Hiv := Lib.hid hiv; clear hiv
  have Hbefore := Lib.hid hbefore; clear hbefore
  clear hc hr hx
  go_enter Tryz.func142, Tryz.ntmps142
  go_wp2_with fail
  go_loop [8] (fun i => ∃ k : Nat, k ≤ p ∧ i = .int .i64 k) (fun i => n - (intOf i).toNat)
  case atStart => exact ⟨0, by omega, rfl⟩
  case round =>
    obtain ⟨k, hk, rfl⟩ := hrel
    have hlt : k < n := by omega
    have hck := HC.out k hlt
    by_cases hkp : k = p
    · subst hkp
      rw [Hiv.out] at hck
      have hbe : (x == x) = true := by simp
      go_wp2_with fail
      go_ret
      exact ⟨rfl, rfl⟩
    · have hne := Hbefore.out k (by omega)
      generalize s.getD k 0 = y at *
      have hbe : (x == y) = false := beq_eq_false_iff_ne.2 fun e => hne e.symm
      clear hne
      go_wp2_with fail
      go_round
      case rel => exact ⟨k + 1, by omega, by go_num⟩
      case measure => simp [intOf]; omega
end Go.Proofs.YtipgpafgampfbaaGreatDoor

namespace Go.Proofs.YtipgpafgampfbaaGreatDoor
open Go.RowKit
section
variable {P : Program} {ops : Array Oper} {C : World → Prop} {Q : Exit → Act → World → Prop} {sp nk : Nat → Bool} {f : Nat} {listed : Array Bool} {a : Act} {w : World}
structure wpTree (P : Program) (ops : Array Oper) (C : World → Prop) (Q : Exit → Act → World → Prop) (sp nk : Nat → Bool) (f : Nat) (listed : Array Bool) (a : Act) (w : World) : Prop where
  out : wpAnyS P ops C Q sp nk f listed a w
theorem wpTree_nil (hr : Region.ready .any ops listed = []) (h : ∀ w', Ext w w' → Q .normal a w') : wpTree P ops C Q sp nk 0 listed a w := ⟨hr, h⟩
theorem wpTree_one {i : Nat} {o : Oper} (hr : Region.ready .any ops listed = [i]) (ho : ops[i]? = some o) (hs : sp i = true)
    (h : ∀ w', Ext w w' → ∀ K : Act → World → Prop, (∀ a'' w'', (nk i = false → C w'') → wpTree P ops C Q sp nk f (listed.setIfInBounds i true) a'' w'' → K a'' w'') → wpList P ops (Exit.then K Q) [o] a w') :
    wpTree P ops C Q sp nk (f + 1) listed a w := by
  refine ⟨fun h0 => (by rw [hr] at h0; cases h0), fun j hj => ?_⟩
  rw [hr] at hj
  obtain rfl : j = i := by simpa using hj
  rw [if_pos hs]
  exact fun w' hw' => wpOp_of_list ho (h w' hw' _ fun _ _ h1 h2 => ⟨h1, h2.out⟩)
theorem wpTree_two {i j : Nat} {o o' : Oper} (hr : Region.ready .any ops listed = [i, j]) (ho : ops[i]? = some o) (ho' : ops[j]? = some o') (hs : sp i = true) (hs' : sp j = true)
    (h : ∀ w', Ext w w' → ∀ K : Act → World → Prop, (∀ a'' w'', (nk i = false → C w'') → wpTree P ops C Q sp nk f (listed.setIfInBounds i true) a'' w'' → K a'' w'') → wpList P ops (Exit.then K Q) [o] a w')
    (h' : ∀ w', Ext w w' → ∀ K : Act → World → Prop, (∀ a'' w'', (nk j = false → C w'') → wpTree P ops C Q sp nk f (listed.setIfInBounds j true) a'' w'' → K a'' w'') → wpList P ops (Exit.then K Q) [o'] a w') :
    wpTree P ops C Q sp nk (f + 1) listed a w := by
  refine ⟨fun h0 => (by rw [hr] at h0; cases h0), fun l hl => ?_⟩
  rw [hr] at hl
  rcases List.mem_cons.1 hl with rfl | hl
  · rw [if_pos hs]
    exact fun w' hw' => wpOp_of_list ho (h w' hw' _ fun _ _ h1 h2 => ⟨h1, h2.out⟩)
  · obtain rfl : l = j := by simpa using hl
    rw [if_pos hs']
    exact fun w' hw' => wpOp_of_list ho' (h' w' hw' _ fun _ _ h1 h2 => ⟨h1, h2.out⟩)

def chkT (ops : Array Oper) (sp nk : Nat → Bool) (L : Array Bool) (m : Nat) : Bool :=
  Region.noSelect ops && chkN ops sp nk && (chkS ops sp 0 ops.size (Array.replicate ops.size false) == some L) && (cntM sp 0 ops.size == m)
theorem wpAny_T {l : List Oper} {L : Array Bool} {m : Nat} (hB : chkT l.toArray sp nk L m = true) (hC : ∀ w w', C w → Ext w w' → C w') (hQ : ∀ c a d v w, Q (.panic c) (a.put d v) w → Q (.panic c) a w)
    {a : Act} {w : World} (h0 : C w) (h : stillF P l.toArray C sp (fun a' => wpAnyS P l.toArray C Q sp nk m L a' w) 0 l a) :
    wpAny P .any l.toArray Q l.toArray.size (Array.replicate l.toArray.size false) a w := by
  unfold chkT at hB
  simp only [Bool.and_eq_true, beq_iff_eq] at hB
  obtain ⟨⟨⟨hsel, hN⟩, hS⟩, hm⟩ := hB
  refine wpAny_of_S (sp := sp) (nk := nk) hC _ _ _ _ ?_
  have hcl : Closed l.toArray (Array.replicate l.toArray.size false) := fun j o _ hj => by
    rcases Nat.lt_or_ge j l.length with hh | hh
    · simp [hh] at hj
    · simp [hh] at hj
  have := lexS (P := P) (Q := Q) hC hsel hN hQ m l 0 _ L a w (by simp) (by simpa using hS) hcl h0 h
  have e := cnt_add sp l.length 0
  simp only [List.size_toArray] at hm
  rw [hm] at e
  rw [e] at this
  simpa using this
theorem wp_region_T {l : List Oper} (spL nkL : List Nat) (L : List Bool) (m : Nat) {id : Nat} {a : Act} {w : World} (C : World → Prop) (R : Act → World → Prop) (hm : P.follows .mixedOrders = true)
    (hB : chkT l.toArray (fun i => spL.contains i) (fun i => nkL.contains i) L.toArray m = true) (hC : ∀ w w', C w → Ext w w' → C w') (h0 : C w.drew) (hR : ∀ a w, R a w → Q .normal a w)
    (h : wpStill P l.toArray C (fun i => spL.contains i) (fun a' => wpTree P l.toArray C (onlyN R) (fun i => spL.contains i) (fun i => nkL.contains i) m L.toArray a' w.drew) 0 l a) : (Code.region id l.toArray true).wp P Q a w :=
  wp_mono (wp_region_any hm (wpAny_T (Q := onlyN R) hB hC (fun _ _ _ _ _ h => h.elim) h0 (stillF_mono (fun _ h => h.out) _ _ _ h.out))) fun e a w h => by cases e <;> first | exact hR a w h | exact h.elim
theorem wpIn_region_C {l : List Oper} (spL nkL : List Nat) {id n r : Nat} {a : Act} {w : World} (C : World → Prop) (hm : P.follows .mixedOrders = true) (hd : noDefer l.toArray = true) (hB : chkR l.toArray (fun i => spL.contains i) (fun i => nkL.contains i) = true)
    (hC : ∀ w w', C w → Ext w w' → C w') (h0 : C w.drew)
    (h : wpStill P l.toArray C (fun i => spL.contains i) (fun a' => wpMark P l.toArray C (onlyN (Q .normal)) (fun i => spL.contains i) (fun i => nkL.contains i) 0 l a' w.drew) 0 l a) : (Code.region id l.toArray true).wpIn (Fence.wide.inRound r) n P Q a w :=
  wpIn_mono (wpIn_region_R spL nkL C hm hd hB (fun ⟨_, _, h⟩ => h) hC (fun _ _ _ _ _ h => h.elim) h0 h) onlyN_imp
end
end Go.Proofs.YtipgpafgampfbaaGreatDoor

namespace Go.Proofs.YtipgpafgampfbaaGreatDoor
open Go.RowKit

set_option maxHeartbeats 1000000 in
theorem cleanValid_any (A B : Option Addr) (ca cb : Nat) (M L : List Int) (w : World) (hM : M.length = 16) (hL : L.length = 16) (hr : Rd w w.heap.size A (M.map (Value.int .i64))) (hr2 : Rd w w.heap.size B (L.map (Value.int .i64))) :
    Calls Tryz.prog 77 #[.agg #[.slice A 16 ca, .slice B 16 cb]] w fun e w' => e = .returned (.bool (skyV M && skyV L)) ∧ Below w.heap.size w w' := by
  have rB := Row.new w 43 [.slice A 16 ca, .slice B 16 cb]
  have hr1 := hr.ext (bA1 (o := .cells #[.slice A 16 ca, .slice B 16 cb] 43))
  have hr3 := hr2.ext (bA1 (o := .cells #[.slice A 16 ca, .slice B 16 cb] 43))
  obtain ⟨c0, c1, _, _⟩ := rB.two
  cases h1 : skyV M
  · have HM := Lib.hid hM; clear hM
    have HL := Lib.hid hL; clear hL
    have H1 := Lib.hid h1; clear h1
    go_enter Tryz.func77, Tryz.ntmps77
    go_wp2_with fail
    refine (skyValid_any A 16 ca M _ HM.out (by omega) hr1).mono ?_
    rintro e w1 ⟨rfl, rfl⟩
    rw [H1.out]
    go_wp2_with fail
    go_ret
    exact ⟨rfl, bA1⟩
  · cases h2 : skyV L
    all_goals
      have HM := Lib.hid hM; clear hM
      have HL := Lib.hid hL; clear hL
      have H1 := Lib.hid h1; clear h1
      have H2 := Lib.hid h2; clear h2
      go_enter Tryz.func77, Tryz.ntmps77
      go_wp2_with fail
      refine (skyValid_any A 16 ca M _ HM.out (by omega) hr1).mono ?_
      rintro e w1 ⟨rfl, rfl⟩
      rw [H1.out]
      go_wp2_with fail
      refine (skyValid_any B 16 cb L _ HL.out (by omega) hr3).mono ?_
      rintro e w1 ⟨rfl, rfl⟩
      rw [H2.out]
      go_wp2_with fail
      go_ret
      exact ⟨rfl, bA1⟩

set_option maxHeartbeats 1000000 in
theorem cleanNew_yes (A : Option Addr) (ca : Nat) (s : List Int) (w : World) (hv : skyV s = true) (hr : Rd w w.heap.size A (s.map (Value.int .i64))) :
    Calls Tryz.prog 35 #[.slice A 16 ca] w fun e w' => ∃ G v, e = .returned (.tuple #[.agg #[.slice (some ⟨G, 0, none⟩) 16 16, v], .bool true]) ∧ w.heap.size ≤ G ∧ Row w' G 3 (zeros16.map (Value.int .i64)) ∧ w'.ownsRow w.heap.size 3 1 v 16 (s.map (Value.int .i64)) ∧ Below w.heap.size w w' := by
  obtain ⟨Z, hZ⟩ : ∃ Z, List.replicate 16 (Value.int .i64 0) = Z := ⟨_, rfl⟩
  have hmk : ∀ W : World, (Instr.makeSlice 32 (.int .i64 16) (.int .i64 16)).run Tryz.prog W = .ok (.slice (some ⟨W.heap.size, 0, none⟩) 16 16) (W.alloc (.cells Z.toArray 3)) := fun W => by
    rw [← hZ]; exact run_make1 (P := Tryz.prog) 32 3 (.int .i64 0) 8 Tryz.underlying32 (by kernel_rfl) rfl 16 (by omega) (by omega) W
  have hz2 : Z = zeros16.map (Value.int .i64) := by rw [← hZ]; unfold zeros16; rw [List.map_replicate]
  have hl := skyV_len hv
  have Hz2 := Lib.hid hz2
  clear hZ hz2
  have Hv := Lib.hid hv; clear hv
  have Hl := Lib.hid hl; clear hl
  go_enter Tryz.func35, Tryz.ntmps35
  go_wp2_with fail
  have e0 := Row.new w 43 [.slice none 0 0, .slice none 0 0]
  have b0 := bA1 (w := w) (o := .cells #[.slice none 0 0, .slice none 0 0] 43)
  refine (skyValid_any A 16 ca s _ Hl.out (by omega) (hr.ext b0)).mono ?_
  rintro e w1 ⟨rfl, rfl⟩
  rw [Hv.out]
  go_wp2_with fail
  obtain ⟨W, hW⟩ : ∃ W, w.alloc (.cells #[.slice none 0 0, .slice none 0 0] 43) = W := ⟨_, rfl⟩
  have hr1 := hr.ext b0
  have hWs : W.heap.size = w.heap.size + 1 := by rw [← hW, World.size_alloc]
  rw [hW] at e0 b0 hr1 ⊢
  clear hW
  refine wp_region_T [0, 2, 3, 4, 5] [4, 5] [false, true, false, false, false, false] 5 (Below W.heap.size W)
    (fun a' w' => ∃ G v, a' = ⟨#[.slice A 16 ca, undef, .pointer (some ⟨w.heap.size, 0, none⟩), .bool true, .slice A 16 ca, .bool true, .bool false, undef, .slice (some ⟨G, 0, none⟩) 16 16, .slice A 16 ca, v, .agg #[.slice (some ⟨G, 0, none⟩) 16 16, v]], []⟩ ∧ w.heap.size ≤ G ∧
      Row w' G 3 (zeros16.map (Value.int .i64)) ∧ w'.ownsRow w.heap.size 3 1 v 16 (s.map (Value.int .i64)) ∧ Row w' w.heap.size 43 [.slice (some ⟨G, 0, none⟩) 16 16, v] ∧ Below w.heap.size w w')
    (by kernel_rfl) (by kernel_rfl) (fun _ _ h h' => h.trans (h'.mono h.size)) (Below.refl _ _).drew ?next ?walk
  case next =>
    rintro a' V ⟨G, v, rfl, hG, rG, ov, rH, hB⟩
    obtain ⟨q0, q1, _, _⟩ := rH.two
    simp only [Exit.then]
    go_wp2_with fail
    exact bodyPost_ret (v := .tuple #[.agg #[.slice (some ⟨G, 0, none⟩) 16 16, v], .bool true]) (by simp [results, Tryz.results35, go_sem, q0, q1]) rfl ⟨G, v, rfl, hG, rG, ov, hB⟩
  case walk =>
    refine wpStill_skip rfl ?_
    refine wpStill_go (v := .slice A 16 ca) rfl rfl (stays_run fun w' h => ex_move rfl rfl) ?_
    simp only [Act.put, List.setIfInBounds_toArray, List.set_cons_succ, List.set_cons_zero]
    refine wpStill_skip rfl (wpStill_skip rfl (wpStill_skip rfl (wpStill_skip rfl (wpStill_nil ?_))))
    refine wpTree_two (i := 0) (j := 2) (by kernel_rfl) rfl rfl rfl rfl (fun m1 hm1 K hK => ?_) (fun m1 hm1 K hK => ?_)
    · have F1 := (Below.refl W.heap.size W).drew.trans hm1
      go_wp2_with fail
      have F2 := F1.alloc F1.size (.cells Z.toArray 3)
      refine hK _ _ (fun _ => F2) ?_
      clear hK
      have rG := Row.new m1 3 Z
      rw [Hz2.out] at rG F2 ⊢
      have hGW : W.heap.size ≤ m1.heap.size := F1.size
      obtain ⟨G, hG⟩ : ∃ G, m1.heap.size = G := ⟨_, rfl⟩
      obtain ⟨V1, hV1⟩ : ∃ V1, m1.alloc (.cells (zeros16.map (Value.int .i64)).toArray 3) = V1 := ⟨_, rfl⟩
      rw [hV1] at rG F2 ⊢
      rw [hG] at rG hGW ⊢
      clear hG hV1 F1 hm1
      refine wpTree_one (i := 2) (by kernel_rfl) rfl rfl (fun m2 hm2 K hK => ?_)
      have F3 := F2.trans (hm2.mono F2.size)
      go_wp2_with fail
      refine (clone_any A 16 ca s _ Hl.out (by omega) (by omega) (hr1.ext F3)).mono ?_
      rintro e m3 ⟨v, rfl, ov, bv⟩
      have F := F3.trans (bv.mono F3.size)
      go_wp2_with fail
      refine hK _ _ (fun _ => F) ?_
      clear hK
      have rG := (rG.kept hm2).kept bv
      have rH := e0.kept F
      have hov := F3.size
      have ov := ov.mono hov
      obtain ⟨Av, cv, rfl⟩ := own_form ov
      clear F2 F3 hm2 bv
      have b3H := rH.two
      obtain ⟨q0, q1, q2, q3⟩ := b3H
      refine wpTree_one (i := 3) (by kernel_rfl) rfl rfl (fun m4 hm4 K hK => ?_)
      go_wp2_with fail
      have F4 := F.trans (hm4.mono F.size)
      refine hK _ _ (fun _ => F4) ?_
      clear hK
      have rG := rG.kept hm4
      have rH := rH.kept hm4
      have ov := own_ext ov hm4
      refine wpTree_one (i := 4) (by kernel_rfl) rfl rfl (fun m5 hm5 K hK => ?_)
      have rG := rG.kept hm5
      have rH := rH.kept hm5
      have ov := own_ext ov hm5
      have F5 := F4.trans (hm5.mono F4.size)
      obtain ⟨q0, q1, q2, q3⟩ := rH.two
      have hHG : G ≠ w.heap.size := by omega
      have ovS := own_over (own_over ov (grown_set m5 w.heap.size 0 (.slice (some ⟨G, 0, none⟩) 16 16)) (fun j hj e => by have := (own_lt ov hj).1; injection e with e; omega)) (grown_set _ w.heap.size 1 (.slice Av 16 cv)) (fun j hj e => by have := (own_lt ov hj).1; injection e with e; omega)
      have rGS := (rG.far (p := ⟨w.heap.size, 0, none⟩) hHG (.slice (some ⟨G, 0, none⟩) 16 16)).far (p := ⟨w.heap.size, 1, none⟩) hHG (.slice Av 16 cv)
      have rHS := (rH.set_ 0 (.slice (some ⟨G, 0, none⟩) 16 16)).set_ 1 (.slice Av 16 cv)
      simp only [List.set_cons_zero, List.set_cons_succ] at rHS
      have BS := ((b0.trans (F5.mono b0.size)).setCell (p := ⟨w.heap.size, 0, none⟩) (Nat.le_refl _) (.slice (some ⟨G, 0, none⟩) 16 16)).setCell (p := ⟨w.heap.size, 1, none⟩) (Nat.le_refl _) (.slice Av 16 cv)
      have RG := Lib.hid rGS
      have RH := Lib.hid rHS
      have OV := Lib.hid ovS
      have HB := Lib.hid BS
      clear rGS rHS ovS BS rG rH ov F4 F5 F
      go_wp2_with fail
      refine hK _ _ (fun h => absurd h (by decide)) ?_
      clear hK
      refine wpTree_one (i := 5) (by kernel_rfl) rfl rfl (fun m6 hm6 K hK => ?_)
      go_wp2_with fail
      refine hK _ _ (fun h => absurd h (by decide)) (wpTree_nil (by kernel_rfl) fun m7 hm7 => ?_)
      have hx : Ext _ m7 := hm6.trans hm7
      have bb := HB.out
      exact ⟨G, _, rfl, by omega, RG.out.kept hx, (own_ext OV.out hx).mono (by omega), RH.out.kept hx, bb.trans (hx.mono bb.size)⟩
    · have F1 := (Below.refl W.heap.size W).drew.trans hm1
      go_wp2_with fail
      refine (clone_any A 16 ca s _ Hl.out (by omega) (by omega) (hr1.ext F1)).mono ?_
      rintro e m2 ⟨v, rfl, ov, bv⟩
      have F2 := F1.trans (bv.mono F1.size)
      go_wp2_with fail
      refine hK _ _ (fun _ => F2) ?_
      clear hK
      have hov := F1.size
      have ov := ov.mono hov
      obtain ⟨Av, cv, rfl⟩ := own_form ov
      clear F1 hm1 bv
      refine wpTree_one (i := 0) (by kernel_rfl) rfl rfl (fun m3 hm3 K hK => ?_)
      have F3 := F2.trans (hm3.mono F2.size)
      have ov := own_ext ov hm3
      go_wp2_with fail
      have F := F3.alloc F3.size (.cells Z.toArray 3)
      refine hK _ _ (fun _ => F) ?_
      clear hK
      have rG := Row.new m3 3 Z
      rw [Hz2.out] at rG F ⊢
      have hGW : W.heap.size ≤ m3.heap.size := F3.size
      have ov := own_ext ov (bA1 (w := m3) (o := .cells (zeros16.map (Value.int .i64)).toArray 3))
      have rH := e0.kept F
      obtain ⟨G, hG⟩ : ∃ G, m3.heap.size = G := ⟨_, rfl⟩
      obtain ⟨V1, hV1⟩ : ∃ V1, m3.alloc (.cells (zeros16.map (Value.int .i64)).toArray 3) = V1 := ⟨_, rfl⟩
      rw [hV1] at rG F ov rH ⊢
      rw [hG] at rG hGW ⊢
      clear hG hV1 F2 F3 hm3
      have b3H := rH.two
      obtain ⟨q0, q1, q2, q3⟩ := b3H
      refine wpTree_one (i := 3) (by kernel_rfl) rfl rfl (fun m4 hm4 K hK => ?_)
      go_wp2_with fail
      have F4 := F.trans (hm4.mono F.size)
      refine hK _ _ (fun _ => F4) ?_
      clear hK
      have rG := rG.kept hm4
      have rH := rH.kept hm4
      have ov := own_ext ov hm4
      refine wpTree_one (i := 4) (by kernel_rfl) rfl rfl (fun m5 hm5 K hK => ?_)
      have rG := rG.kept hm5
      have rH := rH.kept hm5
      have ov := own_ext ov hm5
      have F5 := F4.trans (hm5.mono F4.size)
      obtain ⟨q0, q1, q2, q3⟩ := rH.two
      have hHG : G ≠ w.heap.size := by omega
      have ovS := own_over (own_over ov (grown_set m5 w.heap.size 0 (.slice (some ⟨G, 0, none⟩) 16 16)) (fun j hj e => by have := (own_lt ov hj).1; injection e with e; omega)) (grown_set _ w.heap.size 1 (.slice Av 16 cv)) (fun j hj e => by have := (own_lt ov hj).1; injection e with e; omega)
      have rGS := (rG.far (p := ⟨w.heap.size, 0, none⟩) hHG (.slice (some ⟨G, 0, none⟩) 16 16)).far (p := ⟨w.heap.size, 1, none⟩) hHG (.slice Av 16 cv)
      have rHS := (rH.set_ 0 (.slice (some ⟨G, 0, none⟩) 16 16)).set_ 1 (.slice Av 16 cv)
      simp only [List.set_cons_zero, List.set_cons_succ] at rHS
      have BS := ((b0.trans (F5.mono b0.size)).setCell (p := ⟨w.heap.size, 0, none⟩) (Nat.le_refl _) (.slice (some ⟨G, 0, none⟩) 16 16)).setCell (p := ⟨w.heap.size, 1, none⟩) (Nat.le_refl _) (.slice Av 16 cv)
      have RG := Lib.hid rGS
      have RH := Lib.hid rHS
      have OV := Lib.hid ovS
      have HB := Lib.hid BS
      clear rGS rHS ovS BS rG rH ov F4 F5 F
      go_wp2_with fail
      refine hK _ _ (fun h => absurd h (by decide)) ?_
      clear hK
      refine wpTree_one (i := 5) (by kernel_rfl) rfl rfl (fun m6 hm6 K hK => ?_)
      go_wp2_with fail
      refine hK _ _ (fun h => absurd h (by decide)) (wpTree_nil (by kernel_rfl) fun m7 hm7 => ?_)
      have hx : Ext _ m7 := hm6.trans hm7
      have bb := HB.out
      exact ⟨G, _, rfl, by omega, RG.out.kept hx, (own_ext OV.out hx).mono (by omega), RH.out.kept hx, bb.trans (hx.mono bb.size)⟩
end Go.Proofs.YtipgpafgampfbaaGreatDoor

namespace Go.Proofs.YtipgpafgampfbaaGreatDoor
open Go

abbrev Word : Type := List UInt8
abbrev St : Type := List (Int × Int) × List Int
def wAnt : Word := [97, 110, 116]
def wCell : Word := [99, 101, 108, 108]
def wBases : Word := [98, 97, 115, 101, 115]
def wCover : Word := [99, 111, 118, 101, 114]
def wBeam : Word := [98, 101, 97, 109]
def wPoint : Word := [112, 111, 105, 110, 116]
def wDirty : Word := [100, 105, 114, 116, 121]
def wClean : Word := [99, 108, 101, 97, 110]
def oOk : Word := [111, 107, 10]
def oNo : Word := [110, 111, 10]
def oWhat : Word := [119, 104, 97, 116, 10]
def oLong : Word := [116, 111, 111, 32, 108, 111, 110, 103, 10]
def oPhases : Word := [112, 104, 97, 115, 101, 115]
def oSteps : Word := [115, 116, 101, 112, 115, 32]
def oAnts : Word := [97, 110, 116, 101, 110, 110, 97, 115, 32]
def endB (n : Nat) : List UInt8 := oAnts ++ (Lib.itoa n ++ [10])

def addOk (xs : List (Int × Int)) (a : Int × Int) : Bool := antOk a && (!decide (xs.length = 7) && !decide (a ∈ xs))
def cellOk (x y n : Int) : Bool := inR x 0 3 && (inR y 0 3 && inR n (-100000) 100000)
def basesB (xs : List (Int × Int)) : List UInt8 := (wBases ++ [32]) ++ (Lib.itoa (bm xs.length) ++ ([32] ++ (Lib.itoa (redM xs) ++ [10])))
def phasesB (ps : List Int) : List UInt8 := oPhases ++ (ps.flatMap (fun p => 32 :: Lib.itoa p) ++ [10])
def pointB (xs : List (Int × Int)) (x y : Int) : List UInt8 := if ptV xs (x, y) 1 then phasesB ((ptL xs (x, y) 1 (pairsN xs.length)).map (·.2)) else oNo
def dirtyB (s : St) : List UInt8 := match dirtyR s.2 (covL s.1) with
  | none => oNo
  | some d => skyStr d
def cleanB (s : St) (m : Int) : List UInt8 := match dirtyR s.2 (covL s.1) with
  | none => oNo
  | some d => if inR m 0 200 then
      skyStr (cleanIter (beamL (covL s.1)) m.toNat (zeros16, d)).1.1 ++ (oSteps ++ (Lib.itoa ((cleanIter (beamL (covL s.1)) m.toNat (zeros16, d)).2 : Nat) ++ [10]))
    else oNo
/-- What a line that asks for something of the array returns. -/
def askB (s : St) (h : Word) (t : List Word) : List UInt8 :=
  if h = wBases then basesB s.1 else if h = wCover then covText (covL s.1) else if h = wBeam then skyStr (beamL (covL s.1)) else if h = wDirty then dirtyB s
  else if h = wPoint then pointB s.1 (num7 (t.getD 0 [])) (num7 (t.getD 1 [])) else cleanB s (num7 (t.getD 0 []))
/-- How many words each line has behind its first. -/
def wantL (h : Word) : Option Nat :=
  if h = wAnt then some 2 else if h = wCell then some 3 else if h = wBases then some 0 else if h = wCover then some 0 else if h = wBeam then some 0 else if h = wPoint then some 2
  else if h = wDirty then some 0 else if h = wClean then some 1 else none
def antR (s : St) (a : Int × Int) : St × List UInt8 := if addOk s.1 a then ((s.1 ++ [a], s.2), oOk) else (s, oNo)
def cellR (s : St) (x y n : Int) : St × List UInt8 := if cellOk x y n then ((s.1, s.2.set (4 * y + x).toNat n), oOk) else (s, oNo)
/-- A line of words. -/
def lineR (s : St) (h : Word) (t : List Word) : St × List UInt8 :=
  if wantL h = some t.length then
    if h = wAnt then antR s (num7 (t.getD 0 []), num7 (t.getD 1 []))
    else if h = wCell then cellR s (num7 (t.getD 0 [])) (num7 (t.getD 1 [])) (num7 (t.getD 2 []))
    else (s, if arrV s.1 then askB s h t else oNo)
  else (s, oWhat)
def lineW (s : St) (ws : List Word) : St × List UInt8 := lineR s (ws.headD []) ws.tail
/-- Lines, one by one. -/
def runL : St × List UInt8 → List Word → St × List UInt8
  | r, [] => r
  | r, l :: t => runL ((lineW r.1 (cut 32 l)).1, r.2 ++ (lineW r.1 (cut 32 l)).2) t
theorem runL_app (r : St × List UInt8) (a b : List Word) : runL r (a ++ b) = runL (runL r a) b := by
  induction a generalizing r with
  | nil => rfl
  | cons x t ih => exact ih _
theorem runL_snoc (r : St × List UInt8) (a : List Word) (l : Word) : runL r (a ++ [l]) = ((lineW (runL r a).1 (cut 32 l)).1, (runL r a).2 ++ (lineW (runL r a).1 (cut 32 l)).2) := by
  rw [runL_app]; rfl
theorem runL_out (s : St) (o : List UInt8) (ls : List Word) : runL (s, o) ls = ((runL (s, []) ls).1, o ++ (runL (s, []) ls).2) := by
  induction ls generalizing s o with
  | nil => simp [runL]
  | cons l t ih =>
    simp only [runL]
    rw [ih, ih _ ([] ++ _)]
    simp
def st0 : St := ([], zeros16)
def runB (l : List UInt8) : List UInt8 := (runL (st0, []) (cut 10 l).dropLast).2 ++ endB (runL (st0, []) (cut 10 l).dropLast).1.1.length
/-- What a script returns. -/
def exeB (l : List UInt8) : List UInt8 := if 500 < l.length then oLong else runB l

/-! ### What holds of the state -/
structure StOk (s : St) : Prop where
  len : s.1.length ≤ 7
  ants : ∀ a ∈ s.1, antOk a = true
  sky : skyV s.2 = true
theorem st0_ok : StOk st0 := ⟨by decide, by simp [st0], by decide⟩
theorem set_skyV {s : List Int} {k : Nat} {n : Int} (h : skyV s = true) (hn : inR n (-100000) 100000 = true) : skyV (s.set k n) = true := by
  obtain ⟨h1, h2⟩ := skyV_iff.1 h
  refine skyV_iff.2 ⟨by rw [List.length_set]; exact h1, fun x hx => ?_⟩
  rcases List.mem_or_eq_of_mem_set hx with hx | rfl
  · exact h2 x hx
  · exact inR_iff.1 hn
theorem antR_ok {s : St} (h : StOk s) (a : Int × Int) : StOk (antR s a).1 := by
  unfold antR
  split
  · rename_i ha
    unfold addOk at ha
    rw [Bool.and_eq_true, Bool.and_eq_true] at ha
    have hl := h.len
    refine ⟨?_, fun x hx => ?_, h.sky⟩
    · have : ¬ s.1.length = 7 := by simpa using ha.2.1
      simp; omega
    · rcases List.mem_append.1 hx with hx | hx
      · exact h.ants x hx
      · obtain rfl : x = a := by simpa using hx
        exact ha.1
  · exact h
theorem cellR_ok {s : St} (h : StOk s) (x y n : Int) : StOk (cellR s x y n).1 := by
  unfold cellR
  split
  · rename_i ha
    unfold cellOk at ha
    rw [Bool.and_eq_true, Bool.and_eq_true] at ha
    exact ⟨h.len, h.ants, set_skyV h.sky ha.2.2⟩
  · exact h
theorem lineR_ok {s : St} (hs : StOk s) (h : Word) (t : List Word) : StOk (lineR s h t).1 := by
  unfold lineR
  split
  · split
    · exact antR_ok hs _
    · split
      · exact cellR_ok hs _ _ _
      · exact hs
  · exact hs
theorem runL_ok {r : St × List UInt8} (hs : StOk r.1) (ls : List Word) : StOk (runL r ls).1 := by
  induction ls generalizing r with
  | nil => exact hs
  | cons l t ih => exact ih (lineR_ok hs _ _)

/-! ### How long an output is, and how it ends -/
theorem endsNl_app {a b : List UInt8} (h : b.getLast? = some 10) : (a ++ b).getLast? = some 10 := by
  rw [List.getLast?_append, h]; rfl
theorem itoa_small {n : Int} (h : -9223372036854775808 ≤ n ∧ n ≤ 9223372036854775807) : (Lib.itoa n).length ≤ 21 := Lib.itoa_length_le n h.1 h.2
theorem skyStr_small (s : List Int) : (skyStr s).length ≤ 352 := by
  cases h : skyV s
  · simp [skyStr_no h]
  · rw [skyStr_yes h]
    have := skyB_len (s := s) (fun x hx => by have := (skyV_iff.1 h).2 x hx; omega) 16
    omega
theorem skyStr_ends {s : List Int} (h : skyV s = true) : (skyStr s).getLast? = some 10 := by
  rw [skyStr_yes h, skyB_succ]
  refine endsNl_app (endsNl_app ?_)
  rfl
theorem dirtyR_some {s : List Int} {c : List Bool} {d : List Int} (h : dirtyR s c = some d) : skyV d = true ∧ d = dirtyL s c := by
  unfold dirtyR at h
  split at h
  · rename_i hc
    cases h
    exact ⟨hc.2, rfl⟩
  · cases h
end Go.Proofs.YtipgpafgampfbaaGreatDoor

namespace Go.Proofs.YtipgpafgampfbaaGreatDoor
open Go.RowKit

/-- The library's two errors hold values of interfaces. -/
def Errs (w : World) : Prop := (∃ tp p, w.var? Tryz.prog "strconv.ErrRange" = some #[.iface tp p]) ∧ ∃ tp p, w.var? Tryz.prog "strconv.ErrSyntax" = some #[.iface tp p]
theorem Errs.ext {w w' : World} (h : Errs w) (hb : Below w.heap.size w w') : Errs w' :=
  ⟨h.1.imp fun _ h => h.imp fun _ h => var_ext h hb, h.2.imp fun _ h => h.imp fun _ h => var_ext h hb⟩

/-- Split at one byte. -/
theorem split_any (s : ByteArray) (c : UInt8) (w : World) (hs : s.size ≤ 1048576) (hsh : w.ShapedOpen Tryz.prog) :
    Calls Tryz.prog 52 #[.string s, .string ⟨#[c]⟩] w fun e w' => ∃ (l : List ByteArray), e = .returned (.slice (some ⟨w.heap.size, 0, none⟩) l.length l.length) ∧ l.map (·.data.toList) = cut c s.data.toList ∧
      Row w' w.heap.size 9 (l.map Value.string) ∧ Below w.heap.size w w' :=
  (Any.strings_Split_shaped Tryz.laysMn146 s ⟨#[c]⟩ w hsh (by omega) (Nat.le_refl 1)).mono fun _ _ ⟨he, hw⟩ => by
    have hc := split_cut c s
    have hl : (Lib.splitB ⟨#[c]⟩ 0 (Lib.countB s ⟨#[c]⟩) s).length = Lib.countB s ⟨#[c]⟩ + 1 := by
      rw [← List.length_map (f := fun (x : ByteArray) => x.data.toList), hc, cut_len]
      show _ = Lib.count s.data.toList [c] + 1
      rw [Lib.count_one]
    exact ⟨_, by rw [hl]; exact he, hc, by subst hw; exact Row.new _ _ _, by subst hw; exact bA1⟩
end Go.Proofs.YtipgpafgampfbaaGreatDoor

namespace Go.Proofs.YtipgpafgampfbaaGreatDoor
open Go.RowKit

end Go.Proofs.YtipgpafgampfbaaGreatDoor

namespace Go.Proofs.YtipgpafgampfbaaGreatDoor
open Go.RowKit

theorem l91Has_any (A : Option Addr) (n cap : Nat) (xs : List (Int × Int)) (a : Int × Int) (w : World) (hn : xs.length = n) (hb : n ≤ 1048576) (hr : Rd w w.heap.size A (xs.flatMap pairCells)) :
    Calls Tryz.prog 87 #[.slice A n cap, .agg #[.int .i64 a.1, .int .i64 a.2]] w fun e w' => e = .returned (.bool (decide (a ∈ xs))) ∧ Below w.heap.size w w' := by
  have r0 := Row.new w 50 [.int .i64 a.1, .int .i64 a.2]
  have Hn := Lib.hid hn; clear hn
  go_enter Tryz.func87, Tryz.ntmps87
  go_wp2_with fail
  go_loopw [5] (fun i wr => ∃ k : Nat, k ≤ n ∧ i = .int .i64 k ∧ a ∉ xs.take k ∧ Row wr w.heap.size 50 [.int .i64 a.1, .int .i64 a.2] ∧ Below w.heap.size w wr) (fun i _ => n - (intOf i).toNat)
  case atStart => exact ⟨0, by omega, rfl, by simp, r0, bA1⟩
  case round =>
    clear r0
    obtain ⟨k, hk, rfl, hni, r0, hbel⟩ := hrel
    obtain ⟨c0, c1, _, _⟩ := r0.two
    have hr' := hr.below hbel
    by_cases hlt : k < n
    · have hts := take_succ_getD (l := xs) (d := (0, 0)) (k := k) (by rw [Hn.out]; exact hlt)
      have hmem : xs.getD k (0, 0) ∈ xs := getD_mem (by rw [Hn.out]; exact hlt)
      obtain ⟨b, off, rfl, hb2, hc1, hc1'⟩ := rd_pair hr' (getD_of (gs := xs) (k := k) (by rw [Hn.out]; exact hlt))
      generalize xs.getD k (0, 0) = x at *
      have Hbel := Lib.hid hbel; clear hbel
      have R0 := Lib.hid r0; clear r0
      have Hts := Lib.hid hts; clear hts
      have Hni := Lib.hid hni; clear hni
      have Hmem := Lib.hid hmem; clear hmem
      by_cases hxa : x = a
      · subst hxa
        go_wp2_with fail
        go_quiet (fail)
        go_wp2_with fail
        go_ret
        exact ⟨by rw [decide_eq_true Hmem.out]; rfl, below_drewN Hbel.out _⟩
      · have Hxa := Lib.hid hxa
        rcases pair_bne hxa with h1 | ⟨h1, h2⟩
        · clear hxa
          go_wp2_with fail
          go_quiet (fail)
          go_wp2_with fail
          go_roundw
          case measure => simp [intOf]; omega
          case rel =>
            refine ⟨k + 1, by omega, by go_num, ?_, R0.out.drewN _, below_drewN Hbel.out _⟩
            rw [Hts.out]
            simp only [List.mem_append, List.mem_singleton, not_or]
            exact ⟨Hni.out, fun e => Hxa.out e.symm⟩
        · clear hxa
          go_wp2_with fail
          go_quiet (fail)
          go_wp2_with fail
          go_roundw
          case measure => simp [intOf]; omega
          case rel =>
            refine ⟨k + 1, by omega, by go_num, ?_, R0.out.drewN _, below_drewN Hbel.out _⟩
            rw [Hts.out]
            simp only [List.mem_append, List.mem_singleton, not_or]
            exact ⟨Hni.out, fun e => Hxa.out e.symm⟩
    · obtain rfl : k = n := by omega
      rw [List.take_of_length_le (by rw [Hn.out]; exact Nat.le_refl _)] at hni
      have Hni := Lib.hid hni; clear hni
      have Hbel := Lib.hid hbel; clear hbel
      go_wp2_with fail
      go_ret
      exact ⟨by rw [decide_eq_false Hni.out]; rfl, Hbel.out⟩

theorem below_grown {w w' : World} (h : Below w.heap.size w w') (R : Nat) : w.grownBy w' (some R) := ⟨h.os, h.tape, h.output, h.size, fun k hk _ => h.block k hk⟩
theorem own_cap {w : World} {base : Nat} {T : TypeId} {size n c : Nat} {A : Option Addr} {xs : List Value} (h : w.ownsRow base T size (.slice A n c) n xs) : n ≤ c := by
  rcases h.2 with ⟨h1, h2⟩ | ⟨g, cap, _, h1, _, _, hle, _⟩
  · injection h1 with _ h3 h4; omega
  · injection h1 with _ _ h4; omega
theorem frozen_set (w : World) (b i j : Nat) {v : Value} : (w.setCell ⟨b, i, none⟩ v).frozen? ⟨b, j, none⟩ = w.frozen? ⟨b, j, none⟩ := by
  simp [go_sem]
theorem pairs_set0 {xs : List (Int × Int)} {y : Int × Int} (h : xs[0]? = some y) {x : Int} : (xs.set 0 (x, y.2)).flatMap pairCells = (xs.flatMap pairCells).set 0 (.int .i64 x) := by
  cases xs with
  | nil => simp at h
  | cons z r => simp at h; subst h; simp [pairCells]
theorem rd_take {w : World} {B : Nat} {A : Option Addr} {xs : List (Int × Int)} (h : Rd w B A (xs.flatMap pairCells)) (k : Nat) : Rd w B A ((xs.take k).flatMap pairCells) := fun i u hu => by
  refine h i u ?_
  rw [← List.take_append_drop k xs, List.flatMap_append, List.getElem?_append_left]
  · exact hu
  · rcases Nat.lt_or_ge i ((xs.take k).flatMap pairCells).length with h | h
    · exact h
    · rw [List.getElem?_eq_none h] at hu; cases hu
theorem antInfo : (Tryz.prog.info? 50).map (fun i => (i.zero, i.size, i.bytes)) = some (some (.agg #[.int .i64 0, .int .i64 0]), 2, 16) := by kernel_rfl
end Go.Proofs.YtipgpafgampfbaaGreatDoor

namespace Go.Proofs.YtipgpafgampfbaaGreatDoor
open Go.RowKit

set_option maxRecDepth 100000 in
set_option maxHeartbeats 1000000 in
theorem trackScale_no (A : Option Addr) (n cap : Nat) (xs : List (Int × Int)) (w : World) (hn : xs.length = n) (hk : n ≤ cap) (hb : n ≤ 1048576) (hv : arrV xs = false) (hr : Rd w w.heap.size A (xs.flatMap pairCells)) :
    Calls Tryz.prog 65 #[.slice A n cap, .int .i64 1] w fun e w' => e = .returned (.tuple #[.slice none 0 0, .bool false]) ∧ Below w.heap.size w w' := by
  have x0 := (Boxed.new w 26 (.slice A n cap)).alloc (.cells #[.int .i64 1] 3)
  have hr0 := hr.ext (bA2 (o := .cells #[.slice A n cap] 26) (o' := .cells #[.int .i64 1] 3))
  have y0 := x0.cell
  have b0 := bA2 (w := w) (o := .cells #[.slice A n cap] 26) (o' := .cells #[.int .i64 1] 3)
  have Hn := Lib.hid hn; clear hn
  have Hv := Lib.hid hv; clear hv
  go_enter Tryz.func65, Tryz.ntmps65
  go_wp2_with fail
  refine (arrayValid_any A n cap xs _ Hn.out hk hb hr0).mono ?_
  rintro e w1 ⟨rfl, b1⟩
  rw [Hv.out]
  go_wp2_with fail
  go_ret2
  exact ⟨rfl, b0.trans (b1.mono b0.size)⟩
theorem coverOf_no (A : Option Addr) (n cap : Nat) (xs : List (Int × Int)) (w : World) (hn : xs.length = n) (hk : n ≤ cap) (hb : n ≤ 1048576) (hv : arrV xs = false) (hr : Rd w w.heap.size A (xs.flatMap pairCells)) :
    Calls Tryz.prog 28 #[.slice A n cap] w fun e w' => e = .returned (.tuple #[.slice none 0 0, .bool false]) ∧ Below w.heap.size w w' := by
  have hc := trackScale_no A n cap xs w hn hk hb hv hr
  clear hn hv
  go_enter Tryz.func28, Tryz.ntmps28
  go_wp2_with fail
  refine (hc).mono ?_
  rintro e w1 ⟨rfl, b1⟩
  go_wp2_with fail
  go_ret2
  exact ⟨rfl, b1⟩

/-! ### Numbers -/
theorem trimP_any (s : ByteArray) (w : World) : Calls Tryz.prog 129 #[.string s, .string ⟨#[45]⟩] w fun e w' => e = .returned (.string ⟨(Lib.trimPrefix s.data.toList [45]).toArray⟩) ∧ w = w' :=
  (Any.strings_TrimPrefix Tryz.laysn101 s ⟨#[45]⟩ w).mono fun _ _ ⟨he, hw⟩ => ⟨he, hw.symm⟩
theorem trim_minus (r : List UInt8) : Lib.trimPrefix (45 :: r) [45] = r := by simp [Lib.trimPrefix, Lib.hasPrefix]
theorem trim_other {l : List UInt8} (h : ∀ r, l ≠ 45 :: r) : Lib.trimPrefix l [45] = l := by
  unfold Lib.trimPrefix
  rw [if_neg]
  cases l with
  | nil => simp [Lib.hasPrefix]
  | cons b r =>
    have : b ≠ 45 := fun e => h r (by rw [e])
    simp [Lib.hasPrefix, Ne.symm this]
theorem num_short {l : List UInt8} (h : ¬ (1 ≤ (Lib.trimPrefix l [45]).length ∧ (Lib.trimPrefix l [45]).length ≤ 7)) : num7 l = 99999999 := by
  by_cases hm : ∃ r, l = 45 :: r
  · obtain ⟨r, rfl⟩ := hm
    rw [trim_minus] at h
    exact num7_neg_no h
  · have hm : ∀ r, l ≠ 45 :: r := fun r e => hm ⟨r, e⟩
    rw [trim_other hm] at h
    cases l with
    | nil => rfl
    | cons b r =>
      have hb : b ≠ 45 := fun e => hm r (by rw [e])
      exact num7_pos_no hb (by simp at h ⊢; omega)
theorem num_dec {l : List UInt8} (h : 1 ≤ (Lib.trimPrefix l [45]).length ∧ (Lib.trimPrefix l [45]).length ≤ 7) :
    match Lib.decFrom 0 (Lib.trimPrefix l [45]) with
    | none => num7 l = 99999999
    | some _ => numOf l = some (num7 l) := by
  by_cases hm : ∃ r, l = 45 :: r
  · obtain ⟨r, rfl⟩ := hm
    rw [trim_minus] at h ⊢
    have h0 : r.isEmpty = false := by cases r with | nil => simp at h | cons _ _ => rfl
    unfold num7 numOf
    simp only [if_true, h0, Bool.false_or, decide_eq_true_eq]
    rw [if_neg (by omega)]
    cases Lib.decFrom 0 r <;> simp
  · have hm : ∀ r, l ≠ 45 :: r := fun r e => hm ⟨r, e⟩
    rw [trim_other hm] at h ⊢
    cases l with
    | nil => simp at h
    | cons b r =>
      have hb : b ≠ 45 := fun e => hm r (by rw [e])
      unfold num7 numOf
      simp only [if_neg hb, decide_eq_true_eq]
      rw [if_neg (by omega)]
      cases Lib.decFrom 0 (b :: r) <;> simp
theorem atoi_num (l : List UInt8) (n : Int) (w : World) (h : numOf l = some n) :
    Calls Tryz.prog 130 #[.string ⟨l.toArray⟩] w fun e w' => e = .returned (.tuple #[.int .i64 n, .nilIface]) ∧ Below w.heap.size w w' := by
  obtain ⟨ha, hl⟩ := atoi_of_num h
  have hc : Lib.atoiAll (ByteArray.mk l.toArray).data.toList = .ok n := by
    show Lib.atoiAll l = .ok n
    rw [Lib.atoiAll_short _ (by omega), ha]; rfl
  refine (Any.strconv_Atoi_ok Tryz.laysCn172 ⟨l.toArray⟩ (show l.length ≤ _ by omega) n hc w).mono fun e w' ⟨he, hw⟩ => ⟨he, ?_⟩
  rcases hw with rfl | ⟨t, rfl⟩
  · exact Below.refl _ _
  · exact Lib.bytesWorld_below _ _ _

set_option maxRecDepth 100000 in
set_option maxHeartbeats 1000000 in
theorem scriptNumber_any (l : List UInt8) (w : World) :
    Calls Tryz.prog 90 #[.string ⟨l.toArray⟩] w fun e w' => e = .returned (.int .i64 (num7 l)) ∧ Below w.heap.size w w' := by
  have hsh := num_short (l := l)
  have hdc := num_dec (l := l)
  have htp := trimP_any ⟨l.toArray⟩ w
  rw [show (ByteArray.mk l.toArray).data.toList = l from rfl] at htp
  generalize Lib.trimPrefix l [45] = d at hsh hdc htp
  have hsd : (ByteArray.mk d.toArray).size = d.length := rfl
  by_cases h : 1 ≤ d.length ∧ d.length ≤ 7
  · have hdc := hdc h
    clear hsh
    have g1 : ¬ ((d.length : Int) < 1) := by omega
    have g2 : ¬ ((7 : Int) < (d.length : Int)) := by omega
    have Hdc := Lib.hid hdc; clear hdc
    go_enter Tryz.func90, Tryz.ntmps90
    go_wp2_with fail
    refine (htp).mono ?_
    rintro e w1 ⟨rfl, rfl⟩
    go_wp2_with fail
    go_loop [19] (fun i => ∃ (k m : Nat), k ≤ d.length ∧ i = .int .i64 k ∧ Lib.decFrom 0 (d.take k) = some m) (fun i => d.length - (intOf i).toNat)
    case atStart => exact ⟨0, 0, by omega, rfl, rfl⟩
    case round =>
      obtain ⟨k, m, hk, rfl, hm⟩ := hrel
      by_cases hlt : k < d.length
      · have hb : d[k]? = some d[k] := List.getElem?_eq_getElem hlt
        generalize d[k] = b at hb
        have hg := str_get d k b hb
        have hstep := fun x hx => Lib.decFrom_take d k 0 m b x hm hb hx
        by_cases hdig : 48 ≤ b.toNat ∧ b.toNat ≤ 57
        · have hd : Lib.digitVal b = some (b.toNat - 48) := by unfold Lib.digitVal; rw [if_pos hdig]
          have hs2 := hstep _ hd
          have e1 : ¬ ((b.toNat : Int) < 48) := by omega
          have e2 : ¬ ((57 : Int) < (b.toNat : Int)) := by omega
          have Hm := Lib.hid hm; clear hm
          have Hb := Lib.hid hb; clear hb
          have Hs2 := Lib.hid hs2; clear hs2
          have Hd := Lib.hid hd; clear hd
          clear hstep
          go_wp2_with fail
          go_round
          case measure => simp [intOf]; omega
          case rel => exact ⟨k + 1, _, by omega, by go_num, Hs2.out⟩
        · have hno : Lib.decFrom 0 d = none := by
            cases hd : Lib.decFrom 0 d with
            | none => rfl
            | some v =>
              obtain ⟨x, hd2⟩ := Lib.digit_of_decFrom d 0 v hd k b hb
              unfold Lib.digitVal at hd2
              rw [if_neg hdig] at hd2
              cases hd2
          have hn := Hdc.out
          rw [hno] at hn
          have hn2 : num7 l = 99999999 := hn
          clear hstep hn
          have hc : (b.toNat : Int) < 48 ∨ (¬ (b.toNat : Int) < 48 ∧ (57 : Int) < b.toNat) := by omega
          have Hm := Lib.hid hm; clear hm
          have Hb := Lib.hid hb; clear hb
          have Hno := Lib.hid hno; clear hno
          have Hn2 := Lib.hid hn2; clear hn2
          have Hc := Lib.hid hc; clear hc
          clear hdig
          rcases Hc.out with p1 | ⟨p1, p2⟩
          all_goals
            go_wp2_with fail
            go_ret
            exact ⟨by rw [Hn2.out]; rfl, Below.refl _ _⟩
      · obtain rfl : k = d.length := by omega
        rw [List.take_length] at hm
        have hn := Hdc.out
        rw [hm] at hn
        have hn2 : numOf l = some (num7 l) := hn
        have hat := atoi_num l _ w hn2
        clear hn hn2 hm
        go_wp2_with fail
        refine (hat).mono ?_
        rintro e w2 ⟨rfl, b2⟩
        go_wp2_with fail
        go_ret
        exact ⟨rfl, b2⟩
  · have hsh := hsh h
    clear hdc
    have hc : (d.length : Int) < 1 ∨ (¬ (d.length : Int) < 1 ∧ (7 : Int) < d.length) := by omega
    have Hsh := Lib.hid hsh; clear hsh
    have Hc := Lib.hid hc; clear hc
    clear h
    go_enter Tryz.func90, Tryz.ntmps90
    go_wp2_with fail
    refine (htp).mono ?_
    rintro e w1 ⟨rfl, rfl⟩
    rcases Hc.out with p1 | ⟨p1, p2⟩
    all_goals
      go_wp2_with fail
      go_ret
      exact ⟨by rw [Hsh.out]; rfl, Below.refl _ _⟩
end Go.Proofs.YtipgpafgampfbaaGreatDoor

namespace Go.Proofs.YtipgpafgampfbaaGreatDoor
open Go.RowKit

theorem phases_part (ps : List Int) (k : Nat) (x : Int) (h : ps[k]? = some x) : oPhases ++ (ps.take (k + 1)).flatMap (fun p => 32 :: Lib.itoa p) = (oPhases ++ (ps.take k).flatMap (fun p => 32 :: Lib.itoa p)) ++ ([32] ++ Lib.itoa x) := by
  rw [List.take_add_one, h]; simp
theorem phases_len (ps : List Int) (h : ∀ x ∈ ps, -9223372036854775808 ≤ x ∧ x ≤ 9223372036854775807) : (ps.flatMap fun p => 32 :: Lib.itoa p).length ≤ 22 * ps.length := by
  induction ps with
  | nil => simp
  | cons a t ih =>
    have ih := ih fun x hx => h x (by simp [hx])
    have := itoa_small (h a (by simp))
    simp only [List.flatMap_cons, List.length_append, List.length_cons]; omega
set_option maxRecDepth 100000 in
set_option maxHeartbeats 1000000 in
theorem phasesText_any (A : Option Addr) (n cap : Nat) (ps : List Int) (w : World) (hn : ps.length = n) (hb : n ≤ 1000) (hp : ∀ x ∈ ps, 0 ≤ x ∧ x ≤ 1000000) (hr : Rd w w.heap.size A (ps.map (Value.int .i64))) (ht : Tab w) :
    Calls Tryz.prog 95 #[.slice A n cap] w fun e w' => e = .returned (.string ⟨(phasesB ps).toArray⟩) ∧ Below w.heap.size w w' := by
  have hlen := fun k => phases_len (ps.take k) fun x hx => by have := hp x (List.mem_of_mem_take hx); omega
  have Hn := Lib.hid hn; clear hn
  have Hp := Lib.hid hp; clear hp
  have Ht := Lib.hid ht; clear ht
  go_enter Tryz.func95, Tryz.ntmps95
  go_wp2_with fail
  go_loopw [3, 8] (fun o i wr => ∃ k : Nat, k ≤ n ∧ i = .int .i64 k ∧ o = .string ⟨(oPhases ++ (ps.take k).flatMap (fun p => 32 :: Lib.itoa p)).toArray⟩ ∧ Below w.heap.size w wr) (fun _ i _ => n - (intOf i).toNat)
  case atStart => exact ⟨0, by omega, rfl, rfl, Below.refl _ _⟩
  case round =>
    obtain ⟨k, hk, rfl, rfl, hbel⟩ := hrel
    have hr' := hr.below hbel
    have hl := hlen k
    rw [List.length_take] at hl
    obtain ⟨o, ho⟩ : ∃ o, oPhases ++ (ps.take k).flatMap (fun p => 32 :: Lib.itoa p) = o := ⟨_, rfl⟩
    have hol : o.length ≤ 6 + 22 * 1000 := by rw [← ho, List.length_append]; simp [oPhases] at *; omega
    have hs1 : ¬ 9223372036854775807 < o.length + 1 := by omega
    by_cases hlt : k < n
    · obtain ⟨x, hg⟩ : ∃ x, ps[k]? = some x := ⟨_, List.getElem?_eq_getElem (by rw [Hn.out]; exact hlt)⟩
      obtain ⟨b, off, rfl, hb, hc1⟩ := hr' k _ (by rw [List.getElem?_map, hg]; rfl)
      have hpt := phases_part ps k _ hg
      have hx := Hp.out x (List.mem_of_getElem? hg)
      have hit := itoa_small (n := x) (by omega)
      rw [ho] at hpt ⊢
      have hs2 : ¬ 9223372036854775807 < 1 + (Lib.itoa x).length := by omega
      have hs3 : ¬ 9223372036854775807 < o.length + (1 + (Lib.itoa x).length) := by omega
      have Hpt := Lib.hid hpt; clear hpt
      have Hg := Lib.hid hg; clear hg
      clear hl ho
      go_wp2_with fail
      refine (itoa_any x (by omega) _ (Ht.out.ext hbel)).mono ?_
      rintro e w1 ⟨rfl, b1⟩
      go_wp2_with fail
      go_roundw
      case measure => simp [intOf]; omega
      case rel =>
        refine ⟨k + 1, by omega, by go_num, ?_, hbel.trans (b1.mono hbel.size)⟩
        rw [Hpt.out, ← str_app o, ← str_app [32]]
    · obtain rfl : k = n := by omega
      have hall : phasesB ps = o ++ [10] := by rw [← ho, List.take_of_length_le (by rw [Hn.out]; exact Nat.le_refl _)]; simp [phasesB]
      rw [ho]
      have Hall := Lib.hid hall; clear hall
      clear hl ho
      go_wp2_with fail
      go_ret
      exact ⟨by rw [Hall.out, ← str_app]; rfl, hbel⟩

/-! ### Antennas -/
set_option maxRecDepth 100000 in
set_option maxHeartbeats 1000000 in
theorem addAnt_no (S : Nat) (A : Option Addr) (n cap : Nat) (xs : List (Int × Int)) (v : Value) (a : Int × Int) (w : World) (hn : xs.length = n) (hb : n ≤ 7) (hno : addOk xs a = false) (hS : Row w S 68 [.slice A n cap, v]) (hr : Rd w w.heap.size A (xs.flatMap pairCells)) :
    Calls Tryz.prog 91 #[.pointer (some ⟨S, 0, none⟩), .agg #[.int .i64 a.1, .int .i64 a.2]] w fun e w' => e = .returned (.bool false) ∧ Below w.heap.size w w' := by
  have x0 := Row.new w 50 [.int .i64 a.1, .int .i64 a.2]
  have s0 := hS.alloc (.cells #[.int .i64 a.1, .int .i64 a.2] 50)
  have hr0 := hr.ext (bA1 (o := .cells #[.int .i64 a.1, .int .i64 a.2] 50))
  have b0 := bA1 (w := w) (o := .cells #[.int .i64 a.1, .int .i64 a.2] 50)
  obtain ⟨W, hW⟩ : ∃ W, w.alloc (.cells #[.int .i64 a.1, .int .i64 a.2] 50) = W := ⟨_, rfl⟩
  obtain ⟨g, hg⟩ : ∃ g, w.heap.size = g := ⟨_, rfl⟩
  have Hn := Lib.hid hn; clear hn
  cases hp : antOk a
  · clear hno
    have Hp := Lib.hid hp; clear hp
    go_enter Tryz.func91, Tryz.ntmps91
    go_wp2_with fail
    rw [hW] at x0 s0 hr0 b0
    rw [hg] at x0
    have L : ∀ w', Below W.heap.size W w' → (Instr.loadAt 50 (.pointer (some ⟨g, 0, none⟩))).run Tryz.prog w' = .ok (.agg #[.int .i64 a.1, .int .i64 a.2]) w' := fun w' h => ld_two (by kernel_rfl) (by kernel_rfl) ((x0.kept h).cell 0) ((x0.kept h).cell 1)
    have LS : ∀ w', Below W.heap.size W w' → (Instr.loadAt 26 (.pointer (some ⟨S, 0, none⟩))).run Tryz.prog w' = .ok (.slice A n cap) w' := fun w' h => ld_one (by kernel_rfl) ((s0.kept h).cell 0)
    have HC : ∀ w', Below W.heap.size W w' → Calls Tryz.prog 61 #[.slice A n cap, .agg #[.int .i64 a.1, .int .i64 a.2]] w' fun e w'' => e = .returned (.bool (decide (a ∈ xs))) ∧ Below w'.heap.size w' w'' := fun w' h => containsAnt_any A n cap xs a w' Hn.out (by omega) (hr0.ext h)
    refine wp_region_N [] [] (by kernel_rfl) (by kernel_rfl) ?_
    refine wpStill_go (v := .agg #[.int .i64 a.1, .int .i64 a.2]) rfl rfl (stays_run fun w' h => ex_load rfl rfl (L w' h)) ?_
    simp only [Act.put, List.setIfInBounds_toArray, List.set_cons_succ, List.set_cons_zero]
    refine wpStill_go (v := .bool false) rfl rfl (stays_call (f := 60) (args := #[.agg #[.int .i64 a.1, .int .i64 a.2]]) (fun w' h => by simp [go_sem]) (fun w' _ => by rw [← Hp.out]; exact isPlace_any a w')) ?_
    simp only [Act.put, List.setIfInBounds_toArray, List.set_cons_succ, List.set_cons_zero]
    refine wpStill_go (v := .bool true) rfl rfl (stays_run fun w' h => by simp [go_sem]) ?_
    simp only [Act.put, List.setIfInBounds_toArray, List.set_cons_succ, List.set_cons_zero]
    refine wpStill_go (v := .bool true) rfl rfl (stays_run fun w' h => ex_move rfl rfl) ?_
    simp only [Act.put, List.setIfInBounds_toArray, List.set_cons_succ, List.set_cons_zero]
    refine wpStill_off rfl rfl ?_
    simp only [Act.put, List.setIfInBounds_toArray, List.set_cons_succ, List.set_cons_zero]
    refine wpStill_off rfl rfl ?_
    simp only [Act.put, List.setIfInBounds_toArray, List.set_cons_succ, List.set_cons_zero]
    refine wpStill_off rfl rfl ?_
    simp only [Act.put, List.setIfInBounds_toArray, List.set_cons_succ, List.set_cons_zero]
    refine wpStill_off rfl rfl ?_
    simp only [Act.put, List.setIfInBounds_toArray, List.set_cons_succ, List.set_cons_zero]
    refine wpStill_off rfl rfl ?_
    simp only [Act.put, List.setIfInBounds_toArray, List.set_cons_succ, List.set_cons_zero]
    refine wpStill_off rfl rfl ?_
    simp only [Act.put, List.setIfInBounds_toArray, List.set_cons_succ, List.set_cons_zero]
    refine wpStill_go (v := .bool true) rfl rfl (stays_run fun w' h => by simp [go_sem]) ?_
    simp only [Act.put, List.setIfInBounds_toArray, List.set_cons_succ, List.set_cons_zero]
    refine wpStill_go (v := .bool true) rfl rfl (stays_run fun w' h => ex_move rfl rfl) ?_
    simp only [Act.put, List.setIfInBounds_toArray, List.set_cons_succ, List.set_cons_zero]
    refine wpStill_off rfl rfl ?_
    simp only [Act.put, List.setIfInBounds_toArray, List.set_cons_succ, List.set_cons_zero]
    refine wpStill_off rfl rfl ?_
    simp only [Act.put, List.setIfInBounds_toArray, List.set_cons_succ, List.set_cons_zero]
    refine wpStill_off rfl rfl ?_
    simp only [Act.put, List.setIfInBounds_toArray, List.set_cons_succ, List.set_cons_zero]
    refine wpStill_off rfl rfl ?_
    simp only [Act.put, List.setIfInBounds_toArray, List.set_cons_succ, List.set_cons_zero]
    refine wpStill_off rfl rfl ?_
    simp only [Act.put, List.setIfInBounds_toArray, List.set_cons_succ, List.set_cons_zero]
    refine wpStill_off rfl rfl ?_
    simp only [Act.put, List.setIfInBounds_toArray, List.set_cons_succ, List.set_cons_zero]
    refine wpStill_go (v := .bool true) rfl rfl (stays_run fun w' h => by simp [go_sem]) ?_
    simp only [Act.put, List.setIfInBounds_toArray, List.set_cons_succ, List.set_cons_zero]
    refine wpStill_nil ?_
    repeat (refine wpMark_skip rfl ?_)
    refine wpMark_nil fun w5 h5 => ?_
    simp only [onlyN, Exit.then]
    have B5 : Below W.heap.size W w5 := (Below.refl _ W).drew.trans h5
    clear L LS HC
    go_wp2_with fail
    go_ret
    exact ⟨rfl, b0.trans (B5.mono b0.size)⟩
  · by_cases h7 : n = 7
    · have h7i : ((n : Int) == 7) = true := by rw [beq_iff_eq]; omega
      clear hno
      have Hp := Lib.hid hp; clear hp
      go_enter Tryz.func91, Tryz.ntmps91
      go_wp2_with fail
      rw [hW] at x0 s0 hr0 b0
      rw [hg] at x0
      have L : ∀ w', Below W.heap.size W w' → (Instr.loadAt 50 (.pointer (some ⟨g, 0, none⟩))).run Tryz.prog w' = .ok (.agg #[.int .i64 a.1, .int .i64 a.2]) w' := fun w' h => ld_two (by kernel_rfl) (by kernel_rfl) ((x0.kept h).cell 0) ((x0.kept h).cell 1)
      have LS : ∀ w', Below W.heap.size W w' → (Instr.loadAt 26 (.pointer (some ⟨S, 0, none⟩))).run Tryz.prog w' = .ok (.slice A n cap) w' := fun w' h => ld_one (by kernel_rfl) ((s0.kept h).cell 0)
      have HC : ∀ w', Below W.heap.size W w' → Calls Tryz.prog 61 #[.slice A n cap, .agg #[.int .i64 a.1, .int .i64 a.2]] w' fun e w'' => e = .returned (.bool (decide (a ∈ xs))) ∧ Below w'.heap.size w' w'' := fun w' h => containsAnt_any A n cap xs a w' Hn.out (by omega) (hr0.ext h)
      refine wp_region_N [] [] (by kernel_rfl) (by kernel_rfl) ?_
      refine wpStill_go (v := .agg #[.int .i64 a.1, .int .i64 a.2]) rfl rfl (stays_run fun w' h => ex_load rfl rfl (L w' h)) ?_
      simp only [Act.put, List.setIfInBounds_toArray, List.set_cons_succ, List.set_cons_zero]
      refine wpStill_go (v := .bool true) rfl rfl (stays_call (f := 60) (args := #[.agg #[.int .i64 a.1, .int .i64 a.2]]) (fun w' h => by simp [go_sem]) (fun w' _ => by rw [← Hp.out]; exact isPlace_any a w')) ?_
      simp only [Act.put, List.setIfInBounds_toArray, List.set_cons_succ, List.set_cons_zero]
      refine wpStill_go (v := .bool false) rfl rfl (stays_run fun w' h => by simp [go_sem]) ?_
      simp only [Act.put, List.setIfInBounds_toArray, List.set_cons_succ, List.set_cons_zero]
      refine wpStill_go (v := .bool false) rfl rfl (stays_run fun w' h => ex_move rfl rfl) ?_
      simp only [Act.put, List.setIfInBounds_toArray, List.set_cons_succ, List.set_cons_zero]
      refine wpStill_go (v := .pointer (some ⟨S, 0, none⟩)) rfl rfl (stays_run fun w' h => ex_move rfl rfl) ?_
      simp only [Act.put, List.setIfInBounds_toArray, List.set_cons_succ, List.set_cons_zero]
      refine wpStill_go (v := .pointer (some ⟨S, 0, none⟩)) rfl rfl (stays_run fun w' h => by simp [go_sem]) ?_
      simp only [Act.put, List.setIfInBounds_toArray, List.set_cons_succ, List.set_cons_zero]
      refine wpStill_go (v := .pointer (some ⟨S, 0, none⟩)) rfl rfl (stays_run fun w' h => by simp [go_sem]) ?_
      simp only [Act.put, List.setIfInBounds_toArray, List.set_cons_succ, List.set_cons_zero]
      refine wpStill_go (v := .slice A n cap) rfl rfl (stays_run fun w' h => ex_load rfl rfl (LS w' h)) ?_
      simp only [Act.put, List.setIfInBounds_toArray, List.set_cons_succ, List.set_cons_zero]
      refine wpStill_go (v := .int .i64 n) rfl rfl (stays_run fun w' h => ex_len rfl (by kernel_rfl) rfl) ?_
      simp only [Act.put, List.setIfInBounds_toArray, List.set_cons_succ, List.set_cons_zero]
      refine wpStill_go (v := .bool true) rfl rfl (stays_run fun w' h => by simp [go_sem, h7i]) ?_
      simp only [Act.put, List.setIfInBounds_toArray, List.set_cons_succ, List.set_cons_zero]
      refine wpStill_go (v := .bool true) rfl rfl (stays_run fun w' h => by simp [go_sem]) ?_
      simp only [Act.put, List.setIfInBounds_toArray, List.set_cons_succ, List.set_cons_zero]
      refine wpStill_go (v := .bool true) rfl rfl (stays_run fun w' h => ex_move rfl rfl) ?_
      simp only [Act.put, List.setIfInBounds_toArray, List.set_cons_succ, List.set_cons_zero]
      refine wpStill_off rfl rfl ?_
      simp only [Act.put, List.setIfInBounds_toArray, List.set_cons_succ, List.set_cons_zero]
      refine wpStill_off rfl rfl ?_
      simp only [Act.put, List.setIfInBounds_toArray, List.set_cons_succ, List.set_cons_zero]
      refine wpStill_off rfl rfl ?_
      simp only [Act.put, List.setIfInBounds_toArray, List.set_cons_succ, List.set_cons_zero]
      refine wpStill_off rfl rfl ?_
      simp only [Act.put, List.setIfInBounds_toArray, List.set_cons_succ, List.set_cons_zero]
      refine wpStill_off rfl rfl ?_
      simp only [Act.put, List.setIfInBounds_toArray, List.set_cons_succ, List.set_cons_zero]
      refine wpStill_off rfl rfl ?_
      simp only [Act.put, List.setIfInBounds_toArray, List.set_cons_succ, List.set_cons_zero]
      refine wpStill_go (v := .bool true) rfl rfl (stays_run fun w' h => by simp [go_sem]) ?_
      simp only [Act.put, List.setIfInBounds_toArray, List.set_cons_succ, List.set_cons_zero]
      refine wpStill_nil ?_
      repeat (refine wpMark_skip rfl ?_)
      refine wpMark_nil fun w5 h5 => ?_
      simp only [onlyN, Exit.then]
      have B5 : Below W.heap.size W w5 := (Below.refl _ W).drew.trans h5
      clear L LS HC
      go_wp2_with fail
      go_ret
      exact ⟨rfl, b0.trans (B5.mono b0.size)⟩
    · have hm : decide (a ∈ xs) = true := by
        unfold addOk at hno
        rw [hp, Hn.out, decide_eq_false h7] at hno
        simpa using hno
      have h7i : ((n : Int) == 7) = false := by rw [beq_eq_false_iff_ne]; omega
      clear hno
      have Hp := Lib.hid hp; clear hp
      go_enter Tryz.func91, Tryz.ntmps91
      go_wp2_with fail
      rw [hW] at x0 s0 hr0 b0
      rw [hg] at x0
      have L : ∀ w', Below W.heap.size W w' → (Instr.loadAt 50 (.pointer (some ⟨g, 0, none⟩))).run Tryz.prog w' = .ok (.agg #[.int .i64 a.1, .int .i64 a.2]) w' := fun w' h => ld_two (by kernel_rfl) (by kernel_rfl) ((x0.kept h).cell 0) ((x0.kept h).cell 1)
      have LS : ∀ w', Below W.heap.size W w' → (Instr.loadAt 26 (.pointer (some ⟨S, 0, none⟩))).run Tryz.prog w' = .ok (.slice A n cap) w' := fun w' h => ld_one (by kernel_rfl) ((s0.kept h).cell 0)
      have HC : ∀ w', Below W.heap.size W w' → Calls Tryz.prog 61 #[.slice A n cap, .agg #[.int .i64 a.1, .int .i64 a.2]] w' fun e w'' => e = .returned (.bool (decide (a ∈ xs))) ∧ Below w'.heap.size w' w'' := fun w' h => containsAnt_any A n cap xs a w' Hn.out (by omega) (hr0.ext h)
      rw [hm] at HC
      refine wp_region_N [] [] (by kernel_rfl) (by kernel_rfl) ?_
      refine wpStill_go (v := .agg #[.int .i64 a.1, .int .i64 a.2]) rfl rfl (stays_run fun w' h => ex_load rfl rfl (L w' h)) ?_
      simp only [Act.put, List.setIfInBounds_toArray, List.set_cons_succ, List.set_cons_zero]
      refine wpStill_go (v := .bool true) rfl rfl (stays_call (f := 60) (args := #[.agg #[.int .i64 a.1, .int .i64 a.2]]) (fun w' h => by simp [go_sem]) (fun w' _ => by rw [← Hp.out]; exact isPlace_any a w')) ?_
      simp only [Act.put, List.setIfInBounds_toArray, List.set_cons_succ, List.set_cons_zero]
      refine wpStill_go (v := .bool false) rfl rfl (stays_run fun w' h => by simp [go_sem]) ?_
      simp only [Act.put, List.setIfInBounds_toArray, List.set_cons_succ, List.set_cons_zero]
      refine wpStill_go (v := .bool false) rfl rfl (stays_run fun w' h => ex_move rfl rfl) ?_
      simp only [Act.put, List.setIfInBounds_toArray, List.set_cons_succ, List.set_cons_zero]
      refine wpStill_go (v := .pointer (some ⟨S, 0, none⟩)) rfl rfl (stays_run fun w' h => ex_move rfl rfl) ?_
      simp only [Act.put, List.setIfInBounds_toArray, List.set_cons_succ, List.set_cons_zero]
      refine wpStill_go (v := .pointer (some ⟨S, 0, none⟩)) rfl rfl (stays_run fun w' h => by simp [go_sem]) ?_
      simp only [Act.put, List.setIfInBounds_toArray, List.set_cons_succ, List.set_cons_zero]
      refine wpStill_go (v := .pointer (some ⟨S, 0, none⟩)) rfl rfl (stays_run fun w' h => by simp [go_sem]) ?_
      simp only [Act.put, List.setIfInBounds_toArray, List.set_cons_succ, List.set_cons_zero]
      refine wpStill_go (v := .slice A n cap) rfl rfl (stays_run fun w' h => ex_load rfl rfl (LS w' h)) ?_
      simp only [Act.put, List.setIfInBounds_toArray, List.set_cons_succ, List.set_cons_zero]
      refine wpStill_go (v := .int .i64 n) rfl rfl (stays_run fun w' h => ex_len rfl (by kernel_rfl) rfl) ?_
      simp only [Act.put, List.setIfInBounds_toArray, List.set_cons_succ, List.set_cons_zero]
      refine wpStill_go (v := .bool false) rfl rfl (stays_run fun w' h => by simp [go_sem, h7i]) ?_
      simp only [Act.put, List.setIfInBounds_toArray, List.set_cons_succ, List.set_cons_zero]
      refine wpStill_go (v := .bool false) rfl rfl (stays_run fun w' h => by simp [go_sem]) ?_
      simp only [Act.put, List.setIfInBounds_toArray, List.set_cons_succ, List.set_cons_zero]
      refine wpStill_go (v := .bool false) rfl rfl (stays_run fun w' h => ex_move rfl rfl) ?_
      simp only [Act.put, List.setIfInBounds_toArray, List.set_cons_succ, List.set_cons_zero]
      refine wpStill_go (v := .pointer (some ⟨S, 0, none⟩)) rfl rfl (stays_run fun w' h => ex_move rfl rfl) ?_
      simp only [Act.put, List.setIfInBounds_toArray, List.set_cons_succ, List.set_cons_zero]
      refine wpStill_go (v := .pointer (some ⟨S, 0, none⟩)) rfl rfl (stays_run fun w' h => by simp [go_sem]) ?_
      simp only [Act.put, List.setIfInBounds_toArray, List.set_cons_succ, List.set_cons_zero]
      refine wpStill_go (v := .pointer (some ⟨S, 0, none⟩)) rfl rfl (stays_run fun w' h => by simp [go_sem]) ?_
      simp only [Act.put, List.setIfInBounds_toArray, List.set_cons_succ, List.set_cons_zero]
      refine wpStill_go (v := .slice A n cap) rfl rfl (stays_run fun w' h => ex_load rfl rfl (LS w' h)) ?_
      simp only [Act.put, List.setIfInBounds_toArray, List.set_cons_succ, List.set_cons_zero]
      refine wpStill_go (v := .agg #[.int .i64 a.1, .int .i64 a.2]) rfl rfl (stays_run fun w' h => ex_load rfl rfl (L w' h)) ?_
      simp only [Act.put, List.setIfInBounds_toArray, List.set_cons_succ, List.set_cons_zero]
      refine wpStill_go (v := .bool true) rfl rfl (stays_call (f := 61) (args := #[.slice A n cap, .agg #[.int .i64 a.1, .int .i64 a.2]]) (fun w' h => by simp [go_sem]) (fun w' _ => HC w' ‹_›)) ?_
      simp only [Act.put, List.setIfInBounds_toArray, List.set_cons_succ, List.set_cons_zero]
      refine wpStill_go (v := .bool true) rfl rfl (stays_run fun w' h => by simp [go_sem]) ?_
      simp only [Act.put, List.setIfInBounds_toArray, List.set_cons_succ, List.set_cons_zero]
      refine wpStill_nil ?_
      repeat (refine wpMark_skip rfl ?_)
      refine wpMark_nil fun w5 h5 => ?_
      simp only [onlyN, Exit.then]
      have B5 : Below W.heap.size W w5 := (Below.refl _ W).drew.trans h5
      clear L LS HC
      go_wp2_with fail
      go_ret
      exact ⟨rfl, b0.trans (B5.mono b0.size)⟩

theorem wp_region_C {P : Program} {Q : Exit → Act → World → Prop} {l : List Oper} (spL nkL : List Nat) {id : Nat} {a : Act} {w : World} (C : World → Prop) (hm : P.follows .mixedOrders = true) (hB : chkR l.toArray (fun i => spL.contains i) (fun i => nkL.contains i) = true)
    (hC : ∀ w w', C w → Ext w w' → C w') (h0 : C w.drew)
    (h : wpStill P l.toArray C (fun i => spL.contains i) (fun a' => wpMark P l.toArray C (onlyN (Q .normal)) (fun i => spL.contains i) (fun i => nkL.contains i) 0 l a' w.drew) 0 l a) : (Code.region id l.toArray true).wp P Q a w :=
  wp_mono (wp_region_R spL nkL C hm hB hC (fun _ _ _ _ _ h => h.elim) h0 h) onlyN_imp
/-- All that was there stands but for a struct's block and a row. -/
structure GrownS (S : Nat) (row : Option Nat) (w w' : World) : Prop where
  os : w'.os = w.os
  tape : w'.tape = w.tape
  output : w'.output = w.output
  size : w.heap.size ≤ w'.heap.size
  block : ∀ j, j < w.heap.size → j ≠ S → some j ≠ row → w'.heap[j]? = w.heap[j]?
theorem own_keep {w w' : World} {B e s n : Nat} {v : Value} {xs : List Value} (h : w.ownsRow B e s v n xs) (hk : ∀ j, v.ownBlock = some j → w'.heap[j]? = w.heap[j]?) : w'.ownsRow B e s v n xs := by
  rcases h with ⟨hl, h | ⟨g, cap, cur, rfl, hBg, hg, h1, h2, h3, h4⟩⟩
  · exact ⟨hl, .inl h⟩
  · exact ⟨hl, .inr ⟨g, cap, cur, rfl, hBg, (hk g rfl).trans hg, h1, h2, h3, h4⟩⟩
set_option maxRecDepth 100000 in
set_option maxHeartbeats 1000000 in
theorem addAnt_yes (S base : Nat) (A : Option Addr) (n cap : Nat) (xs : List (Int × Int)) (v : Value) (a : Int × Int) (w : World) (hn : xs.length = n) (hb : n ≤ 7) (hyes : addOk xs a = true) (hS : Row w S 68 [.slice A n cap, v]) (hbS : base ≤ w.heap.size)
    (ho : w.ownsRow base 50 2 (.slice A n cap) n (xs.flatMap pairCells)) :
    Calls Tryz.prog 91 #[.pointer (some ⟨S, 0, none⟩), .agg #[.int .i64 a.1, .int .i64 a.2]] w fun e w' => e = .returned (.bool true) ∧
      ∃ A' c', Row w' S 68 [.slice A' (n + 1) c', v] ∧ w'.ownsRow base 50 2 (.slice A' (n + 1) c') (n + 1) ((xs ++ [a]).flatMap pairCells) ∧ GrownS S (Value.slice A n cap).ownBlock w w' := by
  obtain ⟨i0, hi, hz0, hz1, hz2⟩ := info_parts antInfo
  have hr := Rd.of_own ho
  unfold addOk at hyes
  rw [Bool.and_eq_true, Bool.and_eq_true] at hyes
  obtain ⟨hp, h7, hm⟩ := hyes
  have h7 : ¬ n = 7 := by rw [← hn]; simpa using h7
  have hm : decide (a ∈ xs) = false := by simpa using hm
  have h7i : ((n : Int) == 7) = false := by rw [beq_eq_false_iff_ne]; omega
  have x0 := Row.new w 50 [.int .i64 a.1, .int .i64 a.2]
  have s0 := hS.alloc (.cells #[.int .i64 a.1, .int .i64 a.2] 50)
  have hr0 := hr.ext (bA1 (o := .cells #[.int .i64 a.1, .int .i64 a.2] 50))
  have b0 := bA1 (w := w) (o := .cells #[.int .i64 a.1, .int .i64 a.2] 50)
  obtain ⟨W, hW⟩ : ∃ W, w.alloc (.cells #[.int .i64 a.1, .int .i64 a.2] 50) = W := ⟨_, rfl⟩
  obtain ⟨g, hg⟩ : ∃ g, w.heap.size = g := ⟨_, rfl⟩
  have o0 := ho.alloc (.cells #[.int .i64 a.1, .int .i64 a.2] 50)
  have hSg := hS.lt
  have hlow : ∀ j, (Value.slice A n cap).ownBlock = some j → j < g ∧ j ≠ S := fun j hj => by
    obtain ⟨_, h2, cs, fr, h3⟩ := own_lt ho hj
    refine ⟨by omega, fun e => ?_⟩
    rw [e, show w.heap[S]? = _ from hS] at h3
    injection h3 with h3
    injection h3 with _ h4
    revert h4
    decide
  have Hn := Lib.hid hn; clear hn
  have Hp := Lib.hid hp; clear hp
  have Ho := Lib.hid ho; clear ho
  go_enter Tryz.func91, Tryz.ntmps91
  go_wp2_with fail
  rw [hW] at x0 s0 hr0 b0 o0
  rw [hg] at x0
  have L : ∀ w', Below W.heap.size W w' → (Instr.loadAt 50 (.pointer (some ⟨g, 0, none⟩))).run Tryz.prog w' = .ok (.agg #[.int .i64 a.1, .int .i64 a.2]) w' := fun w' h => ld_two (by kernel_rfl) (by kernel_rfl) ((x0.kept h).cell 0) ((x0.kept h).cell 1)
  have LS : ∀ w', Below W.heap.size W w' → (Instr.loadAt 26 (.pointer (some ⟨S, 0, none⟩))).run Tryz.prog w' = .ok (.slice A n cap) w' := fun w' h => ld_one (by kernel_rfl) ((s0.kept h).cell 0)
  have HC : ∀ w', Below W.heap.size W w' → Calls Tryz.prog 61 #[.slice A n cap, .agg #[.int .i64 a.1, .int .i64 a.2]] w' fun e w'' => e = .returned (.bool (decide (a ∈ xs))) ∧ Below w'.heap.size w' w'' := fun w' h => containsAnt_any A n cap xs a w' Hn.out (by omega) (hr0.ext h)
  rw [hm] at HC
  refine wp_region_N [] [] (by kernel_rfl) (by kernel_rfl) ?_
  refine wpStill_go (v := .agg #[.int .i64 a.1, .int .i64 a.2]) rfl rfl (stays_run fun w' h => ex_load rfl rfl (L w' h)) ?_
  simp only [Act.put, List.setIfInBounds_toArray, List.set_cons_succ, List.set_cons_zero]
  refine wpStill_go (v := .bool true) rfl rfl (stays_call (f := 60) (args := #[.agg #[.int .i64 a.1, .int .i64 a.2]]) (fun w' h => by simp [go_sem]) (fun w' _ => by rw [← Hp.out]; exact isPlace_any a w')) ?_
  simp only [Act.put, List.setIfInBounds_toArray, List.set_cons_succ, List.set_cons_zero]
  refine wpStill_go (v := .bool false) rfl rfl (stays_run fun w' h => by simp [go_sem]) ?_
  simp only [Act.put, List.setIfInBounds_toArray, List.set_cons_succ, List.set_cons_zero]
  refine wpStill_go (v := .bool false) rfl rfl (stays_run fun w' h => ex_move rfl rfl) ?_
  simp only [Act.put, List.setIfInBounds_toArray, List.set_cons_succ, List.set_cons_zero]
  refine wpStill_go (v := .pointer (some ⟨S, 0, none⟩)) rfl rfl (stays_run fun w' h => ex_move rfl rfl) ?_
  simp only [Act.put, List.setIfInBounds_toArray, List.set_cons_succ, List.set_cons_zero]
  refine wpStill_go (v := .pointer (some ⟨S, 0, none⟩)) rfl rfl (stays_run fun w' h => by simp [go_sem]) ?_
  simp only [Act.put, List.setIfInBounds_toArray, List.set_cons_succ, List.set_cons_zero]
  refine wpStill_go (v := .pointer (some ⟨S, 0, none⟩)) rfl rfl (stays_run fun w' h => by simp [go_sem]) ?_
  simp only [Act.put, List.setIfInBounds_toArray, List.set_cons_succ, List.set_cons_zero]
  refine wpStill_go (v := .slice A n cap) rfl rfl (stays_run fun w' h => ex_load rfl rfl (LS w' h)) ?_
  simp only [Act.put, List.setIfInBounds_toArray, List.set_cons_succ, List.set_cons_zero]
  refine wpStill_go (v := .int .i64 n) rfl rfl (stays_run fun w' h => ex_len rfl (by kernel_rfl) rfl) ?_
  simp only [Act.put, List.setIfInBounds_toArray, List.set_cons_succ, List.set_cons_zero]
  refine wpStill_go (v := .bool false) rfl rfl (stays_run fun w' h => by simp [go_sem, h7i]) ?_
  simp only [Act.put, List.setIfInBounds_toArray, List.set_cons_succ, List.set_cons_zero]
  refine wpStill_go (v := .bool false) rfl rfl (stays_run fun w' h => by simp [go_sem]) ?_
  simp only [Act.put, List.setIfInBounds_toArray, List.set_cons_succ, List.set_cons_zero]
  refine wpStill_go (v := .bool false) rfl rfl (stays_run fun w' h => ex_move rfl rfl) ?_
  simp only [Act.put, List.setIfInBounds_toArray, List.set_cons_succ, List.set_cons_zero]
  refine wpStill_go (v := .pointer (some ⟨S, 0, none⟩)) rfl rfl (stays_run fun w' h => ex_move rfl rfl) ?_
  simp only [Act.put, List.setIfInBounds_toArray, List.set_cons_succ, List.set_cons_zero]
  refine wpStill_go (v := .pointer (some ⟨S, 0, none⟩)) rfl rfl (stays_run fun w' h => by simp [go_sem]) ?_
  simp only [Act.put, List.setIfInBounds_toArray, List.set_cons_succ, List.set_cons_zero]
  refine wpStill_go (v := .pointer (some ⟨S, 0, none⟩)) rfl rfl (stays_run fun w' h => by simp [go_sem]) ?_
  simp only [Act.put, List.setIfInBounds_toArray, List.set_cons_succ, List.set_cons_zero]
  refine wpStill_go (v := .slice A n cap) rfl rfl (stays_run fun w' h => ex_load rfl rfl (LS w' h)) ?_
  simp only [Act.put, List.setIfInBounds_toArray, List.set_cons_succ, List.set_cons_zero]
  refine wpStill_go (v := .agg #[.int .i64 a.1, .int .i64 a.2]) rfl rfl (stays_run fun w' h => ex_load rfl rfl (L w' h)) ?_
  simp only [Act.put, List.setIfInBounds_toArray, List.set_cons_succ, List.set_cons_zero]
  refine wpStill_go (v := .bool false) rfl rfl (stays_call (f := 61) (args := #[.slice A n cap, .agg #[.int .i64 a.1, .int .i64 a.2]]) (fun w' h => by simp [go_sem]) (fun w' _ => HC w' ‹_›)) ?_
  simp only [Act.put, List.setIfInBounds_toArray, List.set_cons_succ, List.set_cons_zero]
  refine wpStill_go (v := .bool false) rfl rfl (stays_run fun w' h => by simp [go_sem]) ?_
  simp only [Act.put, List.setIfInBounds_toArray, List.set_cons_succ, List.set_cons_zero]
  refine wpStill_nil ?_
  repeat (refine wpMark_skip rfl ?_)
  refine wpMark_nil fun w5 h5 => ?_
  simp only [onlyN, Exit.then]
  have B5 : Below W.heap.size W w5 := (Below.refl _ W).drew.trans h5
  have x5 := x0.kept B5
  have s5 := s0.kept B5
  have o5 := own_ext o0 B5
  have G5 := b0.trans (B5.mono b0.size)
  have sz5 := G5.size
  rw [hg] at sz5
  have szg : g < w5.heap.size := x5.lt
  have O5 := Lib.hid o5; clear o5
  clear x0 s0 o0 hr0 L LS HC h5 hm h7i b0 B5
  go_wp2_with fail
  have CX : ∀ V, w5.grownBy V (Value.slice A n cap).ownBlock → Row V S 68 [.slice A n cap, v] ∧ Row V g 50 [.int .i64 a.1, .int .i64 a.2] := fun V hV =>
    ⟨(hV.block S s5.lt fun e => (hlow S e.symm).2 rfl).trans s5, (hV.block g szg fun e => by have := (hlow g e.symm).1; omega).trans x5⟩
  refine wp_region_C [6, 7, 8, 9, 10] [10] (fun V => w5.grownBy V (Value.slice A n cap).ownBlock) (by kernel_rfl) (by kernel_rfl) (fun _ _ h h' => h.trans ⟨h'.os, h'.tape, h'.output, h'.size, fun k hk _ => h'.block k hk⟩) ⟨rfl, rfl, rfl, Nat.le_refl _, fun _ _ _ => rfl⟩ ?_
  refine wpStill_go (v := .pointer (some ⟨S, 0, none⟩)) rfl rfl (stays_run fun w' h => ex_move rfl rfl) ?_
  simp only [Act.put, List.setIfInBounds_toArray, List.set_cons_succ, List.set_cons_zero]
  refine wpStill_go (v := .pointer (some ⟨S, 0, none⟩)) rfl rfl (stays_run fun w' h => ex_move rfl rfl) ?_
  simp only [Act.put, List.setIfInBounds_toArray, List.set_cons_succ, List.set_cons_zero]
  refine wpStill_go (v := .pointer (some ⟨S, 0, none⟩)) rfl rfl (stays_run fun w' h => by simp [go_sem]) ?_
  simp only [Act.put, List.setIfInBounds_toArray, List.set_cons_succ, List.set_cons_zero]
  refine wpStill_go (v := .pointer (some ⟨S, 0, none⟩)) rfl rfl (stays_run fun w' h => by simp [go_sem]) ?_
  simp only [Act.put, List.setIfInBounds_toArray, List.set_cons_succ, List.set_cons_zero]
  refine wpStill_go (v := .slice A n cap) rfl rfl (stays_run fun w' h => ex_load rfl rfl (ld_one (by kernel_rfl) ((CX w' h).1.cell 0))) ?_
  simp only [Act.put, List.setIfInBounds_toArray, List.set_cons_succ, List.set_cons_zero]
  refine wpStill_go (v := .agg #[.int .i64 a.1, .int .i64 a.2]) rfl rfl (stays_run fun w' h => ex_load rfl rfl (ld_two (by kernel_rfl) (by kernel_rfl) ((CX w' h).2.cell 0) ((CX w' h).2.cell 1))) ?_
  simp only [Act.put, List.setIfInBounds_toArray, List.set_cons_succ, List.set_cons_zero]
  refine wpStill_skip rfl (wpStill_skip rfl (wpStill_skip rfl (wpStill_skip rfl (wpStill_skip rfl (wpStill_nil ?_)))))
  repeat (refine wpMark_skip rfl ?_)
  refine wpMark_go rfl fun w6 h6 K hK => ?_
  have E6 : Below w5.heap.size w5 w6 := (Below.refl _ w5).drew.trans h6
  go_wp2_with fail
  have E7 := E6.alloc E6.size (.cells #[.int .i64 a.1, .int .i64 a.2] 50)
  have c6 := Row.new w6 50 [.int .i64 a.1, .int .i64 a.2]
  have o6 := own_ext O5.out E7
  obtain ⟨W6, hW6⟩ : ∃ W6, w6.alloc (.cells #[.int .i64 a.1, .int .i64 a.2] 50) = W6 := ⟨_, rfl⟩
  obtain ⟨k, hk⟩ : ∃ k, w6.heap.size = k := ⟨_, rfl⟩
  rw [hW6] at E7 c6 o6 ⊢
  rw [hk] at c6 ⊢
  have gr : ∀ {X Y : World}, Below X.heap.size X Y → X.grownBy Y (Value.slice A n cap).ownBlock := fun h' => ⟨h'.os, h'.tape, h'.output, h'.size, fun k hk _ => h'.block k hk⟩
  refine hK _ _ (fun _ => gr E7) ?_
  clear hK hW6 hk
  refine wpMark_go rfl fun w7 h7 K hK => ?_
  have c7 := c6.kept h7
  have o7 := own_ext o6 h7
  have E8 := E7.trans (h7.mono E7.size)
  have sz7 := E8.size
  have hbase : base ≤ w7.heap.size := by omega
  go_wp2_with (at_builtin; refine wpList_append_own _ rfl _ _ 26 rfl base 50 i0 (.agg #[.int .i64 0, .int .i64 0]) 2 16 (by kernel_rfl) hi hz0 hz1 hz2 rfl (by decide) _ n _ rfl o7 ⟨k, 0, none⟩ 1 1 [.int .i64 a.1, .int .i64 a.2] rfl rfl (fun j u hj => by rw [← hj, ← c7.cell j]; exact congrArg _ (addr_add _ _)) (by simp [Value.oneCell']) (by unfold maxLen; omega) (by omega) hbase ?_; intro v' w8 hown' hgrow _; obtain ⟨g', cap', rfl⟩ := ownsRow_succ hown')
  have G8 : w5.grownBy w8 (Value.slice A n cap).ownBlock := (gr E8).trans hgrow
  have Hown' := Lib.hid hown'; clear hown'
  refine hK _ _ (fun _ => G8) ?_
  clear hK hgrow c7 o7 h7 c6 o6
  refine wpMark_go rfl fun w9 h9 K hK => ?_
  go_wp2_with fail
  have G9 := G8.trans (gr h9)
  refine hK _ _ (fun _ => G9) ?_
  clear hK
  refine wpMark_go rfl fun w10 h10 K hK => ?_
  go_wp2_with fail
  have G10 := G9.trans (gr h10)
  refine hK _ _ (fun _ => G10) ?_
  clear hK
  refine wpMark_go rfl fun w11 h11 K hK => ?_
  have G11 := G10.trans (gr h11)
  have s11 := (CX _ G11).1
  have o11 := own_ext (own_ext (own_ext Hown'.out h9) h10) h11
  obtain ⟨q0, q1, q2, q3⟩ := s11.two
  clear h9 h10 h11 G8 G9 G10
  have O11 := Lib.hid o11; clear o11
  go_wp2_with fail
  refine hK _ _ (fun h => by cases h) ?_
  clear hK
  refine wpMark_nil fun w12 h12 => ?_
  simp only [onlyN]
  have s12 := (s11.set_ 0 (.slice (some ⟨g', 0, none⟩) (n + 1) cap')).kept h12
  simp only [List.set_cons_zero] at s12
  have hne : g' ≠ S := fun e => by
    obtain ⟨_, _, cs, fr, h3⟩ := own_lt O11.out (j := g') rfl
    rw [e, show w11.heap[S]? = _ from s11] at h3
    injection h3 with h3
    injection h3 with _ h4
    revert h4
    decide
  have o12 := own_ext (own_over O11.out (grown_set w11 S 0 (.slice (some ⟨g', 0, none⟩) (n + 1) cap')) (fun j hj e => by cases hj; cases e; exact hne rfl)) h12
  have GS : GrownS S (Value.slice A n cap).ownBlock w w12 := by
    have q := (grown_set w11 S 0 (.slice (some ⟨g', 0, none⟩) (n + 1) cap'))
    refine ⟨?_, ?_, ?_, ?_, fun j hj h1 h2 => ?_⟩
    · rw [h12.os, q.os, G11.os, G5.os]
    · rw [h12.tape, q.tape, G11.tape, G5.tape]
    · rw [h12.output, q.output, G11.output, G5.output]
    · exact Nat.le_trans G5.size (Nat.le_trans G11.size (Nat.le_trans q.size h12.size))
    · have j5 : j < w5.heap.size := Nat.lt_of_lt_of_le hj G5.size
      have j11 : j < w11.heap.size := Nat.lt_of_lt_of_le j5 G11.size
      rw [h12.block j (Nat.lt_of_lt_of_le j11 q.size), q.block j j11 (by simpa using h1), G11.block j j5 h2, G5.block j hj]
  clear G11 G5 s11 q0 q1 q2 q3 h12
  have O12 := Lib.hid o12; clear o12
  go_wp2_with fail
  go_ret
  exact ⟨rfl, _, _, s12, by rw [List.flatMap_append]; exact O12.out, GS⟩
end Go.Proofs.YtipgpafgampfbaaGreatDoor
