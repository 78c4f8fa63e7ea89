/- A sky read back: the reference's SkyFrom. -/
import Derived.Test.YtbadeopjfmafcaaDoorSkyTx
import Derived.Test.YtbadeopjfmafcaaDoorCut
namespace Go.Proofs.YtbadeopjfmafcaaDoor
open Go.RowKit

theorem cut_total (c : UInt8) : ∀ l : List UInt8, ((cut c l).map fun x => x.length + 1).sum = l.length + 1
  | [] => rfl
  | b :: l => by
    have ih := cut_total c l
    unfold cut
    split
    · simp only [List.map_cons, List.sum_cons, ih, List.length_nil, List.length_cons]; omega
    · cases hc : cut c l with
      | nil => exact absurd hc (cut_ne c l)
      | cons y t =>
        rw [hc] at ih
        simp only [List.map_cons, List.sum_cons, List.length_cons] at ih ⊢
        omega
theorem flat_le {α β : Type} (f : α → List β) (g : α → Nat) : ∀ (ls : List α), (∀ x ∈ ls, (f x).length ≤ g x) → (ls.flatMap f).length ≤ (ls.map g).sum
  | [], _ => Nat.le_refl _
  | a :: t, h => by
    have ih := flat_le f g t fun x hx => h x (by simp [hx])
    have := h a (by simp)
    simp only [List.flatMap_cons, List.length_append, List.map_cons, List.sum_cons]; omega
theorem sum_take (ls : List Nat) (k : Nat) : (ls.take k).sum ≤ ls.sum := by
  conv => rhs; rw [← List.take_append_drop k ls]
  rw [List.sum_append]; omega
theorem lineNums_len (x : List UInt8) : (lineNums x).length ≤ x.length + 1 := by
  unfold lineNums
  rw [List.length_map, cut_len]
  have := List.count_le_length (a := (32 : UInt8)) (l := x)
  omega
theorem nums_len (l : List UInt8) (k : Nat) : (((cut 10 l).take k).flatMap lineNums).length ≤ l.length + 1 := by
  have h1 := flat_le lineNums (fun x => x.length + 1) ((cut 10 l).take k) fun x _ => lineNums_len x
  rw [List.map_take] at h1
  have h2 := sum_take ((cut 10 l).map fun x => x.length + 1) k
  rw [cut_total] at h2
  omega
theorem take_flat {α β : Type} (f : α → List β) (ls : List α) (k : Nat) (d : α) (h : k < ls.length) : (ls.take (k + 1)).flatMap f = (ls.take k).flatMap f ++ f (ls.getD k d) := by
  rw [take_succ_getD (d := d) h, List.flatMap_append]; simp
theorem num7_any (l : List UInt8) : -9223372036854775808 ≤ num7 l ∧ num7 l ≤ 9223372036854775807 := by have := num7_bd l; omega
theorem getD_len {c : UInt8} {l : List UInt8} (k : Nat) : ((cut c l).getD k []).length ≤ l.length := by
  by_cases h : k < (cut c l).length
  · exact cut_size (getD_mem h)
  · rw [List.getD_eq_getElem?_getD, List.getElem?_eq_none (by omega)]; simp

/-- Own rows of different types lie in different blocks. -/
theorem own_types {W : World} {B B' e e' s s' n n' : Nat} {v v' : Value} {xs xs' : List Value} (h : W.ownsRow B e s v n xs) (h' : W.ownsRow B' e' s' v' n' xs') (hne : e ≠ e') :
    ∀ j, v.ownBlock = some j → v'.ownBlock ≠ some j := fun j hj hj' => by
  obtain ⟨_, _, cs, fr, h1⟩ := own_lt h hj
  obtain ⟨_, _, cs', fr', h2⟩ := own_lt h' hj'
  rw [h1] at h2
  injection h2 with h2
  injection h2 with _ h3 _
  exact hne h3

theorem own_base {W : World} {B B' e s n : Nat} {v : Value} {xs : List Value} (h : W.ownsRow B e s v n xs) (hB : B' ≤ B) : W.ownsRow B' e s v n xs := by
  rcases h with ⟨hl, h | ⟨g, cap, cur, rfl, hg, h1⟩⟩
  · exact ⟨hl, .inl h⟩
  · exact ⟨hl, .inr ⟨g, cap, cur, rfl, Nat.le_trans hB hg, h1⟩⟩

set_option maxRecDepth 100000 in
set_option maxHeartbeats 1000000 in
theorem sSkyFrom_any (l : List UInt8) (w : World) (hs : l.length ≤ 1048576) :
    Calls Tryd.prog 26 #[.string ⟨l.toArray⟩] w fun e w' => ∃ v, e = .returned (.tuple #[v, .bool (readSky l).isSome]) ∧ w'.ownsRow w.heap.size 3 1 v ((readSky l).getD []).length (((readSky l).getD []).map (Value.int .i64)) ∧ Below w.heap.size w w' := by
  obtain ⟨i0, hi, hz0, hz1, hz2⟩ := info_parts intInfo
  have hsz : (ByteArray.mk l.toArray).size = l.length := rfl
  go_enter Tryd.func26, Tryd.ntmps26
  go_wp2_with fail
  refine (l41Cut_any l 10 w (by omega)).mono ?_
  rintro e w1 ⟨v, rfl, o1, b1⟩
  obtain ⟨A, cp, rfl⟩ := own_form o1
  have hr1 := Rd.of_own o1
  have hcl : (cut 10 l).length ≤ l.length + 1 := by rw [cut_len]; have := List.count_le_length (a := (10 : UInt8)) (l := l); omega
  have hc1 : 1 ≤ (cut 10 l).length := by rw [cut_len]; omega
  have Hb1 := Lib.hid b1
  clear b1 o1
  obtain ⟨n, hn⟩ : ∃ n, (cut 10 l).length = n := ⟨_, rfl⟩
  rw [hn] at hcl hc1 ⊢
  have Hn := Lib.hid hn; clear hn
  go_wp2_with fail
  have r0 := (Row.new w1 3 []).own (base := w1.heap.size) (size := 1) (n := 0) (Nat.le_refl _) rfl (by unfold maxLen; omega)
  go_loopw [5, 6] (fun o i wr => ∃ k : Nat, k + 1 ≤ n ∧ i = .int .i64 k ∧ wr.ownsRow w1.heap.size 3 1 o (((cut 10 l).take k).flatMap lineNums).length ((((cut 10 l).take k).flatMap lineNums).map (Value.int .i64)) ∧ Below w1.heap.size w1 wr) (fun _ i _ => n - (intOf i).toNat)
  case atStart => exact ⟨0, hc1, rfl, r0, bA1⟩
  case round =>
    obtain ⟨k, hk, rfl, hown, hbel⟩ := hrel
    have hbs := hbel.size
    have hnl := nums_len l k
    by_cases hlt : k + 1 < n
    · have hr2 := hr1.below hbel
      obtain ⟨b, off, rfl, hb2, hcc⟩ := hr2 k _ (strs_get (by rw [Hn.out]; omega))
      have hts := take_flat lineNums (cut 10 l) k [] (by rw [Hn.out]; omega)
      have hgl := getD_len (c := 10) (l := l) k
      generalize (cut 10 l).getD k [] = x at *
      generalize ((cut 10 l).take k).flatMap lineNums = ns at *
      have hcx : (cut 32 x).length ≤ x.length + 1 := by rw [cut_len]; have := List.count_le_length (a := (32 : UInt8)) (l := x); omega
      have Hown := Lib.hid hown; clear hown
      have Hbel := Lib.hid hbel; clear hbel
      have Hts := Lib.hid hts; clear hts
      have Hcx := Lib.hid hcx; clear hcx
      have Hgl := Lib.hid hgl; clear hgl
      go_wp2_with fail
      refine (l41Cut_any x 32 _ (by have := Hgl.out; omega)).mono ?_
      rintro e w2 ⟨v, rfl, o2, b2⟩
      obtain ⟨A2, cp2, rfl⟩ := own_form o2
      have Hown2 := Lib.hid (own_ext Hown.out b2)
      have Hbel2 := Lib.hid (Hbel.out.trans (b2.mono hbs))
      clear b2 hr2
      obtain ⟨m, hm⟩ : ∃ m, (cut 32 x).length = m := ⟨_, rfl⟩
      rw [hm] at o2 ⊢
      have Hm := Lib.hid hm; clear hm
      have Ho2 := Lib.hid o2; clear o2
      go_wp2_with fail
      go_loopw [5, 8] (fun o i wi => ∃ j : Nat, j ≤ m ∧ i = .int .i64 j ∧ wi.ownsRow w1.heap.size 3 1 o (ns ++ ((cut 32 x).take j).map num7).length ((ns ++ ((cut 32 x).take j).map num7).map (Value.int .i64)) ∧
        wi.ownsRow wr.heap.size 9 1 (.slice A2 m cp2) m (strs (cut 32 x)) ∧ Below w1.heap.size w1 wi) (fun _ i _ => m - (intOf i).toNat)
      case atStart => exact ⟨0, by omega, rfl, by simpa using Hown2.out, Ho2.out, Hbel2.out⟩
      case round =>
        obtain ⟨j, hj, rfl, ho, hst, hbl⟩ := hrel
        have hbls := hbl.size
        have hml : m ≤ l.length + 1 := by have := Hcx.out; have := Hgl.out; have := Hm.out; omega
        have hnl2 : (ns ++ ((cut 32 x).take j).map num7).length ≤ 3000000 := by
          rw [List.length_append, List.length_map, List.length_take]; omega
        by_cases hjt : j < m
        · have hr3 := Rd.of_own hst
          obtain ⟨b2, off2, hA, hb3, hc3⟩ := hr3 j _ (strs_get (by rw [Hm.out]; exact hjt))
          subst hA
          have hts2 : ns ++ ((cut 32 x).take (j + 1)).map num7 = (ns ++ ((cut 32 x).take j).map num7) ++ [num7 ((cut 32 x).getD j [])] := by
            rw [take_succ_getD (d := []) (by rw [Hm.out]; exact hjt), List.map_append, List.append_assoc]; rfl
          have hyl := getD_len (c := 32) (l := x) j
          generalize (cut 32 x).getD j [] = y at *
          have hap := own_types hst ho (by decide)
          generalize ns ++ ((cut 32 x).take j).map num7 = us at *
          have Ho := Lib.hid ho; clear ho
          have Hst := Lib.hid hst; clear hst
          have Hbl := Lib.hid hbl; clear hbl
          have Hts2 := Lib.hid hts2; clear hts2
          have Hyl := Lib.hid hyl; clear hyl
          have Hap := Lib.hid hap; clear hap
          clear hr3
          go_wp2_with fail
          refine (l41Number_any y _ (by have := Hyl.out; have := Hgl.out; omega)).mono ?_
          rintro e w3 ⟨rfl, rfl⟩
          generalize hv : num7 y = v at *
          have Hv := Lib.hid hv; clear hv
          go_wp2_with (at_builtin; refine wpList_append_own _ rfl _ _ 22 rfl w1.heap.size 3 i0 (.int .i64 0) 1 8 (by kernel_rfl) hi hz0 hz1 hz2 rfl (by decide) _ us.length _ rfl (Ho.out.alloc _) ⟨wr.heap.size, 0, none⟩ 1 1 [.int .i64 (v)] rfl rfl (cell_one_new _ _ _) (by simp [Value.oneCell']) (by unfold maxLen; omega) (by omega) (by simp; omega) ?_; intro v' w7 hown' hgrow _; obtain ⟨g', cap', rfl⟩ := ownsRow_succ hown')
          have hb7 := (Hbl.out.alloc hbls _).grown hgrow (by simp; omega) fun j hj => (own_lt Ho.out hj).1
          have hst7 := own_over (Hst.out.alloc (.cells #[.int .i64 v] 3)) hgrow (fun i hi e => Hap.out i hi e)
          have Hb7 := Lib.hid hb7; clear hb7
          have Hown' := Lib.hid hown'; clear hown'
          have Hst7 := Lib.hid hst7; clear hst7
          clear hgrow
          go_wp2_with fail
          go_roundw
          case measure => simp [intOf]; omega
          case rel =>
            refine ⟨j + 1, by omega, by go_num, ?_, Hst7.out, Hb7.out⟩
            rw [Hts2.out, List.length_append, List.map_append]
            exact Hown'.out
        · obtain rfl : j = m := by omega
          have e1 : ns ++ ((cut 32 x).take j).map num7 = ((cut 10 l).take (k + 1)).flatMap lineNums := by
            rw [Hts.out, List.take_of_length_le (by rw [Hm.out]; exact Nat.le_refl _)]; rfl
          rw [e1] at ho
          have Ho := Lib.hid ho; clear ho
          have Hst := Lib.hid hst; clear hst
          have Hbl := Lib.hid hbl; clear hbl
          have E1 := Lib.hid e1; clear e1
          go_wp2_with fail
          go_roundw
          case measure => simp [intOf]; omega
          case rel => exact ⟨k + 1, by omega, by go_num, Ho.out, Hbl.out⟩
    · obtain rfl : n = k + 1 := by omega
      have e1 : ((cut 10 l).take k).flatMap lineNums = specNums l := by
        unfold specNums
        rw [List.dropLast_eq_take, Hn.out]; rfl
      rw [e1] at hown hnl
      clear e1
      have hrd : readSky l = if l ≠ [] ∧ skyStr (specNums l) = l then some (specNums l) else none := rfl
      generalize specNums l = ns at *
      obtain ⟨A3, c3, hv3⟩ := own_form hown
      subst hv3
      have hr3 := Rd.of_own hown
      by_cases hl0 : l = []
      · subst hl0
        have Hrd := Lib.hid (show readSky [] = none by rw [hrd, if_neg (by simp)])
        clear hrd
        have Hown := Lib.hid hown; clear hown
        have Hbel := Lib.hid hbel; clear hbel
        go_wp2_with fail
        go_ret2
        refine ⟨_, by rw [Hrd.out]; rfl, ?_, (Hb1.out.trans (Hbel.out.mono Hb1.out.size)).alloc (Nat.le_trans Hb1.out.size hbs) _⟩
        rw [Hrd.out]
        exact (Row.new wr 3 []).own (base := w.heap.size) (size := 1) (n := 0) (Nat.le_trans Hb1.out.size hbs) rfl (by unfold maxLen; omega)
      · have hli : l.isEmpty = false := by simpa using hl0
        have hnm : ns.length ≤ 1000000000 := by omega
        by_cases hq : skyStr ns = l
        · have Hrd := Lib.hid (show readSky l = some ns by rw [hrd, if_pos ⟨hl0, hq⟩])
          have hqb : (skyStr ns == l) = true := by rw [beq_iff_eq]; exact hq
          clear hrd
          have Hown := Lib.hid hown; clear hown
          have Hbel := Lib.hid hbel; clear hbel
          have Hq := Lib.hid hq; clear hq
          have Hl0 := Lib.hid hl0; clear hl0
          go_wp2_with fail
          refine (sSkyText_any A3 ns.length c3 ns _ rfl hnm hr3).mono ?_
          rintro e w4 ⟨rfl, b4⟩
          have Hown4 := Lib.hid (own_ext Hown.out b4)
          have Hbel4 := Lib.hid (Hbel.out.trans (b4.mono hbs))
          clear b4 hr3
          go_wp2_with fail
          go_ret2
          refine ⟨_, by rw [Hrd.out]; rfl, ?_, Hb1.out.trans (Hbel4.out.mono Hb1.out.size)⟩
          rw [Hrd.out]
          exact own_base Hown4.out Hb1.out.size
        · have Hrd := Lib.hid (show readSky l = none by rw [hrd, if_neg (fun h => hq h.2)])
          have hqb : (skyStr ns == l) = false := by rw [beq_eq_false_iff_ne]; exact hq
          clear hrd
          have Hown := Lib.hid hown; clear hown
          have Hbel := Lib.hid hbel; clear hbel
          have Hq := Lib.hid hq; clear hq
          have Hl0 := Lib.hid hl0; clear hl0
          go_wp2_with fail
          refine (sSkyText_any A3 ns.length c3 ns _ rfl hnm hr3).mono ?_
          rintro e w4 ⟨rfl, b4⟩
          have Hbel4 := Lib.hid (Hbel.out.trans (b4.mono hbs))
          have hbs4 := Hbel4.out.size
          clear b4 hr3
          go_wp2_with fail
          go_ret2
          refine ⟨_, by rw [Hrd.out]; rfl, ?_, (Hb1.out.trans (Hbel4.out.mono Hb1.out.size)).alloc (Nat.le_trans Hb1.out.size hbs4) _⟩
          rw [Hrd.out]
          exact (Row.new w4 3 []).own (base := w.heap.size) (size := 1) (n := 0) (Nat.le_trans Hb1.out.size hbs4) rfl (by unfold maxLen; omega)
end Go.Proofs.YtbadeopjfmafcaaDoor
