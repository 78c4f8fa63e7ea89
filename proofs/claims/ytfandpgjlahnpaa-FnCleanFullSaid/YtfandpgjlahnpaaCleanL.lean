/- 'slices.Clone', 'slices.Max', 'slices.Index' on numbers. -/
import Derived.Test.YtfandpgjlahnpaaA5
import Derived.WalkSpells
namespace Go.Proofs.Ytfandpgjlahnpaa
open Go.RowKit

theorem rd_some {w : World} {B : Nat} {A : Option Addr} {xs : List Value} (h : Rd w B A xs) (hx : 0 < xs.length) : ∃ b o, A = some ⟨b, o, none⟩ ∧ b < B := by
  obtain ⟨b, o, e, hb, _⟩ := h 0 xs[0] (List.getElem?_eq_getElem hx)
  exact ⟨b, o, e, hb⟩
theorem rd_cells {w : World} {B b o : Nat} {xs : List Value} (h : Rd w B (some ⟨b, o, none⟩) xs) (i : Nat) (u : Value) (hu : xs[i]? = some u) : w.cell? ⟨b, o + i, none⟩ = some u := by
  obtain ⟨_, _, e, _, hc⟩ := h i u hu
  cases e
  exact hc

theorem ints_at' {l : List Int} {c : Nat} (h : c < l.length) : (l.map (Value.int .i64))[c]? = some (.int .i64 (l.getD c 0)) := by
  simp [List.getD, h]
set_option maxHeartbeats 1000000 in
theorem clone_any (A : Option Addr) (n cap : Nat) (s : List Int) (w : World) (hn : s.length = n) (h0 : 0 < n) (h1 : n ≤ 1000) (hr : Rd w w.heap.size A (s.map (Value.int .i64))) :
    Calls Try.prog 88 #[.slice A n cap] w fun e w' => ∃ v, e = .returned v ∧ w'.ownsRow w.heap.size 3 1 v n (s.map (Value.int .i64)) ∧ Below w.heap.size w w' := by
  obtain ⟨i0, hi, hz0, hz1, hz2⟩ := info_parts intInfo
  obtain ⟨b, o, rfl, hb⟩ := rd_some hr (by rw [List.length_map]; omega)
  have hnil := fun (w : World) => Lib.run_eql_slice_nil (P := Try.prog) w 25 3 (some ⟨b, o, none⟩) n cap 0 0 Try.underlying25
  have r0 := Row.new w 3 []
  have o2 := r0.own (base := w.heap.size) (n := 0) (size := 1) (Nat.le_refl _) rfl (by decide)
  have hr1 := hr.ext (bA1 (o := .cells #[] 3))
  have hcs : ∀ j u, (s.map (Value.int .i64))[j]? = some u → (w.alloc (.cells #[] 3)).cell? ((⟨b, o, none⟩ : Addr).add j) = some u := fun j u hu => by
    have := rd_cells hr1 j u hu
    by_cases h0 : j = 0
    · subst h0; simpa [Addr.add] using this
    · simpa [Addr.add, h0] using this
  have hll : (s.map (Value.int .i64)).length = n * 1 := by rw [List.length_map, hn, Nat.mul_one]
  have hone : ∀ u ∈ s.map (Value.int .i64), u.oneCell' = true := fun u hu => by
    obtain ⟨x, _, rfl⟩ := List.mem_map.1 hu
    rfl
  have Hn := Lib.hid hn; clear hn
  clear r0 hr1 hr
  go_enter Try.func88, Try.ntmps88
  go_wp2_with (at_builtin; refine wpList_append_own _ rfl _ _ 25 rfl w.heap.size 3 i0 (.int .i64 0) 1 8 (by kernel_rfl) hi hz0 hz1 hz2 rfl (by decide) _ 0 _ rfl o2 ⟨b, o, none⟩ n cap _ rfl hll hcs hone (by unfold maxLen; omega) (by omega) (by simp) ?_; intro v' w7 hown' hgrow _)
  have hb7 := (bA1 (w := w) (o := .cells #[] 3)).grown hgrow (by simp) fun j hj => (own_lt o2 hj).1
  rw [Nat.zero_add, List.nil_append] at hown'
  have Hown := Lib.hid hown'
  clear hown' hgrow hnil
  go_wp2_with fail
  go_ret
  exact ⟨_, rfl, Hown.out, hb7⟩

theorem maxL_take (l : List Int) (k : Nat) (hk : k < l.length) (h0 : 0 < k) : maxL (l.take (k + 1)) = max (maxL (l.take k)) (l.getD k 0) := by
  unfold maxL
  rw [List.take_succ_eq_append_getElem hk, List.foldl_append]
  have e : (l.take k ++ [l[k]]).getD 0 0 = (l.take k).getD 0 0 := by
    rw [List.getD_eq_getElem?_getD, List.getElem?_append_left (by rw [List.length_take]; omega), List.getD_eq_getElem?_getD]
  rw [e, List.getD_eq_getElem?_getD (l := l), List.getElem?_eq_getElem hk]
  rfl
theorem maxL_one (l : List Int) (h : 0 < l.length) : maxL (l.take 1) = l.getD 0 0 := by
  cases l with
  | nil => simp at h
  | cons x l => simp [maxL]
set_option maxHeartbeats 1000000 in
theorem slicesMax_any (A : Option Addr) (n cap : Nat) (s : List Int) (w : World) (hn : s.length = n) (h0 : 0 < n) (h1 : n ≤ 1000) (hr : Rd w w.heap.size A (s.map (Value.int .i64))) :
    Calls Try.prog 92 #[.slice A n cap] w fun e w' => e = .returned (.int .i64 (maxL s)) ∧ w = w' := by
  obtain ⟨b, o, rfl, hb⟩ := rd_some hr (by rw [List.length_map]; omega)
  have hc : ∀ k, k < n → w.cell? ⟨b, o + k, none⟩ = some (.int .i64 (s.getD k 0)) := fun k hk => rd_cells hr k _ (ints_at' (by omega))
  have c0 := hc 0 h0
  rw [Nat.add_zero] at c0
  have hm1 := maxL_one s (by omega)
  have hM : maxL s = maxL (s.take n) := by rw [List.take_of_length_le (by omega)]
  have HC := Lib.hid hc
  rw [hM]
  have Hn := Lib.hid hn; clear hn
  have Hm1 := Lib.hid hm1; clear hm1
  have HM := Lib.hid hM; clear hM
  clear hc hr
  go_enter Try.func92, Try.ntmps92
  go_wp2_with fail
  go_loop [3, 4] (fun m i => ∃ k : Nat, 0 < k ∧ k ≤ n ∧ i = .int .i64 k ∧ m = .int .i64 (maxL (s.take k))) (fun _ i => n - (intOf i).toNat)
  case atStart => exact ⟨1, by omega, by omega, rfl, by rw [Hm1.out]; rfl⟩
  case round =>
    obtain ⟨k, hk0, hk, rfl, rfl⟩ := hrel
    by_cases hlt : k < n
    · have hck := HC.out k hlt
      have hmt := maxL_take s k (by rw [Hn.out]; exact hlt) hk0
      generalize s.getD k 0 = x at *
      have Hmt := Lib.hid hmt; clear hmt
      clear c0
      go_wp2_with fail
      go_round
      case rel => exact ⟨k + 1, by omega, by omega, by go_num, by rw [Hmt.out, Int.max_def]; congr 1; split <;> split <;> omega⟩
      case measure => simp [intOf]; omega
    · obtain rfl : k = n := by omega
      go_wp2_with fail
      go_ret
      exact ⟨rfl, rfl⟩
set_option maxHeartbeats 1000000 in
theorem slicesIndex_any (A : Option Addr) (n cap : Nat) (s : List Int) (x : Int) (w : World) (hn : s.length = n) (h0 : 0 < n) (h1 : n ≤ 1000) (hx : x ∈ s) (hr : Rd w w.heap.size A (s.map (Value.int .i64))) :
    Calls Try.prog 93 #[.slice A n cap, .int .i64 x] w fun e w' => e = .returned (.int .i64 (s.idxOf x : Nat)) ∧ w = w' := by
  obtain ⟨b, o, rfl, hb⟩ := rd_some hr (by rw [List.length_map]; omega)
  have hc : ∀ k, k < n → w.cell? ⟨b, o + k, none⟩ = some (.int .i64 (s.getD k 0)) := fun k hk => rd_cells hr k _ (ints_at' (by omega))
  have hil := List.idxOf_lt_length_iff.2 hx
  have hiv : s.getD (s.idxOf x) 0 = x := by
    rw [List.getD_eq_getElem?_getD, List.getElem?_eq_getElem hil]
    exact List.getElem_idxOf hil
  have hbefore : ∀ k, k < s.idxOf x → s.getD k 0 ≠ x := fun k hk e => by
    have hkl : k < s.length := by omega
    rw [List.getD_eq_getElem?_getD, List.getElem?_eq_getElem hkl] at e
    have := List.not_of_lt_findIdx (p := (· == x)) hk
    simp at e
    simp [e] at this
  rw [hn] at hil
  generalize s.idxOf x = p at *
  have HC := Lib.hid hc
  have Hn := Lib.hid hn; clear hn
  have Hiv := Lib.hid hiv; clear hiv
  have Hbefore := Lib.hid hbefore; clear hbefore
  clear hc hr hx
  go_enter Try.func93, Try.ntmps93
  go_wp2_with fail
  go_loop [8] (fun i => ∃ k : Nat, k ≤ p ∧ i = .int .i64 k) (fun i => n - (intOf i).toNat)
  case atStart => exact ⟨0, by omega, rfl⟩
  case round =>
    obtain ⟨k, hk, rfl⟩ := hrel
    have hlt : k < n := by omega
    have hck := HC.out k hlt
    by_cases hkp : k = p
    · subst hkp
      rw [Hiv.out] at hck
      have hbe : (x == x) = true := by simp
      go_wp2_with fail
      go_ret
      exact ⟨rfl, rfl⟩
    · have hne := Hbefore.out k (by omega)
      generalize s.getD k 0 = y at *
      have hbe : (x == y) = false := beq_eq_false_iff_ne.2 fun e => hne e.symm
      clear hne
      go_wp2_with fail
      go_round
      case rel => exact ⟨k + 1, by omega, by go_num⟩
      case measure => simp [intOf]; omega
end Go.Proofs.Ytfandpgjlahnpaa
