/- laws.toBoolS copies, laws.eqBoolS compares. -/
import Derived.Test.YtklhjofhmcaflaaCov
import Derived.Test.YtklhjofhmcaflaaRow
namespace Go.Proofs.Ytklhjofhmcaflaa
open Go.RowKit

/-- A copy of which k elements are done. -/
def part {α : Type} (z : α) (l : List α) (k : Nat) : List α := l.take k ++ List.replicate (l.length - k) z
theorem part_len {α : Type} (z : α) (l : List α) (k : Nat) (h : k ≤ l.length) : (part z l k).length = l.length := by
  simp [part]; omega
theorem part_get {α : Type} (z : α) (l : List α) (k : Nat) (h : k < l.length) : (part z l k)[k]? = some z := by
  unfold part
  rw [List.getElem?_append_right (by simp; omega)]
  simp [List.getElem?_replicate]; omega
theorem part_succ {α : Type} (z : α) (l : List α) (k : Nat) (x : α) (hx : l[k]? = some x) : (part z l k).set k x = part z l (k + 1) := by
  have hk : k < l.length := (List.getElem?_eq_some_iff.1 hx).1
  have hx' : l[k] = x := (List.getElem?_eq_some_iff.1 hx).2
  unfold part
  rw [List.set_append_right _ _ (by simp; omega), List.length_take, Nat.min_eq_left (by omega), Nat.sub_self]
  rw [List.take_succ_eq_append_getElem hk, hx', List.append_assoc]
  congr 1
  rw [show l.length - k = (l.length - (k + 1)) + 1 by omega, List.replicate_succ]
  simp
theorem part_all {α : Type} (z : α) (l : List α) : part z l l.length = l := by simp [part]

theorem toBoolS_any (A : Option Addr) (n cap : Nat) (xs : List Value) (w : World) (hn : xs.length = n) (hb : n ≤ 1048576) (hbool : ∀ u ∈ xs, ∃ b, u = .bool b) (hr : Rd w w.heap.size A xs) :
    Calls Try.prog 16 #[.slice A n cap] w fun e w' => e = .returned (.slice (some ⟨w.heap.size, 0, none⟩) n n) ∧ Row w' w.heap.size 4 xs ∧ Below w.heap.size w w' := by
  have Hn := Lib.hid hn; clear hn
  have hmk := fun W => run_make1 (P := Try.prog) 22 4 (.bool false) 1 Try.underlying22 (by kernel_rfl) rfl n (by omega) (by omega) W
  go_enter Try.func16, Try.ntmps16
  go_wp2_with fail
  go_loopw [4] (fun i wr => ∃ k : Nat, k ≤ n ∧ i = .int .i64 k ∧ Row wr w.heap.size 4 (part (.bool false) xs k) ∧ Below w.heap.size w wr) (fun i _ => n - (intOf i).toNat)
  case atStart =>
    refine ⟨0, by omega, rfl, ?_, (Below.refl _ _).alloc (Nat.le_refl _) _⟩
    have := Row.new w 4 (part (.bool false) xs 0)
    unfold part at this ⊢
    simpa [Hn.out] using this
  case round =>
    obtain ⟨k, hk, rfl, hrow, hbel⟩ := hrel
    have hr' := hr.below hbel
    clear hmk
    have Hbel := Lib.hid hbel; clear hbel
    by_cases hlt : k < n
    · obtain ⟨u, hu⟩ : ∃ u, xs[k]? = some u := ⟨_, List.getElem?_eq_getElem (by rw [Hn.out]; exact hlt)⟩
      obtain ⟨x, rfl⟩ := hbool u (List.mem_of_getElem? hu)
      obtain ⟨b, off, rfl, hb2, hc1⟩ := hr' k _ hu
      have hc2 : wr.cell? ⟨w.heap.size, k, none⟩ = some (.bool false) := by rw [hrow.cell]; exact part_get _ _ _ (by rw [Hn.out]; exact hlt)
      have hf2 := hrow.frozen k
      have Hrow := Lib.hid hrow; clear hrow
      have Hu := Lib.hid hu; clear hu
      go_wp2_with fail
      go_roundw
      case measure => simp [intOf]; omega
      case rel =>
        refine ⟨k + 1, by omega, by go_num, ?_, Hbel.out.setCell (p := ⟨w.heap.size, k, none⟩) (Nat.le_refl _) _⟩
        rw [← part_succ _ _ _ _ Hu.out]
        exact Hrow.out.set_ k _
    · obtain rfl : k = n := by omega
      have Hrow := Lib.hid hrow; clear hrow
      go_wp2_with fail
      go_ret
      refine ⟨rfl, ?_, Hbel.out⟩
      have := Hrow.out
      rw [← Hn.out, part_all] at this
      exact this

/-- Two lists of which the heads agree. -/
theorem eqBoolS_any (A B : Option Addr) (n m capA capB : Nat) (xs ys : List Bool) (w : World) (hn : xs.length = n) (hm : ys.length = m) (hb : n ≤ 1048576)
    (hr : Rd w w.heap.size A (xs.map Value.bool)) (hr2 : Rd w w.heap.size B (ys.map Value.bool)) :
    Calls Try.prog 18 #[.slice A n capA, .slice B m capB] w fun e w' => e = .returned (.bool (decide (xs = ys))) ∧ Below w.heap.size w w' := by
  by_cases hnm : n = m
  · subst hnm
    have Hn := Lib.hid hn; clear hn
    have Hm := Lib.hid hm; clear hm
    go_enter Try.func18, Try.ntmps18
    go_wp2_with fail
    go_loopw [5] (fun i wr => ∃ k : Nat, k ≤ n ∧ i = .int .i64 k ∧ xs.take k = ys.take k ∧ Below w.heap.size w wr) (fun i _ => n - (intOf i).toNat)
    case atStart => exact ⟨0, by omega, rfl, rfl, Below.refl _ _⟩
    case round =>
      obtain ⟨k, hk, rfl, heq, hbel⟩ := hrel
      have hr' := hr.below hbel
      have hr2' := hr2.below hbel
      have Hbel := Lib.hid hbel; clear hbel
      have Heq := Lib.hid heq; clear heq
      by_cases hlt : k < n
      · obtain ⟨x, hx⟩ : ∃ x, xs[k]? = some x := ⟨_, List.getElem?_eq_getElem (by rw [Hn.out]; exact hlt)⟩
        obtain ⟨y, hy⟩ : ∃ y, ys[k]? = some y := ⟨_, List.getElem?_eq_getElem (by rw [Hm.out]; exact hlt)⟩
        obtain ⟨b, off, rfl, hb2, hc1⟩ := hr' k (.bool x) (by simp [hx])
        obtain ⟨b', off', rfl, hb2', hc2⟩ := hr2' k (.bool y) (by simp [hy])
        have Hx := Lib.hid hx; clear hx
        have Hy := Lib.hid hy; clear hy
        go_wp2_with fail
        go_quiet (fail)
        go_wp2_with fail
        · have hxy : (!x == y) = true := by assumption
          go_ret
          refine ⟨ret_bool ?_, below_drewN Hbel.out _⟩
          symm
          rw [decide_eq_false_iff_not]
          rintro rfl
          have := Hx.out.symm.trans Hy.out
          simp at this
          simp [this] at hxy
        · have hxy : (!x == y) = false := by assumption
          go_roundw
          case measure => simp [intOf]; omega
          case rel =>
            refine ⟨k + 1, by omega, by go_num, ?_, below_drewN Hbel.out _⟩
            rw [List.take_add_one, List.take_add_one, Heq.out, Hx.out, Hy.out]
            simp at hxy
            rw [hxy]
      · obtain rfl : k = n := by omega
        go_wp2_with fail
        go_ret
        refine ⟨ret_bool ?_, Hbel.out⟩
        symm
        rw [decide_eq_true_iff]
        have := Heq.out
        rwa [List.take_of_length_le (by rw [Hn.out]; exact Nat.le_refl _), List.take_of_length_le (by rw [Hm.out]; exact Nat.le_refl _)] at this
  · have hb : ((n : Int) != (m : Int)) = true := by rw [bne_iff_ne]; omega
    go_enter Try.func18, Try.ntmps18
    go_wp2_with fail
    go_ret
    refine ⟨ret_bool ?_, Below.refl _ _⟩
    symm
    rw [decide_eq_false_iff_not]
    rintro rfl
    omega
end Go.Proofs.Ytklhjofhmcaflaa
