/- The draws' reader: l6Open and pick. -/
import Derived.Test.YtbadeopjfmafcaaDoorA3
namespace Go.Proofs.YtbadeopjfmafcaaDoor
open Go.RowKit

theorem xor_nonneg (a b : Int) (ha : 0 ≤ a ∧ a < 1073741824) (hb : 0 ≤ b ∧ b < 1073741824) : 0 ≤ bits BinOp.xor IntKind.i64 a b := by
  show 0 ≤ IntKind.i64.wrap ((BitVec.ofInt 64 a ^^^ BitVec.ofInt 64 b).toNat : Int)
  have h : (BitVec.ofInt 64 a ^^^ BitVec.ofInt 64 b).toNat < 2 ^ 30 := by
    rw [BitVec.toNat_xor, BitVec.toNat_ofInt, BitVec.toNat_ofInt]
    exact Nat.xor_lt_two_pow (by omega) (by omega)
  rw [IntKind.wrap_i64]
  omega

set_option maxRecDepth 100000 in
set_option maxHeartbeats 2000000 in
theorem pick_any (R : Nat) (A : Option Addr) (n cap : Nat) (bs : List Int) (p m : Int) (w : World) (hn : bs.length = n) (hn2 : n ≤ 2000) (hp : 0 ≤ p ∧ p ≤ 1000000) (hm : 1 ≤ m ∧ m ≤ 1000000) (hbs : BytesOk bs)
    (hR : Row w R 98 [.slice A n cap, .int .i64 p]) (hr : Rd w R A (bs.map (Value.int .u8))) :
    Calls Tryd.prog 61 #[.pointer (some ⟨R, 0, none⟩), .int .i64 m] w fun e w' =>
      ∃ x : Int, e = .returned (.int .i64 x) ∧ 0 ≤ x ∧ x < m ∧ ∃ k, w' = (w.setCell ⟨R, 1, none⟩ (.int .i64 (p + 1))).drewN k := by
  have Hn := Lib.hid hn; clear hn
  have Hbs := Lib.hid hbs; clear hbs
  have c0 : w.cell? ⟨R, 0, none⟩ = some (.slice A n cap) := hR.cell 0
  have c1 : w.cell? ⟨R, 1, none⟩ = some (.int .i64 p) := hR.cell 1
  have z1 := hR.frozen 1
  have hm1 : ¬ m < 1 := by omega
  by_cases h0 : n = 0
  · subst h0
    go_enter Tryd.func61, Tryd.ntmps61
    go_wp2_with fail
    go_ret
    exact ⟨0, rfl, by omega, by omega, 0, rfl⟩
  · by_cases hpn : p < n
    · obtain ⟨k, rfl⟩ : ∃ k : Nat, p = k := ⟨p.toNat, by omega⟩
      obtain ⟨x, hx⟩ : ∃ x, bs[k]? = some x := ⟨_, List.getElem?_eq_getElem (by rw [Hn.out]; omega)⟩
      obtain ⟨b, off, rfl, hb, hc⟩ := hr k (.int .u8 x) (by rw [List.getElem?_map, hx]; rfl)
      have hxb := Hbs.out x (List.mem_of_getElem? hx)
      go_enter Tryd.func61, Tryd.ntmps61
      go_wp2_with fail
      go_ret
      exact ⟨x % m, rfl, Int.emod_nonneg _ (by omega), Int.emod_lt_of_pos _ (by omega), 0, rfl⟩
    · obtain ⟨k, rfl⟩ : ∃ k : Nat, p = k := ⟨p.toNat, by omega⟩
      have hk1 : k % n < n := Nat.mod_lt _ (by omega)
      have hk2 : (k * 7 + 3) % n < n := Nat.mod_lt _ (by omega)
      obtain ⟨x, hx⟩ : ∃ x, bs[k % n]? = some x := ⟨_, List.getElem?_eq_getElem (by rw [Hn.out]; exact hk1)⟩
      obtain ⟨y, hy⟩ : ∃ y, bs[(k * 7 + 3) % n]? = some y := ⟨_, List.getElem?_eq_getElem (by rw [Hn.out]; exact hk2)⟩
      obtain ⟨b, off, rfl, hb, hc⟩ := hr _ (.int .u8 x) (by rw [List.getElem?_map, hx]; rfl)
      obtain ⟨_, _, e2, _, hc'⟩ := hr _ (.int .u8 y) (by rw [List.getElem?_map, hy]; rfl)
      cases e2
      have hxb := Hbs.out x (List.mem_of_getElem? hx)
      have hyb := Hbs.out y (List.mem_of_getElem? hy)
      have Hx := Lib.hid hx; clear hx
      have Hy := Lib.hid hy; clear hy
      obtain ⟨q, hq⟩ : ∃ q : Nat, k / n = q := ⟨_, rfl⟩
      have hq2 : q ≤ 1000000 := by rw [← hq]; exact Nat.le_trans (Nat.div_le_self _ _) (by omega)
      obtain ⟨i, hi⟩ : ∃ i : Nat, k % n = i := ⟨_, rfl⟩
      obtain ⟨j, hj⟩ : ∃ j : Nat, (k * 7 + 3) % n = j := ⟨_, rfl⟩
      rw [hi] at hk1 hc
      rw [hj] at hk2 hc'
      have e1 : (k : Int) % (n : Int) = (i : Int) := by rw [← hi]; exact (Int.natCast_emod k n).symm
      have e2 : ((k : Int) * 7 + 3) % (n : Int) = (j : Int) := by rw [← hj]; exact_mod_cast (Int.natCast_emod (k * 7 + 3) n).symm
      have e3 : (k : Int) / (n : Int) = (q : Int) := by rw [← hq]; exact (Int.natCast_ediv k n).symm
      clear hi hj hq
      go_enter Tryd.func61, Tryd.ntmps61
      go_wp2_with fail
      go_quiet (fail)
      have ht : 0 ≤ x * 131 + y * 1117 + (k : Int) * 29 + (q : Int) * 53 ∧ x * 131 + y * 1117 + (k : Int) * 29 + (q : Int) * 53 ≤ 1000000000 := by omega
      generalize x * 131 + y * 1117 + (k : Int) * 29 + (q : Int) * 53 = t at ht ⊢
      obtain ⟨ht1, ht2⟩ := ht
      have ht3 : 0 ≤ t / 64 ∧ t / 64 ≤ 1000000000 := by omega
      clear e1 e2 e3 hc hc'
      go_wp2_with fail
      go_ret
      exact ⟨_, rfl, Int.tmod_nonneg _ (xor_nonneg t (t / 64) (by omega) (by omega)), Int.tmod_lt_of_pos _ (by omega), _, rfl⟩

theorem l6Open_any (A : Option Addr) (n cap : Nat) (bs : List Int) (w : World) (hn : bs.length = n) (hm : n ≤ 9223372036854775807) (hc : n ≤ cap) (hr : Rd w w.heap.size A (bs.map (Value.int .u8))) :
    Calls Tryd.prog 46 #[.slice A n cap] w fun e w' => e = .returned (.pointer (some ⟨w.heap.size, 0, none⟩)) ∧ Row w' w.heap.size 98 [.slice A (min 2000 n) cap, .int .i64 0] ∧ Below w.heap.size w w' := by
  have Hn := Lib.hid hn; clear hn
  by_cases h : 2000 < n
  · have h' : (2000 : Int) < (n : Int) := by omega
    have hne : A ≠ none := by
      rintro rfl
      obtain ⟨x, hx⟩ : ∃ x, bs[0]? = some x := ⟨_, List.getElem?_eq_getElem (by rw [Hn.out]; omega)⟩
      obtain ⟨b, off, e, _⟩ := hr 0 (.int .u8 x) (by rw [List.getElem?_map, hx]; rfl)
      cases e
    obtain ⟨a, rfl⟩ := Option.ne_none_iff_exists'.1 hne
    go_enter Tryd.func46, Tryd.ntmps46
    go_wp2_with fail
    go_ret
    refine ⟨rfl, ?_, (Below.refl _ _).alloc (Nat.le_refl _) _⟩
    rw [show min 2000 n = 2000 from by omega]
    exact Row.new w _ _
  · have h' : ¬ (2000 : Int) < (n : Int) := by omega
    go_enter Tryd.func46, Tryd.ntmps46
    go_wp2_with fail
    go_ret
    refine ⟨rfl, ?_, (Below.refl _ _).alloc (Nat.le_refl _) _⟩
    rw [show min 2000 n = n from by omega]
    exact Row.new w _ _
end Go.Proofs.YtbadeopjfmafcaaDoor
