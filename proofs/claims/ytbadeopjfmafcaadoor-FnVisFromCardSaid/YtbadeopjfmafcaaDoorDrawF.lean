/- 'spec.DrawSkyFrom': a drawn text. -/
import Derived.Test.YtbadeopjfmafcaaDoorDrawS
import Derived.Test.YtbadeopjfmafcaaDoorSkyTx
import Derived.Test.YtbadeopjfmafcaaDoorCut
namespace Go.Proofs.YtbadeopjfmafcaaDoor
open Go.RowKit

theorem of_any (R : Nat) (p : Int) (g n cap : Nat) (ls : List (List UInt8)) (w : World) (hp : 0 ≤ p ∧ p ≤ 1000000) (hl : ls.length = n) (hn : 1 ≤ n ∧ n ≤ 100) (hb : ∀ x ∈ ls, x.length ≤ 100) (h : IsRd w R p)
    (hr : Row w g 9 (strs ls)) (hne : g ≠ R) :
    Calls Tryd.prog 62 #[.pointer (some ⟨R, 0, none⟩), .slice (some ⟨g, 0, none⟩) n cap] w fun e w' =>
      ∃ x : List UInt8, e = .returned (.string ⟨x.toArray⟩) ∧ x.length ≤ 100 ∧ IsRd w' R (p + 1) ∧ w.grownBy w' (some R) := by
  go_enter Tryd.func62, Tryd.ntmps62
  go_wp2_with fail
  refine (pick2 R p n _ hp (by omega) h).mono ?_
  rintro e w1 ⟨x, rfl, x0, xn, hrd, g1⟩
  obtain ⟨k, rfl⟩ : ∃ k : Nat, x = k := ⟨x.toNat, by omega⟩
  have hk : k < n := by omega
  have hc : w1.cell? ⟨g, k, none⟩ = some (.string ⟨(ls.getD k []).toArray⟩) := by rw [(hr.grown g1 (by simpa using hne)).cell]; exact strs_get (by omega)
  have hx := hb _ (getD_mem (d := []) (show k < ls.length by omega))
  generalize ls.getD k [] = y at *
  have G := Lib.hid g1
  clear g1 hb hr
  go_wp2_with fail
  go_ret
  exact ⟨y, rfl, hx, hrd, G.out⟩

theorem skyStr_len (s : List Int) : (skyStr s).length ≤ 352 := by
  cases hv : skyV s
  · rw [skyStr_no hv]; simp
  · rw [skyStr_yes hv]
    exact skyB_len (fun x hx => by have := (skyV_iff.1 hv).2 x hx; omega) 16

set_option maxRecDepth 100000 in
theorem drawSkyFrom_any (A : Option Addr) (n cap : Nat) (bs : List Int) (w : World) (hn : bs.length = n) (hm : n ≤ 9223372036854775807) (hc : n ≤ cap) (hb : BytesOk bs) (hr : Rd w w.heap.size A (bs.map (Value.int .u8))) :
    Calls Tryd.prog 29 #[.slice A n cap] w fun e w' =>
      ∃ l : List UInt8, e = .returned (.string ⟨l.toArray⟩) ∧ l.length ≤ 1000 ∧ Below w.heap.size w w' := by
  go_enter Tryd.func29, Tryd.ntmps29
  go_wp2_with fail
  refine (l6Open_any A n cap bs w hn hm hc hr).mono ?_
  rintro e w1 ⟨rfl, hR, hb1⟩
  have hrd := isRd_open hn hb hr hR hb1
  clear hR
  obtain ⟨R, hRR⟩ : ∃ R, w.heap.size = R := ⟨_, rfl⟩
  rw [hRR] at hrd hb1 ⊢
  have HR := Lib.hid hRR; clear hRR
  go_wp2_with fail
  refine (l92Sky_any _ 0 _ (by omega) hrd).mono ?_
  rintro e w2 ⟨A2, k, c, s, p', rfl, hs, hk, hr2, hp, hrd2, g2⟩
  have B2 : Below R w w2 := hb1.grown g2 (by rw [← HR.out]; exact hb1.size) fun j e => by cases e; exact Nat.le_refl _
  have hsz2 : R < w2.heap.size := hrd2.lt
  have Hs := Lib.hid hs; clear hs
  clear g2 hrd hb1
  go_wp2_with fail
  refine (sSkyText_any A2 k c s _ Hs.out (by omega) hr2).mono ?_
  rintro e w3 ⟨rfl, b3⟩
  have hrd3 := hrd2.kept b3
  have B3 : Below R w w3 := B2.trans (b3.mono (Nat.le_of_lt hsz2))
  have hl := skyStr_len s
  generalize skyStr s = l at *
  clear b3 hr2 hrd2
  have hsz3 : R < w3.heap.size := hrd3.lt
  go_wp2_with fail
  refine (pick2 R p' 8 _ (by omega) (by omega) hrd3).mono ?_
  rintro e w4 ⟨x, rfl, x0, x8, hrd4, g4⟩
  have B4 : Below R w w4 := B3.grown g4 (Nat.le_of_lt hsz3) fun j e => by cases e; exact Nat.le_refl _
  have hsz4 : R < w4.heap.size := hrd4.lt
  clear g4 hrd3
  have hidX := Lib.hid B2; clear B2; have B2 := hidX; clear hidX
  have hidX := Lib.hid B3; clear B3; have B3 := hidX; clear hidX
  by_cases h0 : x = 0
  · subst h0
    go_wp2_with fail
    refine (of_any R (p' + 1) w4.heap.size 4 4 [[], [48, 32, 48, 32, 48, 32, 48, 10], [45, 48, 32, 48, 32, 48, 32, 48, 10, 48, 32, 48, 32, 48, 32, 48, 10, 48, 32, 48, 32, 48, 32, 48, 10, 48, 32, 48, 32, 48, 32, 48, 10], [48, 32, 48, 32, 48, 32, 48, 32, 10, 48, 32, 48, 32, 48, 32, 48, 10, 48, 32, 48, 32, 48, 32, 48, 10, 48, 32, 48, 32, 48, 32, 48, 10]] _ (by omega) rfl (by omega) (by decide) (hrd4.kept bA1) (Row.new w4 _ _) (by omega)).mono ?_
    rintro e w5 ⟨x, rfl, hx, hrd5, g5⟩
    have B5 : Below R w w5 := (B4.alloc (Nat.le_of_lt hsz4) _).grown g5 (by simp; omega) fun j e => by cases e; exact Nat.le_refl _
    have hidX := Lib.hid B4; clear B4; have B4 := hidX; clear hidX
    clear g5
    go_wp2_with fail
    go_ret
    exact ⟨x, rfl, by omega, by rw [HR.out]; exact B5⟩
  · have h0i : (x == 0) = false := by rw [beq_eq_false_iff_ne]; exact h0
    by_cases h1 : x = 1
    · subst h1
      go_wp2_with fail
      refine (of_any R (p' + 1) w4.heap.size 3 3 [[48], [10], [32]] _ (by omega) rfl (by omega) (by decide) (hrd4.kept bA1) (Row.new w4 _ _) (by omega)).mono ?_
      rintro e w5 ⟨x, rfl, hx, hrd5, g5⟩
      have B5 : Below R w w5 := (B4.alloc (Nat.le_of_lt hsz4) _).grown g5 (by simp; omega) fun j e => by cases e; exact Nat.le_refl _
      have hlim : ¬ 9223372036854775807 < l.length + x.length := by omega
      have hidX := Lib.hid B4; clear B4; have B4 := hidX; clear hidX
      clear g5
      go_wp2_with fail
      go_ret
      exact ⟨l ++ x, by rw [← str_app]; rfl, by rw [List.length_append]; omega, by rw [HR.out]; exact B5⟩
    · have h1i : (x == 1) = false := by rw [beq_eq_false_iff_ne]; exact h1
      clear h0 h1
      go_wp2_with fail
      go_ret
      exact ⟨l, rfl, by omega, by rw [HR.out]; exact B4⟩
end Go.Proofs.YtbadeopjfmafcaaDoor
