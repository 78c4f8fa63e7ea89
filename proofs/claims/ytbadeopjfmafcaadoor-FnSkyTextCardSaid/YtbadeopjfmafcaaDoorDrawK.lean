/- 'spec.DrawSkyText': a drawn list. -/
import Derived.Test.YtbadeopjfmafcaaDoorDrawS
import Derived.Test.YtbadeopjfmafcaaDoorDrawC
namespace Go.Proofs.YtbadeopjfmafcaaDoor
open Go.RowKit

theorem drawSkyText_any (A : Option Addr) (n cap : Nat) (bs : List Int) (w : World) (hn : bs.length = n) (hm : n ≤ 9223372036854775807) (hc : n ≤ cap) (hb : BytesOk bs) (hr : Rd w w.heap.size A (bs.map (Value.int .u8))) :
    Calls Tryd.prog 16 #[.slice A n cap] w fun e w' =>
      ∃ (A : Option Addr) (k c : Nat) (s : List Int), e = .returned (.slice A k c) ∧ s.length = k ∧ k ≤ 16 ∧ Rd w' w'.heap.size A (s.map (Value.int .i64)) ∧ Below w.heap.size w w' := by
  go_enter Tryd.func16, Tryd.ntmps16
  go_wp2_with fail
  refine (l6Open_any A n cap bs w hn hm hc hr).mono ?_
  rintro e w1 ⟨rfl, hR, hb1⟩
  have hrd := isRd_open hn hb hr hR hb1
  clear hR
  go_wp2_with fail
  refine (l92Sky_any _ 0 _ (by omega) hrd).mono ?_
  rintro e w2 ⟨A2, k, c, s, p', rfl, hs, hk, hr2, hp, hrd2, g2⟩
  have B2 : Below w.heap.size w w2 := hb1.grown g2 hb1.size fun j e => by cases e; exact Nat.le_refl _
  go_wp2_with fail
  go_ret
  exact ⟨A2, k, c, s, rfl, hs, by omega, hr2, B2⟩
end Go.Proofs.YtbadeopjfmafcaaDoor
