/- FnBeam returns true at every input, and leaves what was there. -/
import Derived.Test.YtfandpgjlahnpaaBeamS
import Derived.Test.YtfandpgjlahnpaaA3
namespace Go.Proofs.Ytfandpgjlahnpaa
open Go.RowKit

theorem drawBeamOf_any (A : Option Addr) (n cap : Nat) (bs : List Int) (w : World) (hn : bs.length = n) (hm : n ≤ 9223372036854775807) (hc : n ≤ cap) (hb : BytesOk bs) (hr : Rd w w.heap.size A (bs.map (Value.int .u8))) :
    Calls Try.prog 22 #[.slice A n cap] w fun e w' =>
      ∃ (A : Option Addr) (k c : Nat) (cs : List Bool), e = .returned (.slice A k c) ∧ cs.length = k ∧ k ≤ 16 ∧ Rd w' w'.heap.size A (cs.map Value.bool) ∧ Below w.heap.size w w' := by
  go_enter Try.func22, Try.ntmps22
  go_wp2_with fail
  refine (l6Open_any A n cap bs w hn hm hc hr).mono ?_
  rintro e w1 ⟨rfl, hR, hb1⟩
  have hrd := isRd_open hn hb hr hR hb1
  clear hR
  go_wp2_with fail
  refine (l92Cover_any _ 0 _ (by omega) hrd).mono ?_
  rintro e w2 ⟨A2, k, c, cs, p', rfl, hcs, hk, hr2, hp, hrd2, g2⟩
  have B2 : Below w.heap.size w w2 := hb1.grown g2 hb1.size fun j e => by cases e; exact Nat.le_refl _
  go_wp2_with fail
  go_ret
  exact ⟨A2, k, c, cs, rfl, hcs, hk, hr2, B2⟩

theorem lCellAt_any (x y : Int) (w : World) :
    Calls Try.prog 50 #[.int .i64 x, .int .i64 y] w fun e w' => e = .returned (.int .i64 (cellI x y)) ∧ w = w' := by
  go_enter Try.func50, Try.ntmps50
  go_wp2_with (go_at_call 111; refine (lrest4_any _ _).mono ?_; rintro e w' ⟨rfl, rfl⟩)
  go_ret
  exact ⟨rfl, rfl⟩

end Go.Proofs.Ytfandpgjlahnpaa
