/- 'impl.SkyShift'. -/
import Derived.Test.YtcllkocmnohnkaaSkyC
namespace Go.Proofs.Ytcllkocmnohnkaa
open Go.RowKit

theorem isSide_yes (x : Int) (w : World) (h : 0 ≤ x ∧ x < 4) : Calls Try.prog 149 #[.int .i64 x] w fun e w' => e = .returned (.bool true) ∧ w = w' := by
  obtain ⟨h0, h1⟩ := h
  go_enter Try.func149, Try.ntmps149
  go_wp2_with fail
  go_ret
  exact ⟨rfl, rfl⟩
theorem skyShift_yes (A : Option Addr) (ca : Nat) (s : List Int) (d : Nat) (a b : Int) (w : World) (hv : skyV s = true) (hd : d < 16) (ha : (d : Int) % 4 = a) (hb : (d : Int) / 4 = b) (hr : Rd w w.heap.size A (s.map (Value.int .i64))) :
    Calls Try.prog 66 #[.slice A 16 ca, .int .i64 a, .int .i64 b] w fun e w' => e = .returned (.tuple #[.slice (some ⟨w.heap.size, 0, none⟩) 16 16, .bool true]) ∧ Row w' w.heap.size 3 ((shL s d).map (Value.int .i64)) ∧ Below w.heap.size w w' := by
  have hl := skyV_len hv
  have hs := shifted_any A ca s d w hl hd hr
  rw [ha, hb] at hs
  have ha4 : 0 ≤ a ∧ a < 4 := by omega
  have hb4 : 0 ≤ b ∧ b < 4 := by omega
  have Hl := Lib.hid hl; clear hl
  have Hv := Lib.hid hv; clear hv
  clear ha hb
  go_enter Try.func66, Try.ntmps66
  go_wp2_with fail
  refine (skyValid_any A 16 ca s _ Hl.out (by omega) hr).mono ?_
  rintro e w' ⟨rfl, rfl⟩
  rw [Hv.out]
  go_wp2_with fail
  refine (isSide_yes a _ ha4).mono ?_
  rintro e w' ⟨rfl, rfl⟩
  go_wp2_with fail
  refine (isSide_yes b _ hb4).mono ?_
  rintro e w' ⟨rfl, rfl⟩
  go_wp2_with fail
  refine (hs).mono ?_
  rintro e w1 ⟨rfl, r1, b1⟩
  go_wp2_with fail
  refine bodyPost_ret (v := .tuple #[.slice (some ⟨w.heap.size, 0, none⟩) 16 16, .bool true]) (by simp [results, Try.results66, go_sem]) rfl ⟨rfl, r1, b1⟩
end Go.Proofs.Ytcllkocmnohnkaa
