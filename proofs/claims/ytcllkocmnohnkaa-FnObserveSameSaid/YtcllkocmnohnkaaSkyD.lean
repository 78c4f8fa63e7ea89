/- 'impl.SkyShift'. -/
import Derived.Test.YtcllkocmnohnkaaSkyC
namespace Go.Proofs.Ytcllkocmnohnkaa
open Go.RowKit

theorem isSide_yes (x : Int) (w : World) (h : 0 ≤ x ∧ x < 4) : Calls Try.prog 149 #[.int .i64 x] w fun e w' => e = .returned (.bool true) ∧ w = w' := by
  obtain ⟨h0, h1⟩ := h
  go_enter Try.func149, Try.ntmps149
  go_wp2_with fail
  go_ret
  exact ⟨rfl, rfl⟩
theorem skyShift_yes (A : Option Addr) (ca : Nat) (s : List Int) (d : Nat) (a b : Int) (w : World) (hv : skyV s = true) (hd : d < 16) (ha : (d : Int) % 4 = a) (hb : (d : Int) / 4 = b) (hr : Rd w w.heap.size A (s.map (Value.int .i64))) :
    Calls Try.prog 66 #[.slice A 16 ca, .int .i64 a, .int .i64 b] w fun e w' => e = .returned (.tuple #[.slice (some ⟨w.heap.size, 0, none⟩) 16 16, .bool true]) ∧ Row w' w.heap.size 3 ((shL s d).map (Value.int .i64)) ∧ Below w.heap.size w w' := by
  have hl := skyV_len hv
  have hs := shifted_any A ca s d w hl hd hr
  rw [ha, hb] at hs
  have ha4 : 0 ≤ a ∧ a < 4 := by omega
  have hb4 : 0 ≤ b ∧ b < 4 := by omega
  have Hl := Lib.hid hl; clear hl
  have Hv := Lib.hid hv; clear hv
  clear ha hb
  go_enter Try.func66, Try.ntmps66
  go_wp2_with fail
  refine (skyValid_any A 16 ca s _ Hl.out (by omega) hr).mono ?_
  rintro e w' ⟨rfl, rfl⟩
  rw [Hv.out]
  go_wp2_with fail
  refine (isSide_yes a _ ha4).mono ?_
  rintro e w' ⟨rfl, rfl⟩
  go_wp2_with fail
  refine (isSide_yes b _ hb4).mono ?_
  rintro e w' ⟨rfl, rfl⟩
  go_wp2_with fail
  refine (hs).mono ?_
  rintro e w1 ⟨rfl, r1, b1⟩
  go_wp2_with fail
  refine bodyPost_ret (v := .tuple #[.slice (some ⟨w.heap.size, 0, none⟩) 16 16, .bool true]) (by simp [results, Try.results66, go_sem]) rfl ⟨rfl, r1, b1⟩
theorem addR_some {a b : List Int} {m : Int} (h : (addR a b m).isSome = true) : skyV (addS a b m) = true ∧ addR a b m = some (addS a b m) := by
  unfold addR at h ⊢
  split at h
  · rename_i hc
    exact ⟨hc.2.2.2, by rw [if_pos hc]⟩
  · cases h
theorem addR_mk {a b : List Int} {m : Int} (h1 : skyV a = true) (h2 : skyV b = true) (hm : -100000 ≤ m ∧ m ≤ 100000) (h3 : skyV (addS a b m) = true) : addR a b m = some (addS a b m) := by
  unfold addR
  rw [if_pos ⟨by rw [h1, h2]; rfl, hm.1, hm.2, h3⟩]
theorem addR_len (a b : List Int) (m : Int) : ((addR a b m).getD []).length ≤ 16 := by unfold addR; split <;> simp [addS_len]
theorem skyV_sh {s : List Int} (h : skyV s = true) (d : Nat) : skyV (shL s d) = true :=
  skyV_of (shL_len _ _) fun k hk => by rw [shL_get _ _ _ hk]; exact iLe_sky h _
theorem addR_none {a b : List Int} {m : Int} (h : (addR a b m).isSome = false) : (addR a b m).getD [] = [] := by
  cases hc : addR a b m with
  | none => rfl
  | some x => rw [hc] at h; cases h
end Go.Proofs.Ytcllkocmnohnkaa
