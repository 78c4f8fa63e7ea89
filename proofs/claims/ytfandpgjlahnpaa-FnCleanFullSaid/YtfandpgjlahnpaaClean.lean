/- The first functions of cleanings. -/
import Derived.Test.YtfandpgjlahnpaaCleanL
import Derived.Test.YtfandpgjlahnpaaSkyB
import Derived.Test.YtfandpgjlahnpaaDirty
import Derived.Test.YtfandpgjlahnpaaTree
namespace Go.Proofs.Ytfandpgjlahnpaa
open Go.RowKit

set_option maxHeartbeats 1000000 in
theorem cleanValid_any (A B : Option Addr) (ca cb : Nat) (M L : List Int) (w : World) (hM : M.length = 16) (hL : L.length = 16) (hr : Rd w w.heap.size A (M.map (Value.int .i64))) (hr2 : Rd w w.heap.size B (L.map (Value.int .i64))) :
    Calls Try.prog 89 #[.agg #[.slice A 16 ca, .slice B 16 cb]] w fun e w' => e = .returned (.bool (skyV M && skyV L)) ∧ Below w.heap.size w w' := by
  have rB := Row.new w 44 [.slice A 16 ca, .slice B 16 cb]
  have hr1 := hr.ext (bA1 (o := .cells #[.slice A 16 ca, .slice B 16 cb] 44))
  have hr3 := hr2.ext (bA1 (o := .cells #[.slice A 16 ca, .slice B 16 cb] 44))
  obtain ⟨c0, c1, _, _⟩ := rB.two
  cases h1 : skyV M
  · have HM := Lib.hid hM; clear hM
    have HL := Lib.hid hL; clear hL
    have H1 := Lib.hid h1; clear h1
    go_enter Try.func89, Try.ntmps89
    go_wp2_with fail
    refine (skyValid_any A 16 ca M _ HM.out (by omega) hr1).mono ?_
    rintro e w1 ⟨rfl, rfl⟩
    rw [H1.out]
    go_wp2_with fail
    go_ret
    exact ⟨rfl, bA1⟩
  · cases h2 : skyV L
    all_goals
      have HM := Lib.hid hM; clear hM
      have HL := Lib.hid hL; clear hL
      have H1 := Lib.hid h1; clear h1
      have H2 := Lib.hid h2; clear h2
      go_enter Try.func89, Try.ntmps89
      go_wp2_with fail
      refine (skyValid_any A 16 ca M _ HM.out (by omega) hr1).mono ?_
      rintro e w1 ⟨rfl, rfl⟩
      rw [H1.out]
      go_wp2_with fail
      refine (skyValid_any B 16 cb L _ HL.out (by omega) hr3).mono ?_
      rintro e w1 ⟨rfl, rfl⟩
      rw [H2.out]
      go_wp2_with fail
      go_ret
      exact ⟨rfl, bA1⟩

set_option maxHeartbeats 1000000 in
theorem cleanNew_yes (A : Option Addr) (ca : Nat) (s : List Int) (w : World) (hv : skyV s = true) (hr : Rd w w.heap.size A (s.map (Value.int .i64))) :
    Calls Try.prog 27 #[.slice A 16 ca] w fun e w' => ∃ G v, e = .returned (.tuple #[.agg #[.slice (some ⟨G, 0, none⟩) 16 16, v], .bool true]) ∧ w.heap.size ≤ G ∧ Row w' G 3 (zeros16.map (Value.int .i64)) ∧ w'.ownsRow w.heap.size 3 1 v 16 (s.map (Value.int .i64)) ∧ Below w.heap.size w w' := by
  obtain ⟨Z, hZ⟩ : ∃ Z, List.replicate 16 (Value.int .i64 0) = Z := ⟨_, rfl⟩
  have hmk : ∀ W : World, (Instr.makeSlice 25 (.int .i64 16) (.int .i64 16)).run Try.prog W = .ok (.slice (some ⟨W.heap.size, 0, none⟩) 16 16) (W.alloc (.cells Z.toArray 3)) := fun W => by
    rw [← hZ]; exact run_make1 (P := Try.prog) 25 3 (.int .i64 0) 8 Try.underlying25 (by kernel_rfl) rfl 16 (by omega) (by omega) W
  have hz2 : Z = zeros16.map (Value.int .i64) := by rw [← hZ]; unfold zeros16; rw [List.map_replicate]
  have hl := skyV_len hv
  have Hz2 := Lib.hid hz2
  clear hZ hz2
  have Hv := Lib.hid hv; clear hv
  have Hl := Lib.hid hl; clear hl
  go_enter Try.func27, Try.ntmps27
  go_wp2_with fail
  have e0 := Row.new w 44 [.slice none 0 0, .slice none 0 0]
  have b0 := bA1 (w := w) (o := .cells #[.slice none 0 0, .slice none 0 0] 44)
  refine (skyValid_any A 16 ca s _ Hl.out (by omega) (hr.ext b0)).mono ?_
  rintro e w1 ⟨rfl, rfl⟩
  rw [Hv.out]
  go_wp2_with fail
  obtain ⟨W, hW⟩ : ∃ W, w.alloc (.cells #[.slice none 0 0, .slice none 0 0] 44) = W := ⟨_, rfl⟩
  have hr1 := hr.ext b0
  have hWs : W.heap.size = w.heap.size + 1 := by rw [← hW, World.size_alloc]
  rw [hW] at e0 b0 hr1 ⊢
  clear hW
  refine wp_region_T [0, 2, 3, 4, 5] [4, 5] [false, true, false, false, false, false] 5 (Below W.heap.size W)
    (fun a' w' => ∃ G v, a' = ⟨#[.slice A 16 ca, undef, .pointer (some ⟨w.heap.size, 0, none⟩), .bool true, .slice A 16 ca, .bool true, .bool false, undef, .slice (some ⟨G, 0, none⟩) 16 16, .slice A 16 ca, v, .agg #[.slice (some ⟨G, 0, none⟩) 16 16, v]], []⟩ ∧ w.heap.size ≤ G ∧
      Row w' G 3 (zeros16.map (Value.int .i64)) ∧ w'.ownsRow w.heap.size 3 1 v 16 (s.map (Value.int .i64)) ∧ Row w' w.heap.size 44 [.slice (some ⟨G, 0, none⟩) 16 16, v] ∧ Below w.heap.size w w')
    (by kernel_rfl) (by kernel_rfl) (fun _ _ h h' => h.trans (h'.mono h.size)) (Below.refl _ _).drew ?next ?walk
  case next =>
    rintro a' V ⟨G, v, rfl, hG, rG, ov, rH, hB⟩
    obtain ⟨q0, q1, _, _⟩ := rH.two
    simp only [Exit.then]
    go_wp2_with fail
    exact bodyPost_ret (v := .tuple #[.agg #[.slice (some ⟨G, 0, none⟩) 16 16, v], .bool true]) (by simp [results, Try.results27, go_sem, q0, q1]) rfl ⟨G, v, rfl, hG, rG, ov, hB⟩
  case walk =>
    refine wpStill_skip rfl ?_
    refine wpStill_go (v := .slice A 16 ca) rfl rfl (stays_run fun w' h => ex_move rfl rfl) ?_
    simp only [Act.put, List.setIfInBounds_toArray, List.set_cons_succ, List.set_cons_zero, Nat.reduceAdd]
    refine wpStill_skip rfl (wpStill_skip rfl (wpStill_skip rfl (wpStill_skip rfl (wpStill_nil ?_))))
    refine wpTree_two (i := 0) (j := 2) (by kernel_rfl) rfl rfl rfl rfl (fun m1 hm1 K hK => ?_) (fun m1 hm1 K hK => ?_)
    · have F1 := (Below.refl W.heap.size W).drew.trans hm1
      go_wp2_with fail
      have F2 := F1.alloc F1.size (.cells Z.toArray 3)
      refine hK _ _ (fun _ => F2) ?_
      clear hK
      have rG := Row.new m1 3 Z
      rw [Hz2.out] at rG F2 ⊢
      have hGW : W.heap.size ≤ m1.heap.size := F1.size
      obtain ⟨G, hG⟩ : ∃ G, m1.heap.size = G := ⟨_, rfl⟩
      obtain ⟨V1, hV1⟩ : ∃ V1, m1.alloc (.cells (zeros16.map (Value.int .i64)).toArray 3) = V1 := ⟨_, rfl⟩
      rw [hV1] at rG F2 ⊢
      rw [hG] at rG hGW ⊢
      clear hG hV1 F1 hm1
      refine wpTree_one (i := 2) (by kernel_rfl) rfl rfl (fun m2 hm2 K hK => ?_)
      have F3 := F2.trans (hm2.mono F2.size)
      go_wp2_with fail
      refine (clone_any A 16 ca s _ Hl.out (by omega) (by omega) (hr1.ext F3)).mono ?_
      rintro e m3 ⟨v, rfl, ov, bv⟩
      have F := F3.trans (bv.mono F3.size)
      go_wp2_with fail
      refine hK _ _ (fun _ => F) ?_
      clear hK
      have rG := (rG.kept hm2).kept bv
      have rH := e0.kept F
      have hov := F3.size
      have ov := ov.mono hov
      obtain ⟨Av, cv, rfl⟩ := own_form ov
      clear F2 F3 hm2 bv
      have b3H := rH.two
      obtain ⟨q0, q1, q2, q3⟩ := b3H
      refine wpTree_one (i := 3) (by kernel_rfl) rfl rfl (fun m4 hm4 K hK => ?_)
      go_wp2_with fail
      have F4 := F.trans (hm4.mono F.size)
      refine hK _ _ (fun _ => F4) ?_
      clear hK
      have rG := rG.kept hm4
      have rH := rH.kept hm4
      have ov := own_ext ov hm4
      refine wpTree_one (i := 4) (by kernel_rfl) rfl rfl (fun m5 hm5 K hK => ?_)
      have rG := rG.kept hm5
      have rH := rH.kept hm5
      have ov := own_ext ov hm5
      have F5 := F4.trans (hm5.mono F4.size)
      obtain ⟨q0, q1, q2, q3⟩ := rH.two
      have hHG : G ≠ w.heap.size := by omega
      have ovS := own_over (own_over ov (grown_set m5 w.heap.size 0 (.slice (some ⟨G, 0, none⟩) 16 16)) (fun j hj e => by have := (own_lt ov hj).1; injection e with e; omega)) (grown_set _ w.heap.size 1 (.slice Av 16 cv)) (fun j hj e => by have := (own_lt ov hj).1; injection e with e; omega)
      have rGS := (rG.far (p := ⟨w.heap.size, 0, none⟩) hHG (.slice (some ⟨G, 0, none⟩) 16 16)).far (p := ⟨w.heap.size, 1, none⟩) hHG (.slice Av 16 cv)
      have rHS := (rH.set_ 0 (.slice (some ⟨G, 0, none⟩) 16 16)).set_ 1 (.slice Av 16 cv)
      simp only [List.set_cons_zero, List.set_cons_succ] at rHS
      have BS := ((b0.trans (F5.mono b0.size)).setCell (p := ⟨w.heap.size, 0, none⟩) (Nat.le_refl _) (.slice (some ⟨G, 0, none⟩) 16 16)).setCell (p := ⟨w.heap.size, 1, none⟩) (Nat.le_refl _) (.slice Av 16 cv)
      have RG := Lib.hid rGS
      have RH := Lib.hid rHS
      have OV := Lib.hid ovS
      have HB := Lib.hid BS
      clear rGS rHS ovS BS rG rH ov F4 F5 F
      go_wp2_with fail
      refine hK _ _ (fun h => absurd h (by decide)) ?_
      clear hK
      refine wpTree_one (i := 5) (by kernel_rfl) rfl rfl (fun m6 hm6 K hK => ?_)
      go_wp2_with fail
      refine hK _ _ (fun h => absurd h (by decide)) (wpTree_nil (by kernel_rfl) fun m7 hm7 => ?_)
      have hx : Ext _ m7 := hm6.trans hm7
      have bb := HB.out
      exact ⟨G, _, rfl, by omega, RG.out.kept hx, (own_ext OV.out hx).mono (by omega), RH.out.kept hx, bb.trans (hx.mono bb.size)⟩
    · have F1 := (Below.refl W.heap.size W).drew.trans hm1
      go_wp2_with fail
      refine (clone_any A 16 ca s _ Hl.out (by omega) (by omega) (hr1.ext F1)).mono ?_
      rintro e m2 ⟨v, rfl, ov, bv⟩
      have F2 := F1.trans (bv.mono F1.size)
      go_wp2_with fail
      refine hK _ _ (fun _ => F2) ?_
      clear hK
      have hov := F1.size
      have ov := ov.mono hov
      obtain ⟨Av, cv, rfl⟩ := own_form ov
      clear F1 hm1 bv
      refine wpTree_one (i := 0) (by kernel_rfl) rfl rfl (fun m3 hm3 K hK => ?_)
      have F3 := F2.trans (hm3.mono F2.size)
      have ov := own_ext ov hm3
      go_wp2_with fail
      have F := F3.alloc F3.size (.cells Z.toArray 3)
      refine hK _ _ (fun _ => F) ?_
      clear hK
      have rG := Row.new m3 3 Z
      rw [Hz2.out] at rG F ⊢
      have hGW : W.heap.size ≤ m3.heap.size := F3.size
      have ov := own_ext ov (bA1 (w := m3) (o := .cells (zeros16.map (Value.int .i64)).toArray 3))
      have rH := e0.kept F
      obtain ⟨G, hG⟩ : ∃ G, m3.heap.size = G := ⟨_, rfl⟩
      obtain ⟨V1, hV1⟩ : ∃ V1, m3.alloc (.cells (zeros16.map (Value.int .i64)).toArray 3) = V1 := ⟨_, rfl⟩
      rw [hV1] at rG F ov rH ⊢
      rw [hG] at rG hGW ⊢
      clear hG hV1 F2 F3 hm3
      have b3H := rH.two
      obtain ⟨q0, q1, q2, q3⟩ := b3H
      refine wpTree_one (i := 3) (by kernel_rfl) rfl rfl (fun m4 hm4 K hK => ?_)
      go_wp2_with fail
      have F4 := F.trans (hm4.mono F.size)
      refine hK _ _ (fun _ => F4) ?_
      clear hK
      have rG := rG.kept hm4
      have rH := rH.kept hm4
      have ov := own_ext ov hm4
      refine wpTree_one (i := 4) (by kernel_rfl) rfl rfl (fun m5 hm5 K hK => ?_)
      have rG := rG.kept hm5
      have rH := rH.kept hm5
      have ov := own_ext ov hm5
      have F5 := F4.trans (hm5.mono F4.size)
      obtain ⟨q0, q1, q2, q3⟩ := rH.two
      have hHG : G ≠ w.heap.size := by omega
      have ovS := own_over (own_over ov (grown_set m5 w.heap.size 0 (.slice (some ⟨G, 0, none⟩) 16 16)) (fun j hj e => by have := (own_lt ov hj).1; injection e with e; omega)) (grown_set _ w.heap.size 1 (.slice Av 16 cv)) (fun j hj e => by have := (own_lt ov hj).1; injection e with e; omega)
      have rGS := (rG.far (p := ⟨w.heap.size, 0, none⟩) hHG (.slice (some ⟨G, 0, none⟩) 16 16)).far (p := ⟨w.heap.size, 1, none⟩) hHG (.slice Av 16 cv)
      have rHS := (rH.set_ 0 (.slice (some ⟨G, 0, none⟩) 16 16)).set_ 1 (.slice Av 16 cv)
      simp only [List.set_cons_zero, List.set_cons_succ] at rHS
      have BS := ((b0.trans (F5.mono b0.size)).setCell (p := ⟨w.heap.size, 0, none⟩) (Nat.le_refl _) (.slice (some ⟨G, 0, none⟩) 16 16)).setCell (p := ⟨w.heap.size, 1, none⟩) (Nat.le_refl _) (.slice Av 16 cv)
      have RG := Lib.hid rGS
      have RH := Lib.hid rHS
      have OV := Lib.hid ovS
      have HB := Lib.hid BS
      clear rGS rHS ovS BS rG rH ov F4 F5 F
      go_wp2_with fail
      refine hK _ _ (fun h => absurd h (by decide)) ?_
      clear hK
      refine wpTree_one (i := 5) (by kernel_rfl) rfl rfl (fun m6 hm6 K hK => ?_)
      go_wp2_with fail
      refine hK _ _ (fun h => absurd h (by decide)) (wpTree_nil (by kernel_rfl) fun m7 hm7 => ?_)
      have hx : Ext _ m7 := hm6.trans hm7
      have bb := HB.out
      exact ⟨G, _, rfl, by omega, RG.out.kept hx, (own_ext OV.out hx).mono (by omega), RH.out.kept hx, bb.trans (hx.mono bb.size)⟩
end Go.Proofs.Ytfandpgjlahnpaa
