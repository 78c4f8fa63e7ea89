/- 'spec.Execute' at every text. -/
import Derived.Test.YtipgpafgampfbaaGreatDoorSLine
import Derived.Test.YtipgpafgampfbaaGreatDoorRunO
namespace Go.Proofs.YtipgpafgampfbaaGreatDoor
open Go.RowKit

set_option maxRecDepth 100000 in
set_option maxHeartbeats 2000000 in
theorem sExecute_run (l : List UInt8) (w : World) (hs : ¬ 500 < l.length) : Calls Tryz.prog 17 #[.string ⟨l.toArray⟩] w fun e w' => e = .returned (.string ⟨(runB l).toArray⟩) ∧ Below w.heap.size w w' := by
  obtain ⟨Z, hZ⟩ : ∃ Z, List.replicate 16 (Value.int .i64 0) = Z := ⟨_, rfl⟩
  have hmk : ∀ W : World, (Instr.makeSlice 32 (.int .i64 16) (.int .i64 16)).run Tryz.prog W = .ok (.slice (some ⟨W.heap.size, 0, none⟩) 16 16) (W.alloc (.cells Z.toArray 3)) := fun W => by
    rw [← hZ]; exact run_make1 (P := Tryz.prog) 32 3 (.int .i64 0) 8 Tryz.underlying32 (by kernel_rfl) rfl 16 (by omega) (by omega) W
  have hz2 : Z = zeros16.map (Value.int .i64) := by rw [← hZ]; unfold zeros16; rw [List.map_replicate]
  have hsz : (ByteArray.mk l.toArray).size = l.length := rfl
  have h5 : ¬ (500 : Int) < l.length := by omega
  have Hz2 := Lib.hid hz2; clear hz2
  clear hZ
  go_enter Tryz.func17, Tryz.ntmps17
  go_wp2_with fail
  refine (l21Cells_any _).mono ?_
  rintro e w' ⟨rfl, rfl⟩
  have hE0 := Row.new w 50 []
  have oE0 := hE0.own (base := w.heap.size) (n := 0) (size := 2) (Nat.le_refl _) rfl (by decide)
  have hZ0 := Row.new (w.alloc (.cells #[] 50)) 3 Z
  have oZ0 := hZ0.own (base := w.heap.size) (n := 16) (size := 1) (by simp) (by rw [Hz2.out]; rfl) (by decide)
  rw [World.size_alloc] at oZ0
  have oA1 := (oE0.alloc (.cells Z.toArray 3)).alloc (.cells #[.slice (some ⟨w.heap.size, 0, none⟩) 0 0, .slice (some ⟨w.heap.size + 1, 0, none⟩) 16 16] 83)
  have oB1 := oZ0.alloc (.cells #[.slice (some ⟨w.heap.size, 0, none⟩) 0 0, .slice (some ⟨w.heap.size + 1, 0, none⟩) 16 16] 83)
  rw [Hz2.out] at oB1
  have rS1 := Row.new ((w.alloc (.cells #[] 50)).alloc (.cells Z.toArray 3)) 83 [.slice (some ⟨w.heap.size, 0, none⟩) 0 0, .slice (some ⟨w.heap.size + 1, 0, none⟩) 16 16]
  have B1 : Below w.heap.size w (((w.alloc (.cells #[] 50)).alloc (.cells Z.toArray 3)).alloc (.cells #[.slice (some ⟨w.heap.size, 0, none⟩) 0 0, .slice (some ⟨w.heap.size + 1, 0, none⟩) 16 16] 83)) := bA3
  have hsS : ((w.alloc (.cells #[] 50)).alloc (.cells Z.toArray 3)).heap.size = w.heap.size + 1 + 1 := by simp
  rw [hsS] at rS1
  rw [← Hz2.out] at oB1
  obtain ⟨W1, hW1⟩ : ∃ W1, ((w.alloc (.cells #[] 50)).alloc (.cells Z.toArray 3)).alloc (.cells #[.slice (some ⟨w.heap.size, 0, none⟩) 0 0, .slice (some ⟨w.heap.size + 1, 0, none⟩) 16 16] 83) = W1 := ⟨_, rfl⟩
  rw [hW1] at oA1 oB1 rS1 B1
  rw [Hz2.out] at oB1
  have OA1 := Lib.hid oA1; clear oA1
  have OB1 := Lib.hid oB1; clear oB1
  have HsS := Lib.hid hsS; clear hsS
  clear hE0 oE0 hZ0 oZ0
  go_wp2_with fail
  refine (l41Cut_any l 10 W1 (by omega)).mono ?_
  rintro e W2 ⟨vL, rfl, oL, b2⟩
  obtain ⟨m, hm⟩ : ∃ m, (cut 10 l).length = m + 1 := ⟨(cut 10 l).length - 1, by have := List.length_pos_iff.2 (cut_ne 10 l); omega⟩
  have hcnt : (cut 10 l).length ≤ 501 := by rw [cut_len]; have := List.count_le_length (a := (10 : UInt8)) (l := l); omega
  rw [hm] at oL hcnt
  obtain ⟨AL, cL, rfl⟩ := own_form oL
  have rS2 := rS1.kept b2
  have oA2 := own_ext OA1.out b2
  have oB2 := own_ext OB1.out b2
  have oL2 := oL.mono B1.size
  have B2 := B1.trans (b2.mono B1.size)
  obtain ⟨S, hSS⟩ : ∃ S, w.heap.size + 1 + 1 = S := ⟨_, rfl⟩
  have HSS := Lib.hid hSS
  rw [hSS] at rS2 ⊢
  have hS0 : w.heap.size ≤ S := by omega
  clear oL b2 rS1 hW1 hSS hmk B1
  have Hm := Lib.hid hm; clear hm
  have OA2 := Lib.hid oA2; clear oA2
  have OB2 := Lib.hid oB2; clear oB2
  have OL2 := Lib.hid oL2; clear oL2
  go_wp2_with fail
  go_loopw [4, 6] (fun o i wr => ∃ (k g n ca : Nat) (B : Option Addr) (cb : Nat), k ≤ m ∧ i = .int .i64 k ∧ StOk (runL (st0, []) ((cut 10 l).take k)).1 ∧ o = .string ⟨(runL (st0, []) ((cut 10 l).take k)).2.toArray⟩ ∧ (runL (st0, []) ((cut 10 l).take k)).1.1.length = n ∧
    Row wr S 83 [.slice (some ⟨g, 0, none⟩) n ca, .slice B 16 cb] ∧ wr.ownsRow w.heap.size 50 2 (.slice (some ⟨g, 0, none⟩) n ca) n ((runL (st0, []) ((cut 10 l).take k)).1.1.flatMap pairCells) ∧
    wr.ownsRow w.heap.size 3 1 (.slice B 16 cb) 16 ((runL (st0, []) ((cut 10 l).take k)).1.2.map (Value.int .i64)) ∧ wr.ownsRow w.heap.size 9 1 (.slice AL (m + 1) cL) (m + 1) (strs (cut 10 l)) ∧ Below w.heap.size w wr) (fun _ i _ => m - (intOf i).toNat)
  case atStart => exact ⟨0, _, 0, _, _, _, by omega, rfl, st0_ok, rfl, rfl, rS2, OA2.out, OB2.out, OL2.out, B2⟩
  case round =>
    clear rS2 OA2 OB2 OL2 B2
    obtain ⟨k, g, n, ca, B, cb, hk, rfl, hok, rfl, hn, rS, oA, oB, oL, hbel⟩ := hrel
    have hsz0 := hbel.size
    have hlenR := runL_small (st0, []) ((cut 10 l).take k)
    rw [List.length_take] at hlenR
    have hw1 : IntKind.i64.wrap ((k : Int) + 1) = (k : Int) + 1 := IntWalk.i64_in _ (by omega)
    by_cases hlt : k < m
    · obtain ⟨x, hx⟩ : ∃ x, (cut 10 l)[k]? = some x := ⟨_, List.getElem?_eq_getElem (by rw [Hm.out]; omega)⟩
      have hxg : (strs (cut 10 l))[k]? = some (.string ⟨x.toArray⟩) := by unfold strs; rw [List.getElem?_map, hx]; rfl
      obtain ⟨bL, oL0, rfl, hbL⟩ := rd_some (Rd.of_own oL) (by rw [strs_len, Hm.out]; omega)
      have cx := rd_cells (Rd.of_own oL) k _ hxg
      have hxl := cut_size (List.mem_of_getElem? hx)
      have hsn : runL (st0, []) ((cut 10 l).take (k + 1)) = ((lineW (runL (st0, []) ((cut 10 l).take k)).1 (cut 32 x)).1, (runL (st0, []) ((cut 10 l).take k)).2 ++ (lineW (runL (st0, []) ((cut 10 l).take k)).1 (cut 32 x)).2) := by
        rw [List.take_add_one, hx]; exact runL_snoc _ _ _
      generalize hR : runL (st0, []) ((cut 10 l).take k) = R at *
      obtain ⟨st, out⟩ := R
      dsimp only at hok hn oA oB hlenR hsn ⊢
      obtain ⟨hw, tw, hht⟩ : ∃ h t, cut 32 x = h :: t := by
        cases hc : cut 32 x with
        | nil => exact absurd hc (cut_ne 32 x)
        | cons h t => exact ⟨h, t, rfl⟩
      have htl : (cut 32 x).length = tw.length + 1 := by rw [hht]; rfl
      have htn : tw.length ≤ 500 := by
        have := cut_len 32 x
        have := List.count_le_length (a := (32 : UInt8)) (l := x)
        omega
      have hln : ∀ i, (tw.getD i []).length ≤ 1000 := fun i => by
        by_cases hi : i < tw.length
        · have hmem : tw.getD i [] ∈ cut 32 x := by rw [hht]; exact List.mem_cons_of_mem _ (getD_mem hi)
          have := cut_size hmem
          omega
        · rw [List.getD_eq_getElem?_getD, List.getElem?_eq_none (by omega)]; simp
      have hlw : lineW st (cut 32 x) = lineR st hw tw := by rw [hht]; rfl
      rw [hlw] at hsn
      have hlsm := (lineR_small st hw tw).1
      have hlok := lineR_ok hok hw tw
      have hki : (k : Int) + 1 < ((m + 1 : Nat) : Int) := by omega
      have hkm : k < m + 1 := by omega
      have f1 : ∀ w', Below wr.heap.size wr w' → w'.cell? ⟨bL, oL0 + k * 1, none⟩ = some (.string ⟨x.toArray⟩) := fun w' h => by rw [Nat.mul_one]; exact (h.cell (p := ⟨bL, oL0 + k, none⟩) hbL).trans cx
      have LS : ∀ w', Below wr.heap.size wr w' → (Instr.loadAt 83 (.pointer (some ⟨S, 0, none⟩))).run Tryz.prog w' = .ok (.agg #[.slice (some ⟨g, 0, none⟩) n ca, .slice B 16 cb]) w' := fun w' h => ld_two (by kernel_rfl) (by kernel_rfl) ((rS.kept h).cell 0) ((rS.kept h).cell 1)
      have Hsn := Lib.hid hsn; clear hsn
      have HR := Lib.hid hR; clear hR
      have Hx := Lib.hid hx; clear hx
      have Hxg := Lib.hid hxg; clear hxg
      have OA := Lib.hid oA; clear oA
      have OB := Lib.hid oB; clear oB
      have OL := Lib.hid oL; clear oL
      have Hok := Lib.hid hok; clear hok
      have Hn := Lib.hid hn; clear hn
      have Hln := Lib.hid hln; clear hln
      have Hht := Lib.hid hht; clear hht
      have Htl := Lib.hid htl; clear htl
      have Hlw := Lib.hid hlw; clear hlw
      have Hlsm := Lib.hid hlsm; clear hlsm
      have Hlok := Lib.hid hlok; clear hlok
      clear cx
      go_wp2_with fail
      refine wp_region_T [5, 6, 7, 8, 9, 10, 11, 12] [] [true, true, true, true, true, false, false, false, false, false, false, false, false] 8 (Below wr.heap.size wr)
        (fun a' w' => ∃ H g3 n3 ca3 B3 cb3 AW cW, a' = ⟨#[.string ⟨l.toArray⟩, undef, .string ⟨#[]⟩, .pointer (some ⟨S, 0, none⟩), .string ⟨out.toArray⟩, .slice (some ⟨bL, oL0, none⟩) (m + 1) cL, .int .i64 k, .pointer (some ⟨H, 0, none⟩), .string ⟨(lineR st hw tw).2.toArray⟩, .string ⟨l.toArray⟩, .int .i64 l.length, .bool false, .slice (some ⟨w.heap.size, 0, none⟩) 0 0, .int .i64 16, .slice (some ⟨w.heap.size + 1, 0, none⟩) 16 16, .agg #[.slice (some ⟨w.heap.size, 0, none⟩) 0 0, .slice (some ⟨w.heap.size + 1, 0, none⟩) 16 16], .string ⟨l.toArray⟩, .slice (some ⟨bL, oL0, none⟩) (m + 1) cL, .int .i64 k, .int .i64 ((k : Int) + 1), .slice (some ⟨bL, oL0, none⟩) (m + 1) cL, .int .i64 ((m : Int) + 1), .bool true, u23, u24, .tuple #[.agg #[.slice (some ⟨g3, 0, none⟩) n3 ca3, .slice B3 16 cb3], .string ⟨(lineR st hw tw).2.toArray⟩], .agg #[.slice (some ⟨g, 0, none⟩) n ca, .slice B 16 cb], .slice (some ⟨bL, oL0, none⟩) (m + 1) cL, .int .i64 k, .pointer (some ⟨bL, oL0 + k, none⟩), .string ⟨x.toArray⟩, .slice AW (tw.length + 1) cW, .tuple #[.agg #[.slice (some ⟨g3, 0, none⟩) n3 ca3, .slice B3 16 cb3], .string ⟨(lineR st hw tw).2.toArray⟩], .agg #[.slice (some ⟨g3, 0, none⟩) n3 ca3, .slice B3 16 cb3], .string ⟨(lineR st hw tw).2.toArray⟩, u35, u36, u37, u38, undef, undef, undef, undef, undef, undef, undef, undef], []⟩ ∧ (lineR st hw tw).1.1.length = n3 ∧ w'.ownsRow w.heap.size 50 2 (.slice (some ⟨g3, 0, none⟩) n3 ca3) n3 ((lineR st hw tw).1.1.flatMap pairCells) ∧
          w'.ownsRow w.heap.size 3 1 (.slice B3 16 cb3) 16 ((lineR st hw tw).1.2.map (Value.int .i64)) ∧ Row w' H 83 [.slice (some ⟨g3, 0, none⟩) n3 ca3, .slice B3 16 cb3] ∧ Below wr.heap.size wr w' ∧ wr.heap.size ≤ H)
        (by kernel_rfl) (by kernel_rfl) (fun _ _ h h' => h.trans (h'.mono h.size)) (Below.refl _ _).drew ?next ?walk
      case walk =>
        refine wpStill_go (v := .agg #[.slice (some ⟨g, 0, none⟩) n ca, .slice B 16 cb]) rfl rfl (stays_run fun w' h => ex_load rfl rfl (LS w' h)) ?_
        simp only [Act.put, List.setIfInBounds_toArray, List.set_cons_succ, List.set_cons_zero]
        refine wpStill_go (v := .slice (some ⟨bL, oL0, none⟩) (m + 1) cL) rfl rfl (stays_run fun w' h => ex_move rfl rfl) ?_
        simp only [Act.put, List.setIfInBounds_toArray, List.set_cons_succ, List.set_cons_zero]
        refine wpStill_go (v := .int .i64 k) rfl rfl (stays_run fun w' h => ex_move rfl rfl) ?_
        simp only [Act.put, List.setIfInBounds_toArray, List.set_cons_succ, List.set_cons_zero]
        refine wpStill_go (v := .pointer (some ⟨bL, oL0 + k * 1, none⟩)) rfl rfl (stays_run fun w' h => ex_index rfl (by kernel_rfl) (by kernel_rfl) rfl rfl (hkm)) ?_
        simp only [Act.put, List.setIfInBounds_toArray, List.set_cons_succ, List.set_cons_zero]
        refine wpStill_go (v := .string ⟨x.toArray⟩) rfl rfl (stays_run fun w' h => ex_load rfl rfl (ld_one (by kernel_rfl) (f1 w' h))) ?_
        simp only [Act.put, List.setIfInBounds_toArray, List.set_cons_succ, List.set_cons_zero]
        refine wpStill_skip rfl (wpStill_skip rfl (wpStill_skip rfl (wpStill_skip rfl (wpStill_skip rfl (wpStill_skip rfl (wpStill_skip rfl (wpStill_skip rfl (wpStill_nil ?_))))))))
        have F : Below wr.heap.size wr wr.drew := (Below.refl _ _).drew
        refine wpTree_two (i := 5) (j := 10) (by kernel_rfl) rfl rfl rfl rfl (fun m1 hm1 K hK => ?_) (fun m1 hm1 K hK => ?_)
        {
        have F := F.trans (hm1.mono F.size)
        go_wp2_with fail
        refine (l41Cut_any x 32 m1 (by omega)).mono ?_
        rintro e n1 ⟨vW, rfl, oW, bW⟩
        rw [Hht.out, List.length_cons] at oW
        have oW := oW.mono F.size
        obtain ⟨AW, cW, rfl⟩ := own_form oW
        have F := F.trans (bW.mono F.size)
        clear bW
        go_wp2_with fail
        refine hK _ _ (fun _ => F) ?_
        clear hK
        refine wpTree_two (i := 6) (j := 10) (by kernel_rfl) rfl rfl rfl rfl (fun m2 hm2 K hK => ?_) (fun m2 hm2 K hK => ?_)
        {
        have F := F.trans (hm2.mono F.size)
        have oW := own_ext oW hm2
        go_wp2_with fail
        refine (l51Line_any w.heap.size g B AW n ca cb (tw.length + 1) cW tw.length hw tw st m2 rfl rfl (by omega) Hln.out Hn.out Hok.out (Nat.le_trans hsz0 F.size) (own_ext OA.out F) (own_ext OB.out F) (Rd.of_own oW)).mono ?_
        rintro e n2 ⟨bN, g3, n3, ca3, B3, cb3, rfl, hn3, oA2, oB2⟩
        have F := F.trans (bN.mono F.size)
        have Hn3 := Lib.hid hn3
        clear bN oW hn3
        go_wp2_with fail
        refine hK _ _ (fun _ => F) ?_
        clear hK
        refine wpTree_two (i := 7) (j := 10) (by kernel_rfl) rfl rfl rfl rfl (fun m3 hm3 K hK => ?_) (fun m3 hm3 K hK => ?_)
        {
        have F := F.trans (hm3.mono F.size)
        have oA2 := own_ext oA2 hm3
        have oB2 := own_ext oB2 hm3
        go_wp2_with fail
        refine hK _ _ (fun _ => F) ?_
        clear hK
        refine wpTree_three (i := 8) (j := 9) (k := 10) (by kernel_rfl) rfl rfl rfl rfl rfl rfl (fun m4 hm4 K hK => ?_) (fun m4 hm4 K hK => ?_) (fun m4 hm4 K hK => ?_)
        {
        have F := F.trans (hm4.mono F.size)
        have oA2 := own_ext oA2 hm4
        have oB2 := own_ext oB2 hm4
        go_wp2_with fail
        refine hK _ _ (fun _ => F) ?_
        clear hK
        refine wpTree_two (i := 9) (j := 10) (by kernel_rfl) rfl rfl rfl rfl (fun m5 hm5 K hK => ?_) (fun m5 hm5 K hK => ?_)
        {
        have F := F.trans (hm5.mono F.size)
        have oA2 := own_ext oA2 hm5
        have oB2 := own_ext oB2 hm5
        go_wp2_with fail
        refine hK _ _ (fun _ => F) ?_
        clear hK
        refine wpTree_one (i := 10) (by kernel_rfl) rfl rfl (fun m6 hm6 K hK => ?_)
        have F := F.trans (hm6.mono F.size)
        have oA2 := own_ext oA2 hm6
        have oB2 := own_ext oB2 hm6
        go_wp2_with fail
        have lH := F.size
        have rH := Row.new m6 83 [.slice none 0 0, .slice none 0 0]
        have bv := bA1 (w := m6) (o := .cells #[.slice none 0 0, .slice none 0 0] 83)
        have F := F.trans (bv.mono F.size)
        have oA2 := own_ext oA2 bv
        have oB2 := own_ext oB2 bv
        refine hK _ _ (fun _ => F) ?_
        clear hK bv
        obtain ⟨H, hB⟩ : ∃ H, m6.heap.size = H := ⟨_, rfl⟩
        obtain ⟨V6, hV⟩ : ∃ V, m6.alloc (.cells #[.slice none 0 0, .slice none 0 0] 83) = V := ⟨_, rfl⟩
        rw [hV] at rH oA2 oB2 F ⊢
        rw [hB] at rH lH ⊢
        clear hB hV
        refine wpTree_one (i := 11) (by kernel_rfl) rfl rfl (fun m7 hm7 K hK => ?_)
        have F := F.trans (hm7.mono F.size)
        have rH := rH.kept hm7
        have oA2 := own_ext oA2 hm7
        have oB2 := own_ext oB2 hm7
        obtain ⟨q0, q1, q2, q3⟩ := rH.two
        have hf := Lib.hid (set_two 83 (by decide) (by decide) oA2 oB2 rH F lH)
        clear oA2 oB2 rH F
        go_wp2_with fail
        obtain ⟨oA2, oB2, rH, F⟩ := hf.out
        clear hf q0 q1 q2 q3
        refine hK _ _ (fun _ => F) ?_
        clear hK
        refine wpTree_one (i := 12) (by kernel_rfl) rfl rfl (fun m8 hm8 K hK => ?_)
        have F := F.trans (hm8.mono F.size)
        have rH := rH.kept hm8
        have oA2 := own_ext oA2 hm8
        have oB2 := own_ext oB2 hm8
        go_wp2_with fail
        refine hK _ _ (fun _ => F) (wpTree_nil (by kernel_rfl) fun me hme => ?_)
        exact ⟨H, g3, n3, ca3, B3, cb3, AW, cW, rfl, Hn3.out, own_ext oA2 hme, own_ext oB2 hme, rH.kept hme, F.trans (hme.mono F.size), lH⟩
        }
        {
        have F := F.trans (hm5.mono F.size)
        have oA2 := own_ext oA2 hm5
        have oB2 := own_ext oB2 hm5
        go_wp2_with fail
        have lH := F.size
        have rH := Row.new m5 83 [.slice none 0 0, .slice none 0 0]
        have bv := bA1 (w := m5) (o := .cells #[.slice none 0 0, .slice none 0 0] 83)
        have F := F.trans (bv.mono F.size)
        have oA2 := own_ext oA2 bv
        have oB2 := own_ext oB2 bv
        refine hK _ _ (fun _ => F) ?_
        clear hK bv
        obtain ⟨H, hB⟩ : ∃ H, m5.heap.size = H := ⟨_, rfl⟩
        obtain ⟨V5, hV⟩ : ∃ V, m5.alloc (.cells #[.slice none 0 0, .slice none 0 0] 83) = V := ⟨_, rfl⟩
        rw [hV] at rH oA2 oB2 F ⊢
        rw [hB] at rH lH ⊢
        clear hB hV
        refine wpTree_two (i := 9) (j := 11) (by kernel_rfl) rfl rfl rfl rfl (fun m6 hm6 K hK => ?_) (fun m6 hm6 K hK => ?_)
        {
        have F := F.trans (hm6.mono F.size)
        have rH := rH.kept hm6
        have oA2 := own_ext oA2 hm6
        have oB2 := own_ext oB2 hm6
        go_wp2_with fail
        refine hK _ _ (fun _ => F) ?_
        clear hK
        refine wpTree_one (i := 11) (by kernel_rfl) rfl rfl (fun m7 hm7 K hK => ?_)
        have F := F.trans (hm7.mono F.size)
        have rH := rH.kept hm7
        have oA2 := own_ext oA2 hm7
        have oB2 := own_ext oB2 hm7
        obtain ⟨q0, q1, q2, q3⟩ := rH.two
        have hf := Lib.hid (set_two 83 (by decide) (by decide) oA2 oB2 rH F lH)
        clear oA2 oB2 rH F
        go_wp2_with fail
        obtain ⟨oA2, oB2, rH, F⟩ := hf.out
        clear hf q0 q1 q2 q3
        refine hK _ _ (fun _ => F) ?_
        clear hK
        refine wpTree_one (i := 12) (by kernel_rfl) rfl rfl (fun m8 hm8 K hK => ?_)
        have F := F.trans (hm8.mono F.size)
        have rH := rH.kept hm8
        have oA2 := own_ext oA2 hm8
        have oB2 := own_ext oB2 hm8
        go_wp2_with fail
        refine hK _ _ (fun _ => F) (wpTree_nil (by kernel_rfl) fun me hme => ?_)
        exact ⟨H, g3, n3, ca3, B3, cb3, AW, cW, rfl, Hn3.out, own_ext oA2 hme, own_ext oB2 hme, rH.kept hme, F.trans (hme.mono F.size), lH⟩
        }
        {
        have F := F.trans (hm6.mono F.size)
        have rH := rH.kept hm6
        have oA2 := own_ext oA2 hm6
        have oB2 := own_ext oB2 hm6
        obtain ⟨q0, q1, q2, q3⟩ := rH.two
        have hf := Lib.hid (set_two 83 (by decide) (by decide) oA2 oB2 rH F lH)
        clear oA2 oB2 rH F
        go_wp2_with fail
        obtain ⟨oA2, oB2, rH, F⟩ := hf.out
        clear hf q0 q1 q2 q3
        refine hK _ _ (fun _ => F) ?_
        clear hK
        refine wpTree_one (i := 9) (by kernel_rfl) rfl rfl (fun m7 hm7 K hK => ?_)
        have F := F.trans (hm7.mono F.size)
        have rH := rH.kept hm7
        have oA2 := own_ext oA2 hm7
        have oB2 := own_ext oB2 hm7
        go_wp2_with fail
        refine hK _ _ (fun _ => F) ?_
        clear hK
        refine wpTree_one (i := 12) (by kernel_rfl) rfl rfl (fun m8 hm8 K hK => ?_)
        have F := F.trans (hm8.mono F.size)
        have rH := rH.kept hm8
        have oA2 := own_ext oA2 hm8
        have oB2 := own_ext oB2 hm8
        go_wp2_with fail
        refine hK _ _ (fun _ => F) (wpTree_nil (by kernel_rfl) fun me hme => ?_)
        exact ⟨H, g3, n3, ca3, B3, cb3, AW, cW, rfl, Hn3.out, own_ext oA2 hme, own_ext oB2 hme, rH.kept hme, F.trans (hme.mono F.size), lH⟩
        }
        }
        }
        {
        have F := F.trans (hm4.mono F.size)
        have oA2 := own_ext oA2 hm4
        have oB2 := own_ext oB2 hm4
        go_wp2_with fail
        refine hK _ _ (fun _ => F) ?_
        clear hK
        refine wpTree_two (i := 8) (j := 10) (by kernel_rfl) rfl rfl rfl rfl (fun m5 hm5 K hK => ?_) (fun m5 hm5 K hK => ?_)
        {
        have F := F.trans (hm5.mono F.size)
        have oA2 := own_ext oA2 hm5
        have oB2 := own_ext oB2 hm5
        go_wp2_with fail
        refine hK _ _ (fun _ => F) ?_
        clear hK
        refine wpTree_one (i := 10) (by kernel_rfl) rfl rfl (fun m6 hm6 K hK => ?_)
        have F := F.trans (hm6.mono F.size)
        have oA2 := own_ext oA2 hm6
        have oB2 := own_ext oB2 hm6
        go_wp2_with fail
        have lH := F.size
        have rH := Row.new m6 83 [.slice none 0 0, .slice none 0 0]
        have bv := bA1 (w := m6) (o := .cells #[.slice none 0 0, .slice none 0 0] 83)
        have F := F.trans (bv.mono F.size)
        have oA2 := own_ext oA2 bv
        have oB2 := own_ext oB2 bv
        refine hK _ _ (fun _ => F) ?_
        clear hK bv
        obtain ⟨H, hB⟩ : ∃ H, m6.heap.size = H := ⟨_, rfl⟩
        obtain ⟨V6, hV⟩ : ∃ V, m6.alloc (.cells #[.slice none 0 0, .slice none 0 0] 83) = V := ⟨_, rfl⟩
        rw [hV] at rH oA2 oB2 F ⊢
        rw [hB] at rH lH ⊢
        clear hB hV
        refine wpTree_one (i := 11) (by kernel_rfl) rfl rfl (fun m7 hm7 K hK => ?_)
        have F := F.trans (hm7.mono F.size)
        have rH := rH.kept hm7
        have oA2 := own_ext oA2 hm7
        have oB2 := own_ext oB2 hm7
        obtain ⟨q0, q1, q2, q3⟩ := rH.two
        have hf := Lib.hid (set_two 83 (by decide) (by decide) oA2 oB2 rH F lH)
        clear oA2 oB2 rH F
        go_wp2_with fail
        obtain ⟨oA2, oB2, rH, F⟩ := hf.out
        clear hf q0 q1 q2 q3
        refine hK _ _ (fun _ => F) ?_
        clear hK
        refine wpTree_one (i := 12) (by kernel_rfl) rfl rfl (fun m8 hm8 K hK => ?_)
        have F := F.trans (hm8.mono F.size)
        have rH := rH.kept hm8
        have oA2 := own_ext oA2 hm8
        have oB2 := own_ext oB2 hm8
        go_wp2_with fail
        refine hK _ _ (fun _ => F) (wpTree_nil (by kernel_rfl) fun me hme => ?_)
        exact ⟨H, g3, n3, ca3, B3, cb3, AW, cW, rfl, Hn3.out, own_ext oA2 hme, own_ext oB2 hme, rH.kept hme, F.trans (hme.mono F.size), lH⟩
        }
        {
        have F := F.trans (hm5.mono F.size)
        have oA2 := own_ext oA2 hm5
        have oB2 := own_ext oB2 hm5
        go_wp2_with fail
        have lH := F.size
        have rH := Row.new m5 83 [.slice none 0 0, .slice none 0 0]
        have bv := bA1 (w := m5) (o := .cells #[.slice none 0 0, .slice none 0 0] 83)
        have F := F.trans (bv.mono F.size)
        have oA2 := own_ext oA2 bv
        have oB2 := own_ext oB2 bv
        refine hK _ _ (fun _ => F) ?_
        clear hK bv
        obtain ⟨H, hB⟩ : ∃ H, m5.heap.size = H := ⟨_, rfl⟩
        obtain ⟨V5, hV⟩ : ∃ V, m5.alloc (.cells #[.slice none 0 0, .slice none 0 0] 83) = V := ⟨_, rfl⟩
        rw [hV] at rH oA2 oB2 F ⊢
        rw [hB] at rH lH ⊢
        clear hB hV
        refine wpTree_one (i := 8) (by kernel_rfl) rfl rfl (fun m6 hm6 K hK => ?_)
        have F := F.trans (hm6.mono F.size)
        have rH := rH.kept hm6
        have oA2 := own_ext oA2 hm6
        have oB2 := own_ext oB2 hm6
        go_wp2_with fail
        refine hK _ _ (fun _ => F) ?_
        clear hK
        refine wpTree_one (i := 11) (by kernel_rfl) rfl rfl (fun m7 hm7 K hK => ?_)
        have F := F.trans (hm7.mono F.size)
        have rH := rH.kept hm7
        have oA2 := own_ext oA2 hm7
        have oB2 := own_ext oB2 hm7
        obtain ⟨q0, q1, q2, q3⟩ := rH.two
        have hf := Lib.hid (set_two 83 (by decide) (by decide) oA2 oB2 rH F lH)
        clear oA2 oB2 rH F
        go_wp2_with fail
        obtain ⟨oA2, oB2, rH, F⟩ := hf.out
        clear hf q0 q1 q2 q3
        refine hK _ _ (fun _ => F) ?_
        clear hK
        refine wpTree_one (i := 12) (by kernel_rfl) rfl rfl (fun m8 hm8 K hK => ?_)
        have F := F.trans (hm8.mono F.size)
        have rH := rH.kept hm8
        have oA2 := own_ext oA2 hm8
        have oB2 := own_ext oB2 hm8
        go_wp2_with fail
        refine hK _ _ (fun _ => F) (wpTree_nil (by kernel_rfl) fun me hme => ?_)
        exact ⟨H, g3, n3, ca3, B3, cb3, AW, cW, rfl, Hn3.out, own_ext oA2 hme, own_ext oB2 hme, rH.kept hme, F.trans (hme.mono F.size), lH⟩
        }
        }
        {
        have F := F.trans (hm4.mono F.size)
        have oA2 := own_ext oA2 hm4
        have oB2 := own_ext oB2 hm4
        go_wp2_with fail
        have lH := F.size
        have rH := Row.new m4 83 [.slice none 0 0, .slice none 0 0]
        have bv := bA1 (w := m4) (o := .cells #[.slice none 0 0, .slice none 0 0] 83)
        have F := F.trans (bv.mono F.size)
        have oA2 := own_ext oA2 bv
        have oB2 := own_ext oB2 bv
        refine hK _ _ (fun _ => F) ?_
        clear hK bv
        obtain ⟨H, hB⟩ : ∃ H, m4.heap.size = H := ⟨_, rfl⟩
        obtain ⟨V4, hV⟩ : ∃ V, m4.alloc (.cells #[.slice none 0 0, .slice none 0 0] 83) = V := ⟨_, rfl⟩
        rw [hV] at rH oA2 oB2 F ⊢
        rw [hB] at rH lH ⊢
        clear hB hV
        refine wpTree_two (i := 8) (j := 9) (by kernel_rfl) rfl rfl rfl rfl (fun m5 hm5 K hK => ?_) (fun m5 hm5 K hK => ?_)
        {
        have F := F.trans (hm5.mono F.size)
        have rH := rH.kept hm5
        have oA2 := own_ext oA2 hm5
        have oB2 := own_ext oB2 hm5
        go_wp2_with fail
        refine hK _ _ (fun _ => F) ?_
        clear hK
        refine wpTree_two (i := 9) (j := 11) (by kernel_rfl) rfl rfl rfl rfl (fun m6 hm6 K hK => ?_) (fun m6 hm6 K hK => ?_)
        {
        have F := F.trans (hm6.mono F.size)
        have rH := rH.kept hm6
        have oA2 := own_ext oA2 hm6
        have oB2 := own_ext oB2 hm6
        go_wp2_with fail
        refine hK _ _ (fun _ => F) ?_
        clear hK
        refine wpTree_one (i := 11) (by kernel_rfl) rfl rfl (fun m7 hm7 K hK => ?_)
        have F := F.trans (hm7.mono F.size)
        have rH := rH.kept hm7
        have oA2 := own_ext oA2 hm7
        have oB2 := own_ext oB2 hm7
        obtain ⟨q0, q1, q2, q3⟩ := rH.two
        have hf := Lib.hid (set_two 83 (by decide) (by decide) oA2 oB2 rH F lH)
        clear oA2 oB2 rH F
        go_wp2_with fail
        obtain ⟨oA2, oB2, rH, F⟩ := hf.out
        clear hf q0 q1 q2 q3
        refine hK _ _ (fun _ => F) ?_
        clear hK
        refine wpTree_one (i := 12) (by kernel_rfl) rfl rfl (fun m8 hm8 K hK => ?_)
        have F := F.trans (hm8.mono F.size)
        have rH := rH.kept hm8
        have oA2 := own_ext oA2 hm8
        have oB2 := own_ext oB2 hm8
        go_wp2_with fail
        refine hK _ _ (fun _ => F) (wpTree_nil (by kernel_rfl) fun me hme => ?_)
        exact ⟨H, g3, n3, ca3, B3, cb3, AW, cW, rfl, Hn3.out, own_ext oA2 hme, own_ext oB2 hme, rH.kept hme, F.trans (hme.mono F.size), lH⟩
        }
        {
        have F := F.trans (hm6.mono F.size)
        have rH := rH.kept hm6
        have oA2 := own_ext oA2 hm6
        have oB2 := own_ext oB2 hm6
        obtain ⟨q0, q1, q2, q3⟩ := rH.two
        have hf := Lib.hid (set_two 83 (by decide) (by decide) oA2 oB2 rH F lH)
        clear oA2 oB2 rH F
        go_wp2_with fail
        obtain ⟨oA2, oB2, rH, F⟩ := hf.out
        clear hf q0 q1 q2 q3
        refine hK _ _ (fun _ => F) ?_
        clear hK
        refine wpTree_one (i := 9) (by kernel_rfl) rfl rfl (fun m7 hm7 K hK => ?_)
        have F := F.trans (hm7.mono F.size)
        have rH := rH.kept hm7
        have oA2 := own_ext oA2 hm7
        have oB2 := own_ext oB2 hm7
        go_wp2_with fail
        refine hK _ _ (fun _ => F) ?_
        clear hK
        refine wpTree_one (i := 12) (by kernel_rfl) rfl rfl (fun m8 hm8 K hK => ?_)
        have F := F.trans (hm8.mono F.size)
        have rH := rH.kept hm8
        have oA2 := own_ext oA2 hm8
        have oB2 := own_ext oB2 hm8
        go_wp2_with fail
        refine hK _ _ (fun _ => F) (wpTree_nil (by kernel_rfl) fun me hme => ?_)
        exact ⟨H, g3, n3, ca3, B3, cb3, AW, cW, rfl, Hn3.out, own_ext oA2 hme, own_ext oB2 hme, rH.kept hme, F.trans (hme.mono F.size), lH⟩
        }
        }
        {
        have F := F.trans (hm5.mono F.size)
        have rH := rH.kept hm5
        have oA2 := own_ext oA2 hm5
        have oB2 := own_ext oB2 hm5
        go_wp2_with fail
        refine hK _ _ (fun _ => F) ?_
        clear hK
        refine wpTree_one (i := 8) (by kernel_rfl) rfl rfl (fun m6 hm6 K hK => ?_)
        have F := F.trans (hm6.mono F.size)
        have rH := rH.kept hm6
        have oA2 := own_ext oA2 hm6
        have oB2 := own_ext oB2 hm6
        go_wp2_with fail
        refine hK _ _ (fun _ => F) ?_
        clear hK
        refine wpTree_one (i := 11) (by kernel_rfl) rfl rfl (fun m7 hm7 K hK => ?_)
        have F := F.trans (hm7.mono F.size)
        have rH := rH.kept hm7
        have oA2 := own_ext oA2 hm7
        have oB2 := own_ext oB2 hm7
        obtain ⟨q0, q1, q2, q3⟩ := rH.two
        have hf := Lib.hid (set_two 83 (by decide) (by decide) oA2 oB2 rH F lH)
        clear oA2 oB2 rH F
        go_wp2_with fail
        obtain ⟨oA2, oB2, rH, F⟩ := hf.out
        clear hf q0 q1 q2 q3
        refine hK _ _ (fun _ => F) ?_
        clear hK
        refine wpTree_one (i := 12) (by kernel_rfl) rfl rfl (fun m8 hm8 K hK => ?_)
        have F := F.trans (hm8.mono F.size)
        have rH := rH.kept hm8
        have oA2 := own_ext oA2 hm8
        have oB2 := own_ext oB2 hm8
        go_wp2_with fail
        refine hK _ _ (fun _ => F) (wpTree_nil (by kernel_rfl) fun me hme => ?_)
        exact ⟨H, g3, n3, ca3, B3, cb3, AW, cW, rfl, Hn3.out, own_ext oA2 hme, own_ext oB2 hme, rH.kept hme, F.trans (hme.mono F.size), lH⟩
        }
        }
        }
        {
        have F := F.trans (hm3.mono F.size)
        have oA2 := own_ext oA2 hm3
        have oB2 := own_ext oB2 hm3
        go_wp2_with fail
        have lH := F.size
        have rH := Row.new m3 83 [.slice none 0 0, .slice none 0 0]
        have bv := bA1 (w := m3) (o := .cells #[.slice none 0 0, .slice none 0 0] 83)
        have F := F.trans (bv.mono F.size)
        have oA2 := own_ext oA2 bv
        have oB2 := own_ext oB2 bv
        refine hK _ _ (fun _ => F) ?_
        clear hK bv
        obtain ⟨H, hB⟩ : ∃ H, m3.heap.size = H := ⟨_, rfl⟩
        obtain ⟨V3, hV⟩ : ∃ V, m3.alloc (.cells #[.slice none 0 0, .slice none 0 0] 83) = V := ⟨_, rfl⟩
        rw [hV] at rH oA2 oB2 F ⊢
        rw [hB] at rH lH ⊢
        clear hB hV
        refine wpTree_one (i := 7) (by kernel_rfl) rfl rfl (fun m4 hm4 K hK => ?_)
        have F := F.trans (hm4.mono F.size)
        have rH := rH.kept hm4
        have oA2 := own_ext oA2 hm4
        have oB2 := own_ext oB2 hm4
        go_wp2_with fail
        refine hK _ _ (fun _ => F) ?_
        clear hK
        refine wpTree_two (i := 8) (j := 9) (by kernel_rfl) rfl rfl rfl rfl (fun m5 hm5 K hK => ?_) (fun m5 hm5 K hK => ?_)
        {
        have F := F.trans (hm5.mono F.size)
        have rH := rH.kept hm5
        have oA2 := own_ext oA2 hm5
        have oB2 := own_ext oB2 hm5
        go_wp2_with fail
        refine hK _ _ (fun _ => F) ?_
        clear hK
        refine wpTree_two (i := 9) (j := 11) (by kernel_rfl) rfl rfl rfl rfl (fun m6 hm6 K hK => ?_) (fun m6 hm6 K hK => ?_)
        {
        have F := F.trans (hm6.mono F.size)
        have rH := rH.kept hm6
        have oA2 := own_ext oA2 hm6
        have oB2 := own_ext oB2 hm6
        go_wp2_with fail
        refine hK _ _ (fun _ => F) ?_
        clear hK
        refine wpTree_one (i := 11) (by kernel_rfl) rfl rfl (fun m7 hm7 K hK => ?_)
        have F := F.trans (hm7.mono F.size)
        have rH := rH.kept hm7
        have oA2 := own_ext oA2 hm7
        have oB2 := own_ext oB2 hm7
        obtain ⟨q0, q1, q2, q3⟩ := rH.two
        have hf := Lib.hid (set_two 83 (by decide) (by decide) oA2 oB2 rH F lH)
        clear oA2 oB2 rH F
        go_wp2_with fail
        obtain ⟨oA2, oB2, rH, F⟩ := hf.out
        clear hf q0 q1 q2 q3
        refine hK _ _ (fun _ => F) ?_
        clear hK
        refine wpTree_one (i := 12) (by kernel_rfl) rfl rfl (fun m8 hm8 K hK => ?_)
        have F := F.trans (hm8.mono F.size)
        have rH := rH.kept hm8
        have oA2 := own_ext oA2 hm8
        have oB2 := own_ext oB2 hm8
        go_wp2_with fail
        refine hK _ _ (fun _ => F) (wpTree_nil (by kernel_rfl) fun me hme => ?_)
        exact ⟨H, g3, n3, ca3, B3, cb3, AW, cW, rfl, Hn3.out, own_ext oA2 hme, own_ext oB2 hme, rH.kept hme, F.trans (hme.mono F.size), lH⟩
        }
        {
        have F := F.trans (hm6.mono F.size)
        have rH := rH.kept hm6
        have oA2 := own_ext oA2 hm6
        have oB2 := own_ext oB2 hm6
        obtain ⟨q0, q1, q2, q3⟩ := rH.two
        have hf := Lib.hid (set_two 83 (by decide) (by decide) oA2 oB2 rH F lH)
        clear oA2 oB2 rH F
        go_wp2_with fail
        obtain ⟨oA2, oB2, rH, F⟩ := hf.out
        clear hf q0 q1 q2 q3
        refine hK _ _ (fun _ => F) ?_
        clear hK
        refine wpTree_one (i := 9) (by kernel_rfl) rfl rfl (fun m7 hm7 K hK => ?_)
        have F := F.trans (hm7.mono F.size)
        have rH := rH.kept hm7
        have oA2 := own_ext oA2 hm7
        have oB2 := own_ext oB2 hm7
        go_wp2_with fail
        refine hK _ _ (fun _ => F) ?_
        clear hK
        refine wpTree_one (i := 12) (by kernel_rfl) rfl rfl (fun m8 hm8 K hK => ?_)
        have F := F.trans (hm8.mono F.size)
        have rH := rH.kept hm8
        have oA2 := own_ext oA2 hm8
        have oB2 := own_ext oB2 hm8
        go_wp2_with fail
        refine hK _ _ (fun _ => F) (wpTree_nil (by kernel_rfl) fun me hme => ?_)
        exact ⟨H, g3, n3, ca3, B3, cb3, AW, cW, rfl, Hn3.out, own_ext oA2 hme, own_ext oB2 hme, rH.kept hme, F.trans (hme.mono F.size), lH⟩
        }
        }
        {
        have F := F.trans (hm5.mono F.size)
        have rH := rH.kept hm5
        have oA2 := own_ext oA2 hm5
        have oB2 := own_ext oB2 hm5
        go_wp2_with fail
        refine hK _ _ (fun _ => F) ?_
        clear hK
        refine wpTree_one (i := 8) (by kernel_rfl) rfl rfl (fun m6 hm6 K hK => ?_)
        have F := F.trans (hm6.mono F.size)
        have rH := rH.kept hm6
        have oA2 := own_ext oA2 hm6
        have oB2 := own_ext oB2 hm6
        go_wp2_with fail
        refine hK _ _ (fun _ => F) ?_
        clear hK
        refine wpTree_one (i := 11) (by kernel_rfl) rfl rfl (fun m7 hm7 K hK => ?_)
        have F := F.trans (hm7.mono F.size)
        have rH := rH.kept hm7
        have oA2 := own_ext oA2 hm7
        have oB2 := own_ext oB2 hm7
        obtain ⟨q0, q1, q2, q3⟩ := rH.two
        have hf := Lib.hid (set_two 83 (by decide) (by decide) oA2 oB2 rH F lH)
        clear oA2 oB2 rH F
        go_wp2_with fail
        obtain ⟨oA2, oB2, rH, F⟩ := hf.out
        clear hf q0 q1 q2 q3
        refine hK _ _ (fun _ => F) ?_
        clear hK
        refine wpTree_one (i := 12) (by kernel_rfl) rfl rfl (fun m8 hm8 K hK => ?_)
        have F := F.trans (hm8.mono F.size)
        have rH := rH.kept hm8
        have oA2 := own_ext oA2 hm8
        have oB2 := own_ext oB2 hm8
        go_wp2_with fail
        refine hK _ _ (fun _ => F) (wpTree_nil (by kernel_rfl) fun me hme => ?_)
        exact ⟨H, g3, n3, ca3, B3, cb3, AW, cW, rfl, Hn3.out, own_ext oA2 hme, own_ext oB2 hme, rH.kept hme, F.trans (hme.mono F.size), lH⟩
        }
        }
        }
        {
        have F := F.trans (hm2.mono F.size)
        have oW := own_ext oW hm2
        go_wp2_with fail
        have lH := F.size
        have rH := Row.new m2 83 [.slice none 0 0, .slice none 0 0]
        have bv := bA1 (w := m2) (o := .cells #[.slice none 0 0, .slice none 0 0] 83)
        have F := F.trans (bv.mono F.size)
        have oW := own_ext oW bv
        refine hK _ _ (fun _ => F) ?_
        clear hK bv
        obtain ⟨H, hB⟩ : ∃ H, m2.heap.size = H := ⟨_, rfl⟩
        obtain ⟨V2, hV⟩ : ∃ V, m2.alloc (.cells #[.slice none 0 0, .slice none 0 0] 83) = V := ⟨_, rfl⟩
        rw [hV] at rH oW F ⊢
        rw [hB] at rH lH ⊢
        clear hB hV
        refine wpTree_one (i := 6) (by kernel_rfl) rfl rfl (fun m3 hm3 K hK => ?_)
        have F := F.trans (hm3.mono F.size)
        have rH := rH.kept hm3
        have oW := own_ext oW hm3
        go_wp2_with fail
        refine (l51Line_any w.heap.size g B AW n ca cb (tw.length + 1) cW tw.length hw tw st m3 rfl rfl (by omega) Hln.out Hn.out Hok.out (Nat.le_trans hsz0 F.size) (own_ext OA.out F) (own_ext OB.out F) (Rd.of_own oW)).mono ?_
        rintro e n2 ⟨bN, g3, n3, ca3, B3, cb3, rfl, hn3, oA2, oB2⟩
        have rH := rH.kept bN
        have F := F.trans (bN.mono F.size)
        have Hn3 := Lib.hid hn3
        clear bN oW hn3
        go_wp2_with fail
        refine hK _ _ (fun _ => F) ?_
        clear hK
        refine wpTree_one (i := 7) (by kernel_rfl) rfl rfl (fun m4 hm4 K hK => ?_)
        have F := F.trans (hm4.mono F.size)
        have rH := rH.kept hm4
        have oA2 := own_ext oA2 hm4
        have oB2 := own_ext oB2 hm4
        go_wp2_with fail
        refine hK _ _ (fun _ => F) ?_
        clear hK
        refine wpTree_two (i := 8) (j := 9) (by kernel_rfl) rfl rfl rfl rfl (fun m5 hm5 K hK => ?_) (fun m5 hm5 K hK => ?_)
        {
        have F := F.trans (hm5.mono F.size)
        have rH := rH.kept hm5
        have oA2 := own_ext oA2 hm5
        have oB2 := own_ext oB2 hm5
        go_wp2_with fail
        refine hK _ _ (fun _ => F) ?_
        clear hK
        refine wpTree_two (i := 9) (j := 11) (by kernel_rfl) rfl rfl rfl rfl (fun m6 hm6 K hK => ?_) (fun m6 hm6 K hK => ?_)
        {
        have F := F.trans (hm6.mono F.size)
        have rH := rH.kept hm6
        have oA2 := own_ext oA2 hm6
        have oB2 := own_ext oB2 hm6
        go_wp2_with fail
        refine hK _ _ (fun _ => F) ?_
        clear hK
        refine wpTree_one (i := 11) (by kernel_rfl) rfl rfl (fun m7 hm7 K hK => ?_)
        have F := F.trans (hm7.mono F.size)
        have rH := rH.kept hm7
        have oA2 := own_ext oA2 hm7
        have oB2 := own_ext oB2 hm7
        obtain ⟨q0, q1, q2, q3⟩ := rH.two
        have hf := Lib.hid (set_two 83 (by decide) (by decide) oA2 oB2 rH F lH)
        clear oA2 oB2 rH F
        go_wp2_with fail
        obtain ⟨oA2, oB2, rH, F⟩ := hf.out
        clear hf q0 q1 q2 q3
        refine hK _ _ (fun _ => F) ?_
        clear hK
        refine wpTree_one (i := 12) (by kernel_rfl) rfl rfl (fun m8 hm8 K hK => ?_)
        have F := F.trans (hm8.mono F.size)
        have rH := rH.kept hm8
        have oA2 := own_ext oA2 hm8
        have oB2 := own_ext oB2 hm8
        go_wp2_with fail
        refine hK _ _ (fun _ => F) (wpTree_nil (by kernel_rfl) fun me hme => ?_)
        exact ⟨H, g3, n3, ca3, B3, cb3, AW, cW, rfl, Hn3.out, own_ext oA2 hme, own_ext oB2 hme, rH.kept hme, F.trans (hme.mono F.size), lH⟩
        }
        {
        have F := F.trans (hm6.mono F.size)
        have rH := rH.kept hm6
        have oA2 := own_ext oA2 hm6
        have oB2 := own_ext oB2 hm6
        obtain ⟨q0, q1, q2, q3⟩ := rH.two
        have hf := Lib.hid (set_two 83 (by decide) (by decide) oA2 oB2 rH F lH)
        clear oA2 oB2 rH F
        go_wp2_with fail
        obtain ⟨oA2, oB2, rH, F⟩ := hf.out
        clear hf q0 q1 q2 q3
        refine hK _ _ (fun _ => F) ?_
        clear hK
        refine wpTree_one (i := 9) (by kernel_rfl) rfl rfl (fun m7 hm7 K hK => ?_)
        have F := F.trans (hm7.mono F.size)
        have rH := rH.kept hm7
        have oA2 := own_ext oA2 hm7
        have oB2 := own_ext oB2 hm7
        go_wp2_with fail
        refine hK _ _ (fun _ => F) ?_
        clear hK
        refine wpTree_one (i := 12) (by kernel_rfl) rfl rfl (fun m8 hm8 K hK => ?_)
        have F := F.trans (hm8.mono F.size)
        have rH := rH.kept hm8
        have oA2 := own_ext oA2 hm8
        have oB2 := own_ext oB2 hm8
        go_wp2_with fail
        refine hK _ _ (fun _ => F) (wpTree_nil (by kernel_rfl) fun me hme => ?_)
        exact ⟨H, g3, n3, ca3, B3, cb3, AW, cW, rfl, Hn3.out, own_ext oA2 hme, own_ext oB2 hme, rH.kept hme, F.trans (hme.mono F.size), lH⟩
        }
        }
        {
        have F := F.trans (hm5.mono F.size)
        have rH := rH.kept hm5
        have oA2 := own_ext oA2 hm5
        have oB2 := own_ext oB2 hm5
        go_wp2_with fail
        refine hK _ _ (fun _ => F) ?_
        clear hK
        refine wpTree_one (i := 8) (by kernel_rfl) rfl rfl (fun m6 hm6 K hK => ?_)
        have F := F.trans (hm6.mono F.size)
        have rH := rH.kept hm6
        have oA2 := own_ext oA2 hm6
        have oB2 := own_ext oB2 hm6
        go_wp2_with fail
        refine hK _ _ (fun _ => F) ?_
        clear hK
        refine wpTree_one (i := 11) (by kernel_rfl) rfl rfl (fun m7 hm7 K hK => ?_)
        have F := F.trans (hm7.mono F.size)
        have rH := rH.kept hm7
        have oA2 := own_ext oA2 hm7
        have oB2 := own_ext oB2 hm7
        obtain ⟨q0, q1, q2, q3⟩ := rH.two
        have hf := Lib.hid (set_two 83 (by decide) (by decide) oA2 oB2 rH F lH)
        clear oA2 oB2 rH F
        go_wp2_with fail
        obtain ⟨oA2, oB2, rH, F⟩ := hf.out
        clear hf q0 q1 q2 q3
        refine hK _ _ (fun _ => F) ?_
        clear hK
        refine wpTree_one (i := 12) (by kernel_rfl) rfl rfl (fun m8 hm8 K hK => ?_)
        have F := F.trans (hm8.mono F.size)
        have rH := rH.kept hm8
        have oA2 := own_ext oA2 hm8
        have oB2 := own_ext oB2 hm8
        go_wp2_with fail
        refine hK _ _ (fun _ => F) (wpTree_nil (by kernel_rfl) fun me hme => ?_)
        exact ⟨H, g3, n3, ca3, B3, cb3, AW, cW, rfl, Hn3.out, own_ext oA2 hme, own_ext oB2 hme, rH.kept hme, F.trans (hme.mono F.size), lH⟩
        }
        }
        }
        {
        have F := F.trans (hm1.mono F.size)
        go_wp2_with fail
        have lH := F.size
        have rH := Row.new m1 83 [.slice none 0 0, .slice none 0 0]
        have bv := bA1 (w := m1) (o := .cells #[.slice none 0 0, .slice none 0 0] 83)
        have F := F.trans (bv.mono F.size)
        refine hK _ _ (fun _ => F) ?_
        clear hK bv
        obtain ⟨H, hB⟩ : ∃ H, m1.heap.size = H := ⟨_, rfl⟩
        obtain ⟨V1, hV⟩ : ∃ V, m1.alloc (.cells #[.slice none 0 0, .slice none 0 0] 83) = V := ⟨_, rfl⟩
        rw [hV] at rH F ⊢
        rw [hB] at rH lH ⊢
        clear hB hV
        refine wpTree_one (i := 5) (by kernel_rfl) rfl rfl (fun m2 hm2 K hK => ?_)
        have F := F.trans (hm2.mono F.size)
        have rH := rH.kept hm2
        go_wp2_with fail
        refine (l41Cut_any x 32 m2 (by omega)).mono ?_
        rintro e n1 ⟨vW, rfl, oW, bW⟩
        rw [Hht.out, List.length_cons] at oW
        have oW := oW.mono F.size
        obtain ⟨AW, cW, rfl⟩ := own_form oW
        have rH := rH.kept bW
        have F := F.trans (bW.mono F.size)
        clear bW
        go_wp2_with fail
        refine hK _ _ (fun _ => F) ?_
        clear hK
        refine wpTree_one (i := 6) (by kernel_rfl) rfl rfl (fun m3 hm3 K hK => ?_)
        have F := F.trans (hm3.mono F.size)
        have rH := rH.kept hm3
        have oW := own_ext oW hm3
        go_wp2_with fail
        refine (l51Line_any w.heap.size g B AW n ca cb (tw.length + 1) cW tw.length hw tw st m3 rfl rfl (by omega) Hln.out Hn.out Hok.out (Nat.le_trans hsz0 F.size) (own_ext OA.out F) (own_ext OB.out F) (Rd.of_own oW)).mono ?_
        rintro e n2 ⟨bN, g3, n3, ca3, B3, cb3, rfl, hn3, oA2, oB2⟩
        have rH := rH.kept bN
        have F := F.trans (bN.mono F.size)
        have Hn3 := Lib.hid hn3
        clear bN oW hn3
        go_wp2_with fail
        refine hK _ _ (fun _ => F) ?_
        clear hK
        refine wpTree_one (i := 7) (by kernel_rfl) rfl rfl (fun m4 hm4 K hK => ?_)
        have F := F.trans (hm4.mono F.size)
        have rH := rH.kept hm4
        have oA2 := own_ext oA2 hm4
        have oB2 := own_ext oB2 hm4
        go_wp2_with fail
        refine hK _ _ (fun _ => F) ?_
        clear hK
        refine wpTree_two (i := 8) (j := 9) (by kernel_rfl) rfl rfl rfl rfl (fun m5 hm5 K hK => ?_) (fun m5 hm5 K hK => ?_)
        {
        have F := F.trans (hm5.mono F.size)
        have rH := rH.kept hm5
        have oA2 := own_ext oA2 hm5
        have oB2 := own_ext oB2 hm5
        go_wp2_with fail
        refine hK _ _ (fun _ => F) ?_
        clear hK
        refine wpTree_two (i := 9) (j := 11) (by kernel_rfl) rfl rfl rfl rfl (fun m6 hm6 K hK => ?_) (fun m6 hm6 K hK => ?_)
        {
        have F := F.trans (hm6.mono F.size)
        have rH := rH.kept hm6
        have oA2 := own_ext oA2 hm6
        have oB2 := own_ext oB2 hm6
        go_wp2_with fail
        refine hK _ _ (fun _ => F) ?_
        clear hK
        refine wpTree_one (i := 11) (by kernel_rfl) rfl rfl (fun m7 hm7 K hK => ?_)
        have F := F.trans (hm7.mono F.size)
        have rH := rH.kept hm7
        have oA2 := own_ext oA2 hm7
        have oB2 := own_ext oB2 hm7
        obtain ⟨q0, q1, q2, q3⟩ := rH.two
        have hf := Lib.hid (set_two 83 (by decide) (by decide) oA2 oB2 rH F lH)
        clear oA2 oB2 rH F
        go_wp2_with fail
        obtain ⟨oA2, oB2, rH, F⟩ := hf.out
        clear hf q0 q1 q2 q3
        refine hK _ _ (fun _ => F) ?_
        clear hK
        refine wpTree_one (i := 12) (by kernel_rfl) rfl rfl (fun m8 hm8 K hK => ?_)
        have F := F.trans (hm8.mono F.size)
        have rH := rH.kept hm8
        have oA2 := own_ext oA2 hm8
        have oB2 := own_ext oB2 hm8
        go_wp2_with fail
        refine hK _ _ (fun _ => F) (wpTree_nil (by kernel_rfl) fun me hme => ?_)
        exact ⟨H, g3, n3, ca3, B3, cb3, AW, cW, rfl, Hn3.out, own_ext oA2 hme, own_ext oB2 hme, rH.kept hme, F.trans (hme.mono F.size), lH⟩
        }
        {
        have F := F.trans (hm6.mono F.size)
        have rH := rH.kept hm6
        have oA2 := own_ext oA2 hm6
        have oB2 := own_ext oB2 hm6
        obtain ⟨q0, q1, q2, q3⟩ := rH.two
        have hf := Lib.hid (set_two 83 (by decide) (by decide) oA2 oB2 rH F lH)
        clear oA2 oB2 rH F
        go_wp2_with fail
        obtain ⟨oA2, oB2, rH, F⟩ := hf.out
        clear hf q0 q1 q2 q3
        refine hK _ _ (fun _ => F) ?_
        clear hK
        refine wpTree_one (i := 9) (by kernel_rfl) rfl rfl (fun m7 hm7 K hK => ?_)
        have F := F.trans (hm7.mono F.size)
        have rH := rH.kept hm7
        have oA2 := own_ext oA2 hm7
        have oB2 := own_ext oB2 hm7
        go_wp2_with fail
        refine hK _ _ (fun _ => F) ?_
        clear hK
        refine wpTree_one (i := 12) (by kernel_rfl) rfl rfl (fun m8 hm8 K hK => ?_)
        have F := F.trans (hm8.mono F.size)
        have rH := rH.kept hm8
        have oA2 := own_ext oA2 hm8
        have oB2 := own_ext oB2 hm8
        go_wp2_with fail
        refine hK _ _ (fun _ => F) (wpTree_nil (by kernel_rfl) fun me hme => ?_)
        exact ⟨H, g3, n3, ca3, B3, cb3, AW, cW, rfl, Hn3.out, own_ext oA2 hme, own_ext oB2 hme, rH.kept hme, F.trans (hme.mono F.size), lH⟩
        }
        }
        {
        have F := F.trans (hm5.mono F.size)
        have rH := rH.kept hm5
        have oA2 := own_ext oA2 hm5
        have oB2 := own_ext oB2 hm5
        go_wp2_with fail
        refine hK _ _ (fun _ => F) ?_
        clear hK
        refine wpTree_one (i := 8) (by kernel_rfl) rfl rfl (fun m6 hm6 K hK => ?_)
        have F := F.trans (hm6.mono F.size)
        have rH := rH.kept hm6
        have oA2 := own_ext oA2 hm6
        have oB2 := own_ext oB2 hm6
        go_wp2_with fail
        refine hK _ _ (fun _ => F) ?_
        clear hK
        refine wpTree_one (i := 11) (by kernel_rfl) rfl rfl (fun m7 hm7 K hK => ?_)
        have F := F.trans (hm7.mono F.size)
        have rH := rH.kept hm7
        have oA2 := own_ext oA2 hm7
        have oB2 := own_ext oB2 hm7
        obtain ⟨q0, q1, q2, q3⟩ := rH.two
        have hf := Lib.hid (set_two 83 (by decide) (by decide) oA2 oB2 rH F lH)
        clear oA2 oB2 rH F
        go_wp2_with fail
        obtain ⟨oA2, oB2, rH, F⟩ := hf.out
        clear hf q0 q1 q2 q3
        refine hK _ _ (fun _ => F) ?_
        clear hK
        refine wpTree_one (i := 12) (by kernel_rfl) rfl rfl (fun m8 hm8 K hK => ?_)
        have F := F.trans (hm8.mono F.size)
        have rH := rH.kept hm8
        have oA2 := own_ext oA2 hm8
        have oB2 := own_ext oB2 hm8
        go_wp2_with fail
        refine hK _ _ (fun _ => F) (wpTree_nil (by kernel_rfl) fun me hme => ?_)
        exact ⟨H, g3, n3, ca3, B3, cb3, AW, cW, rfl, Hn3.out, own_ext oA2 hme, own_ext oB2 hme, rH.kept hme, F.trans (hme.mono F.size), lH⟩
        }
        }
      case next =>
        rintro a' V ⟨H, g3, n3, ca3, B3, cb3, AW, cW, rfl, hn3, oA3, oB3, rH, hB, lH⟩
        simp only [Exit.then]
        have hSlt := rS.lt
        have rS := rS.kept hB
        have oL := own_ext OL.out hB
        have BV := hbel.trans (hB.mono hsz0)
        obtain ⟨x0, x1, _, _⟩ := rH.two
        obtain ⟨y0, y1, y2, y3⟩ := rS.two
        have nA := own_ne oA3 rS (by decide)
        have nB := own_ne oB3 rS (by decide)
        have nL := own_ne oL rS (by decide)
        have oA4 := own_over (own_over oA3 (grown_set V S 0 (.slice (some ⟨g3, 0, none⟩) n3 ca3)) (fun j hj e => by injection e with e; exact nA j hj e.symm)) (grown_set _ S 1 (.slice B3 16 cb3)) (fun j hj e => by injection e with e; exact nA j hj e.symm)
        have oB4 := own_over (own_over oB3 (grown_set V S 0 (.slice (some ⟨g3, 0, none⟩) n3 ca3)) (fun j hj e => by injection e with e; exact nB j hj e.symm)) (grown_set _ S 1 (.slice B3 16 cb3)) (fun j hj e => by injection e with e; exact nB j hj e.symm)
        have oL4 := own_over (own_over oL (grown_set V S 0 (.slice (some ⟨g3, 0, none⟩) n3 ca3)) (fun j hj e => by injection e with e; exact nL j hj e.symm)) (grown_set _ S 1 (.slice B3 16 cb3)) (fun j hj e => by injection e with e; exact nL j hj e.symm)
        have rS4 := (rS.set_ 0 (.slice (some ⟨g3, 0, none⟩) n3 ca3)).set_ 1 (.slice B3 16 cb3)
        simp only [List.set_cons_zero, List.set_cons_succ] at rS4
        have B4 := (BV.setCell (p := ⟨S, 0, none⟩) hS0 (.slice (some ⟨g3, 0, none⟩) n3 ca3)).setCell (p := ⟨S, 1, none⟩) hS0 (.slice B3 16 cb3)
        have OA4 := Lib.hid oA4
        have OB4 := Lib.hid oB4
        have OL4 := Lib.hid oL4
        have RS4 := Lib.hid rS4
        have BF4 := Lib.hid B4
        clear oA4 oB4 oL4 rS4 B4 nA nB nL oA3 oB3 oL
        have hs1 : ¬ 9223372036854775807 < out.length + (lineR st hw tw).2.length := by have := Hlsm.out; simp only [List.length_nil] at hlenR; omega
        have Hn3 := Lib.hid hn3; clear hn3
        go_wp2_with fail
        go_roundw
        case measure => simp [intOf]; omega
        case rel =>
          refine ⟨k + 1, g3, n3, ca3, B3, cb3, by omega, by go_num, ?_, ?_, ?_, RS4.out, ?_, ?_, OL4.out, BF4.out⟩
          · rw [Hsn.out]; exact Hlok.out
          · rw [Hsn.out]; rw [← str_app]
          · rw [Hsn.out]; exact Hn3.out
          · rw [Hsn.out]; exact OA4.out
          · rw [Hsn.out]; exact OB4.out
    · obtain rfl : k = m := by omega
      have hdl : (cut 10 l).take k = (cut 10 l).dropLast := by rw [List.dropLast_eq_take, Hm.out]; rfl
      rw [hdl] at hok hn oA oB hlenR
      have hdl2 := hdl
      rw [hdl]
      have hrb : runB l = (runL (st0, []) (cut 10 l).dropLast).2 ++ endB (runL (st0, []) (cut 10 l).dropLast).1.1.length := rfl
      clear hdl hdl2
      generalize runL (st0, []) (cut 10 l).dropLast = R at hok hn oA oB hlenR hrb ⊢
      obtain ⟨st, out⟩ := R
      dsimp only at hok hn oA oB hlenR hrb ⊢
      have h7 := hok.len
      obtain ⟨y0, y1, y2, y3⟩ := rS.two
      rw [hn] at h7 hrb
      have hit := itoa_small (n := (n : Nat)) (by omega)
      simp only [List.length_nil] at hlenR
      have hs1 : ¬ 9223372036854775807 < out.length + 9 := by omega
      have hs2 : ¬ 9223372036854775807 < out.length + 9 + (Lib.itoa (n : Nat)).length := by omega
      have hs3 : ¬ 9223372036854775807 < out.length + 9 + (Lib.itoa (n : Nat)).length + 1 := by omega
      have hki : ¬ (k : Int) + 1 < ((k + 1 : Nat) : Int) := by omega
      have Hn := Lib.hid hn; clear hn
      have Hrb := Lib.hid hrb; clear hrb
      have OA := Lib.hid oA; clear oA
      have OB := Lib.hid oB; clear oB
      have OL := Lib.hid oL; clear oL
      have Hok := Lib.hid hok; clear hok
      go_wp2_with fail
      refine (sDec_any (n : Nat) (by omega) _).mono ?_
      rintro e w5 ⟨rfl, b5⟩
      have B5 := hbel.trans (b5.mono hbel.size)
      clear b5
      go_wp2_with fail
      go_ret
      exact ⟨by rw [Hrb.out]; unfold endB; rw [← str_app out, ← str_app oAnts, ← str_app (Lib.itoa _)]; simp only [ByteArray.append_assoc]; rfl, B5⟩
theorem sExecute_big (l : List UInt8) (w : World) (hb : 500 < l.length) : Calls Tryz.prog 17 #[.string ⟨l.toArray⟩] w fun e w' => e = .returned (.string ⟨oLong.toArray⟩) ∧ Below w.heap.size w w' := by
  have hsz : (ByteArray.mk l.toArray).size = l.length := rfl
  have h5 : (500 : Int) < l.length := by omega
  go_enter Tryz.func17, Tryz.ntmps17
  go_wp2_with fail
  go_ret
  exact ⟨rfl, Below.refl _ _⟩
theorem sExecute_all (l : List UInt8) (w : World) : Calls Tryz.prog 17 #[.string ⟨l.toArray⟩] w fun e w' => e = .returned (.string ⟨(exeB l).toArray⟩) ∧ Below w.heap.size w w' := by
  unfold exeB
  by_cases h : 500 < l.length
  · rw [if_pos h]; exact sExecute_big l w h
  · rw [if_neg h]; exact sExecute_run l w h
end Go.Proofs.YtipgpafgampfbaaGreatDoor
