/- The program's Execute. -/
import Derived.Test.YtipgpafgampfbaaGreatDoorRunE
import Derived.Test.YtipgpafgampfbaaGreatDoorRunO
import Derived.Test.YtipgpafgampfbaaGreatDoorPin
import Derived.ChangeAgain
namespace Go.Proofs.YtipgpafgampfbaaGreatDoor
open Go.RowKit

theorem shapedB {w W : World} (h : w.ShapedOpen Tryz.prog) (hb : Below w.heap.size w W) : W.ShapedOpen Tryz.prog := h.keptBut (hb.frame fun _ => False) fun _ hp => hp.elim
theorem own_others {w w' : World} {B e s n b : Nat} {v : Value} {xs : List Value} (h : w.ownsRow B e s v n xs) (hk : Lib.OthersKept 5 (some b) w w') (he : e ≠ 5) (hb : ∀ cs fz, w.heap[b]? ≠ some (.cells cs e fz)) : w'.ownsRow B e s v n xs :=
  own_keep h fun j hj => by
    obtain ⟨_, _, cs, fr, hc⟩ := own_lt h hj
    exact (hk j _ hc (fun e2 => by injection e2 with e2; subst e2; exact hb _ _ hc) (fun c fz e2 => by injection e2 with _ e3 _; exact he e3)).trans hc.symm
theorem IsS.others {B0 S b : Nat} {s : St} {w w' : World} (h : IsS B0 S s w) (hk : Lib.OthersKept 5 (some b) w w') (hb : ∃ cs, w.heap[b]? = some (.cells cs 71 (0, 0))) : IsS B0 S s w' := by
  obtain ⟨h0, A, c, B, d, h1, h2, h3⟩ := h
  obtain ⟨cs, hbb⟩ := hb
  refine ⟨h0, A, c, B, d, ?_, own_others h2 hk (by decide) (fun c2 fz e => ?_), own_others h3 hk (by decide) (fun c2 fz e => ?_)⟩
  · exact hk S _ h1 (fun e => by
      injection e with e
      rw [← e, show w.heap[S]? = _ from h1] at hbb
      injection hbb with hbb
      injection hbb with _ h4
      revert h4
      decide) (fun c fz e => by injection e with _ e3 _; revert e3; decide)
  · rw [hbb] at e; injection e with e; injection e with _ e3; revert e3; decide
  · rw [hbb] at e; injection e with e; injection e with _ e3; revert e3; decide
theorem row_others {w w' : World} {b g : Nat} {T : TypeId} {xs : List Value} (h : Row w g T xs) (hk : Lib.OthersKept 5 (some b) w w') (hT : T ≠ 5) (hb : ∃ cs, w.heap[b]? = some (.cells cs 71 (0, 0))) (hT2 : T ≠ 71) : Row w' g T xs := by
  obtain ⟨cs, hbb⟩ := hb
  exact hk g _ h (fun e => by
      injection e with e
      rw [← e, show w.heap[g]? = _ from h] at hbb
      injection hbb with hbb
      injection hbb with _ h4
      exact hT2 h4) (fun c fz e => by injection e with _ e3 _; exact hT e3)
theorem isB_kept {B0 S B b : Nat} {bs : List Value} {w w' : World} (h : IsB B b bs w) (hk : SKept B0 S w w') (hS : ∃ xs, Row w S 68 xs) : IsB B b bs w' := by
  obtain ⟨xs, hR⟩ := hS
  have key : ∀ p, Lib.BuilderAt 71 5 B b p bs w → Lib.BuilderAt 71 5 B b p bs w' := fun p hp => by
    obtain ⟨h1, v, h2, h3, h4⟩ := hp
    refine ⟨h1, v, ?_, own_keep h3 fun j hj => ?_, h4⟩
    · exact hk.keep b _ h2 (fun e => by
        subst e
        rw [show w.heap[b]? = _ from hR] at h2
        injection h2 with h2
        injection h2 with _ h5
        revert h5
        decide) (fun c fz e => by injection e with _ e3 _; exact absurd e3 (by decide)) (fun c fz e => by injection e with _ e3 _; exact absurd e3 (by decide))
    · obtain ⟨_, _, cs, fr, hc⟩ := own_lt h3 hj
      exact (hk.keep j _ hc (own_neS h3 hR (by decide) j hj) (fun c fz e => by injection e with _ e3 _; exact absurd e3 (by decide)) (fun c fz e => by injection e with _ e3 _; exact absurd e3 (by decide))).trans hc.symm
  exact h.imp (key _) (key _)
theorem row_kept {B0 S g : Nat} {T : TypeId} {xs : List Value} {w w' : World} (h : Row w g T xs) (hk : SKept B0 S w w') (hg : g ≠ S) (h1 : T ≠ 50) (h2 : T ≠ 3) : Row w' g T xs :=
  hk.keep g _ h hg (fun c fz e => by injection e with _ e3 _; exact absurd e3 h1) (fun c fz e => by injection e with _ e3 _; exact absurd e3 h2)
theorem isB_heap {B b : Nat} {bs : List Value} {w : World} (h : IsB B b bs w) : ∃ cs, w.heap[b]? = some (.cells cs 71 (0, 0)) := by
  rcases h with ⟨_, v, h, _⟩ | ⟨_, v, h, _⟩
  · exact ⟨_, h⟩
  · exact ⟨_, h⟩

theorem execute_big (l : List UInt8) (w : World) (hb : 500 < l.length) : Calls Tryz.prog 16 #[.string ⟨l.toArray⟩] w fun e w' => e = .returned (.string ⟨oLong.toArray⟩) ∧ Below w.heap.size w w' := by
  have hsz : (ByteArray.mk l.toArray).size = l.length := rfl
  have h5 : (500 : Int) < l.length := by omega
  go_enter Tryz.func16, Tryz.ntmps16
  go_wp2_with fail
  go_ret
  exact ⟨rfl, Below.refl _ _⟩
theorem isB_at {B b : Nat} {bs : List Value} {w : World} (h : IsB B b bs w) : ∃ p, Lib.BuilderAt 71 5 B b p bs w := by
  rcases h with h | h
  · exact ⟨_, h⟩
  · exact ⟨_, h⟩
theorem byteCells_app (a b : List UInt8) : Lib.byteCells (a ++ b) = Lib.byteCells a ++ Lib.strCells ⟨b.toArray⟩ := by simp [Lib.byteCells, Lib.strCells]
set_option maxRecDepth 100000 in
set_option maxHeartbeats 1000000 in
theorem execute_run (l : List UInt8) (w : World) (hs : ¬ 500 < l.length) (ht : Tab w) (hsh : w.ShapedOpen Tryz.prog) : Calls Tryz.prog 16 #[.string ⟨l.toArray⟩] w fun e w' => e = .returned (.string ⟨(runB l).toArray⟩) ∧ Below w.heap.size w w' := by
  obtain ⟨Z, hZ⟩ : ∃ Z, List.replicate 16 (Value.int .i64 0) = Z := ⟨_, rfl⟩
  have hmk : ∀ W : World, (Instr.makeSlice 32 (.int .i64 16) (.int .i64 16)).run Tryz.prog W = .ok (.slice (some ⟨W.heap.size, 0, none⟩) 16 16) (W.alloc (.cells Z.toArray 3)) := fun W => by
    rw [← hZ]; exact run_make1 (P := Tryz.prog) 32 3 (.int .i64 0) 8 Tryz.underlying32 (by kernel_rfl) rfl 16 (by omega) (by omega) W
  have hz2 : Z = zeros16.map (Value.int .i64) := by rw [← hZ]; unfold zeros16; rw [List.map_replicate]
  have hsz : (ByteArray.mk l.toArray).size = l.length := rfl
  have h5 : ¬ (500 : Int) < l.length := by omega
  have Hz2 := Lib.hid hz2; clear hz2
  clear hZ
  go_enter Tryz.func16, Tryz.ntmps16
  go_wp2_with fail
  have rZ := Row.new w 3 Z
  have s1 : IsS w.heap.size (w.heap.size + 1) st0 (((w.alloc (.cells Z.toArray 3)).alloc (.cells #[.slice none 0 0, .slice (some ⟨w.heap.size, 0, none⟩) 16 16] 68)).alloc (.cells #[.pointer none, .slice none 0 0] 71)) := by
    refine ⟨by omega, none, 0, some ⟨w.heap.size, 0, none⟩, 16, ?_, World.ownsRow_nil _ _ _ _, ?_⟩
    · exact (Row.new1 w (.cells Z.toArray 3) 68 [.slice none 0 0, .slice (some ⟨w.heap.size, 0, none⟩) 16 16]).alloc _
    · refine World.ownsRow.alloc (World.ownsRow.alloc ?_ _) _
      show (w.alloc (.cells Z.toArray 3)).ownsRow w.heap.size 3 1 (.slice (some ⟨w.heap.size, 0, none⟩) 16 16) 16 (zeros16.map (Value.int .i64))
      rw [← Hz2.out]
      exact rZ.own (Nat.le_refl _) (by rw [Hz2.out]; rfl) (by unfold maxLen; omega)
  have hB1 := fresh_isB ((w.alloc (.cells Z.toArray 3)).alloc (.cells #[.slice none 0 0, .slice (some ⟨w.heap.size, 0, none⟩) 16 16] 68))
  have b1 : Below w.heap.size w (((w.alloc (.cells Z.toArray 3)).alloc (.cells #[.slice none 0 0, .slice (some ⟨w.heap.size, 0, none⟩) 16 16] 68)).alloc (.cells #[.pointer none, .slice none 0 0] 71)) := bA3
  simp only [World.size_alloc] at hB1
  have hsW1 : (((w.alloc (.cells Z.toArray 3)).alloc (.cells #[.slice none 0 0, .slice (some ⟨w.heap.size, 0, none⟩) 16 16] 68)).alloc (.cells #[.pointer none, .slice none 0 0] 71)).heap.size = w.heap.size + 3 := by simp
  obtain ⟨W1, hW1⟩ : ∃ W1, (((w.alloc (.cells Z.toArray 3)).alloc (.cells #[.slice none 0 0, .slice (some ⟨w.heap.size, 0, none⟩) 16 16] 68)).alloc (.cells #[.pointer none, .slice none 0 0] 71)) = W1 := ⟨_, rfl⟩
  rw [hW1] at s1 hB1 b1 hsW1 ⊢
  clear hW1 rZ hmk
  refine (split_any ⟨l.toArray⟩ 10 W1 (by omega) (shapedB hsh b1)).mono ?_
  rintro e W2 ⟨ls, rfl, hls, rL, b2⟩
  rw [show (ByteArray.mk l.toArray).data.toList = l from rfl] at hls
  rw [strs_of, hls] at rL
  have hcl : ls.length = (cut 10 l).length := by rw [← hls]; simp
  obtain ⟨m, hm⟩ : ∃ m, (cut 10 l).length = m + 1 := ⟨(cut 10 l).length - 1, by have := List.length_pos_iff.2 (cut_ne 10 l); omega⟩
  have hcnt : (cut 10 l).length ≤ 501 := by rw [cut_len]; have := List.count_le_length (a := (10 : UInt8)) (l := l); omega
  have hbs1 := b1.size
  have s2 := s1.ext b2
  have hB2 := hB1.ext b2
  have B2 := b1.trans (b2.mono b1.size)
  obtain ⟨gL, hgL⟩ : ∃ gL, W1.heap.size = gL := ⟨_, rfl⟩
  rw [hgL] at rL hsW1 ⊢
  have hlsm : ls.length = m + 1 := by omega
  rw [hlsm]
  have hSl : ∀ W : World, (Instr.sliceAt 72 (.slice (some ⟨gL, 0, none⟩) (m + 1) (m + 1)) none (some (.int .i64 m)) none).run Tryz.prog W = .ok (.slice (some ⟨gL, 0, none⟩) m (m + 1)) W := fun W => run_head (s := 1) (P := Tryz.prog) (t := 72) (e := 9) (by kernel_rfl) (by kernel_rfl) _ _ _ _ (by omega) W
  have hm500 : m ≤ 500 := by omega
  have hwm : wrap64 (m : Int) = m := IntWalk.wrap64_in _ (by omega)
  clear hls hlsm hcl hgL b1 b2 hbs1 s1 hB1
  have Hm := Lib.hid hm; clear hm
  have HB2 := Lib.hid hB2; clear hB2
  have HsW1 := Lib.hid hsW1; clear hsW1
  go_wp2_with fail
  go_loopw [23] (fun i wr => ∃ k : Nat, k ≤ m ∧ i = .int .i64 k ∧ StOk (runL (st0, []) ((cut 10 l).take k)).1 ∧ IsS w.heap.size (w.heap.size + 1) (runL (st0, []) ((cut 10 l).take k)).1 wr ∧ IsB (w.heap.size + 1 + 1) (w.heap.size + 1 + 1) (Lib.byteCells (runL (st0, []) ((cut 10 l).take k)).2) wr ∧
    Row wr gL 9 (strs (cut 10 l)) ∧ Below w.heap.size w wr) (fun i _ => m - (intOf i).toNat)
  case atStart => exact ⟨0, by omega, rfl, st0_ok, s2, HB2.out, rL, B2⟩
  case round =>
    obtain ⟨k, hk, rfl, hok, hIS, hIB, hRL, hbel⟩ := hrel
    have hsz0 := hbel.size
    have hlenR := runL_small (st0, []) ((cut 10 l).take k)
    rw [List.length_take] at hlenR
    by_cases hlt : k < m
    · obtain ⟨x, hx⟩ : ∃ x, (cut 10 l)[k]? = some x := ⟨_, List.getElem?_eq_getElem (by rw [Hm.out]; omega)⟩
      have hxg : (strs (cut 10 l))[k]? = some (.string ⟨x.toArray⟩) := by unfold strs; rw [List.getElem?_map, hx]; rfl
      have cx := hRL.cell k
      rw [hxg] at cx
      have hxl := cut_size (List.mem_of_getElem? hx)
      have hsn : runL (st0, []) ((cut 10 l).take (k + 1)) = ((lineW (runL (st0, []) ((cut 10 l).take k)).1 (cut 32 x)).1, (runL (st0, []) ((cut 10 l).take k)).2 ++ (lineW (runL (st0, []) ((cut 10 l).take k)).1 (cut 32 x)).2) := by
        rw [List.take_add_one, hx]; exact runL_snoc _ _ _
      generalize hR : runL (st0, []) ((cut 10 l).take k) = R at *
      obtain ⟨st, out⟩ := R
      dsimp only at hok hIS hIB hlenR hsn
      have hsp := split_any ⟨x.toArray⟩ 32 wr (by show x.length ≤ _; omega) (shapedB hsh hbel)
      have Hsn := Lib.hid hsn; clear hsn
      have HR := Lib.hid hR; clear hR
      have Hx := Lib.hid hx; clear hx
      have Hxg := Lib.hid hxg; clear hxg
      have HIB := Lib.hid hIB; clear hIB
      go_wp2_with fail
      refine hsp.mono ?_
      rintro e W3 ⟨ws, rfl, hws, rW, b3⟩
      rw [strs_of, hws] at rW
      have hwl : ws.length = (cut 32 x).length := by rw [← hws]; simp
      obtain ⟨nW, hnW⟩ : ∃ nW, (cut 32 x).length = nW := ⟨_, rfl⟩
      have hnb : nW ≤ 1000 := by rw [← hnW, cut_len]; have := List.count_le_length (a := (32 : UInt8)) (l := x); omega
      rw [hwl, hnW]
      have B3 := hbel.trans (b3.mono hsz0)
      have hsz3 := B3.size
      have hIB3 := HIB.out.ext b3
      obtain ⟨_, _, _, _, _, hR3, _, _⟩ := hIS.ext b3
      have hRL3 := hRL.kept b3
      have hex := execute_any w.heap.size (w.heap.size + 1) nW nW (some ⟨wr.heap.size, 0, none⟩) (cut 32 x) st W3 hnW.symm (Nat.le_refl _) hnb (cut_ne 32 x) (fun y hy => by have := cut_size hy; omega) (hIS.ext b3) hok (ht.ext B3) rW.rd
      clear hws hwl hnW b3 hIS hRL cx
      have HIB3 := Lib.hid hIB3; clear hIB3
      go_wp2_with fail
      refine hex.mono ?_
      rintro e W4 ⟨said, ok, rfl, hsaid, hS4, hK4⟩
      have hSok := lineR_ok hok ((cut 32 x).headD []) (cut 32 x).tail
      have hsm := (lineR_small st ((cut 32 x).headD []) (cut 32 x).tail).1
      have hIB4 := isB_kept HIB3.out hK4 ⟨_, hR3⟩
      have hRL4 := row_kept hRL3 hK4 (by have := HsW1.out; omega) (by decide) (by decide)
      have B4 := hK4.below B3 (Nat.le_refl _) (by omega) (Nat.le_refl _)
      have hsz4 := B4.size
      clear hK4 hR3 hRL3
      have hln : (lineR st ((cut 32 x).headD []) (cut 32 x).tail) = lineW st (cut 32 x) := rfl
      rw [hln] at hSok hsm
      generalize hr' : lineW st (cut 32 x) = r' at *
      obtain ⟨st', said'⟩ := r'
      dsimp only at hSok hsm hsaid hS4
      have Hsaid := Lib.hid hsaid; clear hsaid
      have HSok := Lib.hid hSok; clear hSok
      have HIB4 := Lib.hid hIB4; clear hIB4
      have HS4 := Lib.hid hS4; clear hS4
      cases ok
      · go_wp2_with fail
        refine (writeString_k (w.heap.size + 1 + 1) (w.heap.size + 1 + 1) _ ⟨(oNo).toArray⟩ W4 HIB4.out (by rw [Lib.byteCells_length]; have e : (ByteArray.mk (oNo).toArray).size = (oNo).length := rfl; simp only [List.length_nil] at hlenR; have : oNo.length = 3 := rfl; omega) (by have := Lib.BuilderAt.lt (T := 71) (e := 5) (isB_at HIB4.out).choose_spec; omega)).mono ?_
        rintro e W5 ⟨rfl, hBA, hbB, hbO⟩
        have hS5 := HS4.out.others hbO (isB_heap HIB4.out)
        have hRL5 := row_others hRL4 hbO (by decide) (isB_heap HIB4.out) (by decide)
        have hB5 := hBA.isB
        have B5 := B4.trans (hbB.mono (by omega))
        clear hBA hbB hbO
        have HS5 := Lib.hid hS5; clear hS5
        have HB5 := Lib.hid hB5; clear hB5
        go_wp2_with fail
        go_roundw
        case measure => simp [intOf]; omega
        case rel =>
          refine ⟨k + 1, by omega, by go_num, ?_, ?_, ?_, hRL5, B5⟩
          · rw [Hsn.out]; exact HSok.out
          · rw [Hsn.out]; exact HS5.out
          · rw [Hsn.out]
            have := HB5.out
            dsimp only
            rw [Hsaid.out, byteCells_app]
            exact this
      · go_wp2_with fail
        refine (writeString_k (w.heap.size + 1 + 1) (w.heap.size + 1 + 1) _ ⟨(said).toArray⟩ W4 HIB4.out (by rw [Lib.byteCells_length]; have e : (ByteArray.mk (said).toArray).size = (said).length := rfl; have := Hsaid.out; simp only [if_true] at this; rw [this] at hsm; simp only [List.length_nil] at hlenR; omega) (by have := Lib.BuilderAt.lt (T := 71) (e := 5) (isB_at HIB4.out).choose_spec; omega)).mono ?_
        rintro e W5 ⟨rfl, hBA, hbB, hbO⟩
        have hS5 := HS4.out.others hbO (isB_heap HIB4.out)
        have hRL5 := row_others hRL4 hbO (by decide) (isB_heap HIB4.out) (by decide)
        have hB5 := hBA.isB
        have B5 := B4.trans (hbB.mono (by omega))
        clear hBA hbB hbO
        have HS5 := Lib.hid hS5; clear hS5
        have HB5 := Lib.hid hB5; clear hB5
        go_wp2_with fail
        go_roundw
        case measure => simp [intOf]; omega
        case rel =>
          refine ⟨k + 1, by omega, by go_num, ?_, ?_, ?_, hRL5, B5⟩
          · rw [Hsn.out]; exact HSok.out
          · rw [Hsn.out]; exact HS5.out
          · rw [Hsn.out]
            have := HB5.out
            dsimp only
            rw [Hsaid.out, byteCells_app]
            exact this
    · obtain rfl : k = m := by omega
      have hdl : (cut 10 l).take k = (cut 10 l).dropLast := by rw [List.dropLast_eq_take, Hm.out]; rfl
      rw [hdl] at hok hIS hIB hlenR
      have hrb : runB l = (runL (st0, []) (cut 10 l).dropLast).2 ++ endB (runL (st0, []) (cut 10 l).dropLast).1.1.length := rfl
      clear hdl
      generalize runL (st0, []) (cut 10 l).dropLast = R at hok hIS hIB hlenR hrb
      obtain ⟨st, out⟩ := R
      dsimp only at hok hIS hIB hlenR hrb
      obtain ⟨_, A3, c3, B3, d3, hRow, hAn, hSk⟩ := hIS
      have y0 := hRow.cell 0
      simp only [List.getElem?_cons_zero] at y0
      have h7 := hok.len
      have hit := itoa_small (n := (st.1.length : Nat)) (by omega)
      have hs1 : ¬ 9223372036854775807 < 9 + (Lib.itoa (st.1.length : Nat)).length := by omega
      have hs2 : ¬ 9223372036854775807 < 9 + (Lib.itoa (st.1.length : Nat)).length + 1 := by omega
      have hitA := itoa_any (st.1.length : Nat) (by omega) wr (ht.ext hbel)
      have hE : (⟨#[97, 110, 116, 101, 110, 110, 97, 115, 32]⟩ ++ ⟨(Lib.itoa (st.1.length : Nat)).toArray⟩ ++ ⟨#[10]⟩ : ByteArray) = ⟨(endB st.1.length).toArray⟩ := by
        unfold endB
        rw [← str_app, ← str_app, ByteArray.append_assoc]; rfl
      have hel : (endB st.1.length).length ≤ 40 := by unfold endB; simp [oAnts]; omega
      obtain ⟨q, hq⟩ : ∃ q, st.1.length = q := ⟨_, rfl⟩
      rw [hq] at hrb y0 hitA hE hel hit hs1 hs2
      have Hrb := Lib.hid hrb; clear hrb
      have HAn := Lib.hid hAn; clear hAn
      have HSk := Lib.hid hSk; clear hSk
      have HIB := Lib.hid hIB; clear hIB
      have HE := Lib.hid hE; clear hE
      have Hq := Lib.hid hq; clear hq
      have Hel := Lib.hid hel; clear hel
      clear hRL
      go_wp2_with fail
      refine hitA.mono ?_
      rintro e W4 ⟨rfl, b4⟩
      have B4 := hbel.trans (b4.mono hsz0)
      have hsz4 := B4.size
      have hIB4 := HIB.out.ext b4
      clear b4 hitA
      have HIB4 := Lib.hid hIB4; clear hIB4
      go_wp2_with fail
      rw [HE.out]
      have hbl := Lib.BuilderAt.lt (T := 71) (e := 5) (isB_at HIB4.out).choose_spec
      refine (writeString_any (w.heap.size + 1 + 1) (w.heap.size + 1 + 1) _ ⟨(endB q).toArray⟩ W4 HIB4.out (by rw [Lib.byteCells_length]; have e : (ByteArray.mk (endB q).toArray).size = (endB q).length := rfl; have := Hel.out; simp only [List.length_nil] at hlenR; omega) (by omega)).mono ?_
      rintro e W5 ⟨rfl, hBA, hbB⟩
      have hB5 := hBA.isB
      rw [← byteCells_app, ← Hrb.out] at hB5
      have B5 := B4.trans (hbB.mono (by omega))
      have hbl5 := Lib.BuilderAt.lt (T := 71) (e := 5) (isB_at hB5).choose_spec
      clear hBA hbB
      have HB5 := Lib.hid hB5; clear hB5
      go_wp2_with fail
      refine (bString_any _ _ (runB l) W5 HB5.out (by omega)).mono ?_
      rintro e W6 ⟨rfl, b6⟩
      have B6 := B5.trans (b6.mono (by omega))
      clear b6
      go_wp2_with fail
      go_ret
      exact ⟨rfl, B6⟩
theorem execute_all (l : List UInt8) (w : World) (ht : Tab w) (hsh : w.ShapedOpen Tryz.prog) : Calls Tryz.prog 16 #[.string ⟨l.toArray⟩] w fun e w' => e = .returned (.string ⟨(exeB l).toArray⟩) ∧ Below w.heap.size w w' := by
  unfold exeB
  by_cases h : 500 < l.length
  · rw [if_pos h]; exact execute_big l w h
  · rw [if_neg h]; exact execute_run l w h ht hsh
end Go.Proofs.YtipgpafgampfbaaGreatDoor
