/- A sky read back: the program's SkyFrom. -/
import Derived.Test.YtbadeopjfmafcaaDoorSkyTx
import Derived.Test.YtbadeopjfmafcaaDoorLibS
import Derived.Test.YtbadeopjfmafcaaDoorA3
namespace Go.Proofs.YtbadeopjfmafcaaDoor
open Go.RowKit

theorem field_size {p : Nat → Bool} {s x : ByteArray} (h : x ∈ Lib.goFieldsP p s) : x.size ≤ s.size := by
  unfold Lib.goFieldsP at h
  obtain ⟨y, _, rfl⟩ := List.mem_map.1 h
  rw [ByteArray.size_extract]; omega
/-- If the numbers of the words are a sky's, they are the sky. -/
theorem read_same {s : ByteArray} {x ys : List Int} (hx : skyV x = true) (hs : s.data.toList = skyB x 16) (hl : ys.length = 16)
    (hy : ∀ j, j < 16 → ∀ n, numOf ((Lib.goFieldsP blankR s).getD j ByteArray.empty).data.toList = some n → ys.getD j 0 = n) : ys = x := by
  have hxl := skyV_len hx
  have hf := sky_fields hxl hs
  have hfl : (Lib.goFieldsP blankR s).length = 16 := by
    have := congrArg List.length hf
    simpa [hxl] using this
  apply List.ext_getElem (by omega)
  intro j h1 h2
  have hj : j < 16 := by omega
  have e1 : ((Lib.goFieldsP blankR s).getD j ByteArray.empty).data.toList = Lib.itoa (x.getD j 0) := by
    have := congrArg (fun l : List (List UInt8) => l[j]?) hf
    simp only [List.getElem?_map] at this
    rw [List.getElem?_eq_getElem (by omega), List.getElem?_eq_getElem (by omega)] at this
    rw [List.getD_eq_getElem?_getD, List.getElem?_eq_getElem (by omega), List.getD_eq_getElem?_getD, List.getElem?_eq_getElem (by omega)]
    simpa using this
  have hb := skyV_get hx j
  have := hy j hj (x.getD j 0) (by rw [e1]; exact numOf_itoa (by omega) (by omega))
  rw [List.getD_eq_getElem?_getD, List.getElem?_eq_getElem h1, List.getD_eq_getElem?_getD, List.getElem?_eq_getElem h2] at this
  exact this

set_option maxRecDepth 100000 in
set_option maxHeartbeats 1000000 in
theorem skyFrom_any (l : List UInt8) (w : World) (hs : l.length ≤ 1048576) (ht : Tab w) (he : Errs w) :
    Calls Tryd.prog 24 #[.string ⟨l.toArray⟩] w fun e w' => ∃ v, e = .returned (.tuple #[v, .bool (readSky l).isSome]) ∧ w'.ownsRow w.heap.size 3 1 v ((readSky l).getD []).length (((readSky l).getD []).map (Value.int .i64)) ∧ Below w.heap.size w w' := by
  have hsz : (ByteArray.mk l.toArray).size = l.length := rfl
  obtain ⟨F, hF⟩ : ∃ F, Lib.goFieldsP blankR ⟨l.toArray⟩ = F := ⟨_, rfl⟩
  have hFs : ∀ x ∈ F, x.size ≤ 1048576 := fun x hx => by
    rw [← hF] at hx
    have := field_size hx
    omega
  go_enter Tryd.func24, Tryd.ntmps24
  go_wp2_with fail
  refine (fields_any ⟨l.toArray⟩ w (by omega)).mono ?_
  rintro e w1 ⟨A, rfl, hr1, b1⟩
  rw [hF] at hr1 ⊢
  have Ht := Lib.hid (ht.ext b1); clear ht
  have He := Lib.hid (he.ext b1); clear he
  by_cases h16 : F.length = 16
  · obtain ⟨N, hN⟩ : ∃ N, F.length = N := ⟨_, rfl⟩
    rw [hN]
    obtain rfl : N = 16 := by omega
    obtain ⟨Z, hZ⟩ : ∃ Z, List.replicate 16 (Value.int .i64 0) = Z := ⟨_, rfl⟩
    have hmk : ∀ W : World, (Instr.makeSlice 22 (.int .i64 16) (.int .i64 16)).run Tryd.prog W = .ok (.slice (some ⟨W.heap.size, 0, none⟩) 16 16) (W.alloc (.cells Z.toArray 3)) := fun W => by
      rw [← hZ]; exact run_make1 (P := Tryd.prog) 22 3 (.int .i64 0) 8 Tryd.underlying22 (by kernel_rfl) rfl 16 (by omega) (by omega) W
    have HF := Lib.hid hF; clear hF
    have HN := Lib.hid hN; clear hN
    have H16 := Lib.hid h16; clear h16
    have HFs := Lib.hid hFs; clear hFs
    have Hsz := Lib.hid hsz; clear hsz
    have Hr1 := Lib.hid (hr1.below (bA1 (o := .cells Z.toArray 3)))
    have HZ := Lib.hid hZ; clear hZ
    go_wp2_with fail
    have hz2 : Z = (List.replicate 16 (0 : Int)).map (Value.int .i64) := by rw [← HZ.out]; rfl
    have r0 := Row.new w1 3 Z
    have hW0 : Below w.heap.size w (w1.alloc (.cells Z.toArray 3)) := b1.alloc b1.size _
    obtain ⟨W, hW⟩ : ∃ W, w1.alloc (.cells Z.toArray 3) = W := ⟨_, rfl⟩
    rw [hW] at Hr1 r0 hW0 ⊢
    have Hb1 := Lib.hid (show Below w1.heap.size w1 W by rw [← hW]; exact bA1)
    have hgl : w1.heap.size < W.heap.size := r0.lt
    have hgw : w.heap.size ≤ w1.heap.size := b1.size
    obtain ⟨g, hg⟩ : ∃ g, w1.heap.size = g := ⟨_, rfl⟩
    rw [hg] at r0 hgl hgw Hr1 ⊢
    have hne : ∀ j, j < 16 → ∃ x, F[j]? = some x := fun j hj => ⟨F[j]'(by rw [H16.out]; exact hj), List.getElem?_eq_getElem _⟩
    have Hz2 := Lib.hid hz2; clear hz2
    have Hg := Lib.hid hg; clear hg
    have HW := Lib.hid hW; clear hW
    have Hgl := Lib.hid hgl; clear hgl
    have Hgw := Lib.hid hgw; clear hgw
    have HW0 := Lib.hid hW0; clear hW0
    clear hmk hr1 b1
    go_loopw [18] (fun i wr => ∃ k : Nat, k ≤ 16 ∧ i = .int .i64 k ∧ ∃ ys : List Int, ys.length = k ∧ (∀ y ∈ ys, -9223372036854775808 ≤ y ∧ y ≤ 9223372036854775807) ∧
      (∀ j, j < k → ∀ n, numOf (F.getD j ByteArray.empty).data.toList = some n → ys.getD j 0 = n) ∧ Row wr g 3 ((ys ++ List.replicate (16 - k) 0).map (Value.int .i64)) ∧ Below g W wr) (fun i _ => 16 - (intOf i).toNat)
    case atStart =>
      refine ⟨0, by omega, rfl, [], rfl, (fun y hy => by cases hy), (fun j hj => by omega), ?_, Below.refl _ _⟩
      rw [Hz2.out] at r0
      exact r0
    case round =>
      obtain ⟨k, hk, rfl, ys, hyl, hyb, hyn, hrow, hbel⟩ := hrel
      have hr' := Hr1.out.below hbel
      have Hbel := Lib.hid hbel; clear hbel
      by_cases hlt : k < 16
      · obtain ⟨x, hx⟩ := hne k hlt
        have hu : (F.map Value.string)[k]? = some (.string x) := by rw [List.getElem?_map, hx]; rfl
        obtain ⟨b, off, hA, hb2, hc1⟩ := hr' k _ hu
        injection hA with hA
        injection hA with hA1 hA2
        subst hA1 hA2
        rw [Nat.zero_add] at hc1
        have hxs := HFs.out x (List.mem_of_getElem? hx)
        have hcl : (((ys ++ List.replicate (16 - k) 0).map (Value.int .i64)))[k]? = some (.int .i64 0) := by
          rw [List.getElem?_map, List.getElem?_append_right (by omega), hyl, Nat.sub_self, List.getElem?_replicate, if_pos (by omega)]; rfl
        have Hyl := Lib.hid hyl; clear hyl
        have Hyb := Lib.hid hyb; clear hyb
        have Hyn := Lib.hid hyn; clear hyn
        have Hrow := Lib.hid hrow; clear hrow
        have Hu := Lib.hid hu; clear hu
        have Hx := Lib.hid hx; clear hx
        have Hcl := Lib.hid hcl; clear hcl
        clear hr'
        go_wp2_with fail
        refine (atoi_any x _ hxs (He.out.ext (Hb1.out.trans (by rw [Hg.out]; exact Hbel.out)))).mono ?_
        rintro e w2 ⟨v, err, rfl, hvb, hvn, b2⟩
        have hrow2 := Hrow.out.kept b2
        have c2 : w2.cell? ⟨g, k, none⟩ = some (.int .i64 0) := by rw [hrow2.cell]; exact Hcl.out
        have f2 := hrow2.frozen k
        have Hb2 := Lib.hid (Hbel.out.trans (b2.mono (Nat.le_of_lt (Nat.lt_of_lt_of_le Hgl.out Hbel.out.size))))
        have Hrow2 := Lib.hid hrow2; clear hrow2
        have Hvb := Lib.hid hvb; clear hvb
        have Hvn := Lib.hid hvn; clear hvn
        clear b2
        go_wp2_with fail
        go_roundw
        case measure => simp [intOf]; omega
        case rel =>
          refine ⟨k + 1, by omega, by go_num, ys ++ [v], by rw [List.length_append, Hyl.out]; rfl, fun y hy => ?_, fun j hj m hm => ?_, ?_, Hb2.out.setCell (p := ⟨g, k, none⟩) (Nat.le_refl _) _⟩
          · rcases List.mem_append.1 hy with hy | hy
            · exact Hyb.out y hy
            · rw [List.mem_singleton.1 hy]; exact Hvb.out
          · by_cases hjk : j < k
            · have := Hyn.out j hjk m hm
              rw [List.getD_eq_getElem?_getD, List.getElem?_append_left (by rw [Hyl.out]; exact hjk), ← List.getD_eq_getElem?_getD]
              exact this
            · obtain rfl : j = k := by omega
              rw [List.getD_eq_getElem?_getD, Hx.out] at hm
              rw [List.getD_eq_getElem?_getD, List.getElem?_append_right (by rw [Hyl.out]; exact Nat.le_refl _), Hyl.out, Nat.sub_self]
              exact Hvn.out m hm
          · have h3 := Hrow2.out.set_ k (.int .i64 v)
            have e3 : ((ys ++ List.replicate (16 - k) 0).map (Value.int .i64)).set k (.int .i64 v) = ((ys ++ [v]) ++ List.replicate (16 - (k + 1)) 0).map (Value.int .i64) := by
              rw [show 16 - k = (16 - (k + 1)) + 1 by omega, List.replicate_succ, List.map_append, List.map_append, List.map_append, List.map_cons]
              rw [List.set_append_right _ _ (by rw [List.length_map, Hyl.out]; exact Nat.le_refl _), List.length_map, Hyl.out, Nat.sub_self]
              simp
            rw [e3] at h3
            exact h3
      · obtain rfl : k = 16 := by omega
        rw [Nat.sub_self, List.replicate_zero, List.append_nil] at hrow
        have hlast : ∀ x, skyV x = true → l = skyB x 16 → ys = x := fun x hx hl => by
          refine read_same (s := ⟨l.toArray⟩) hx (by simpa using hl) hyl fun j hj n hn => ?_
          rw [HF.out] at hn
          exact hyn j hj n hn
        have hne0 : l ≠ [] := fun e => by
          have h1 := HF.out
          rw [e, fields_empty blankR ⟨([] : List UInt8).toArray⟩ rfl] at h1
          have h2 := H16.out
          rw [← h1] at h2
          cases h2
        have hrow' := hrow
        have Hrow := Lib.hid hrow; clear hrow
        have Hlast := Lib.hid hlast; clear hlast
        have Hne0 := Lib.hid hne0; clear hne0
        have Hyl := Lib.hid hyl; clear hyl
        have Hyb := Lib.hid hyb; clear hyb
        have Hyn := Lib.hid hyn; clear hyn
        go_wp2_with fail
        refine (skyText_any (some ⟨g, 0, none⟩) 16 16 ys _ Hyl.out (by omega) hrow'.rd (Ht.out.ext (Hb1.out.trans (by rw [Hg.out]; exact Hbel.out)))).mono ?_
        rintro e w2 ⟨rfl, b2⟩
        have Hrow2 := Lib.hid (hrow'.kept b2)
        have Hb2 := Lib.hid (Hbel.out.trans (b2.mono (Nat.le_of_lt (Nat.lt_of_lt_of_le Hgl.out Hbel.out.size))))
        clear b2 hrow' hr'
        by_cases hq : skyStr ys = l
        · have hqb : (skyStr ys == l) = true := by rw [beq_iff_eq]; exact hq
          have hv : skyV ys = true := by
            cases hv : skyV ys
            · rw [skyStr_no hv] at hq; exact absurd hq.symm Hne0.out
            · rfl
          have Hread := Lib.hid (readSky_some.2 ⟨hv, by rw [← hq, skyStr_yes hv]⟩ : readSky l = some ys)
          have Hq := Lib.hid hq; clear hq
          have Hv := Lib.hid hv; clear hv
          go_wp2_with fail
          go_ret2
          refine ⟨.slice (some ⟨g, 0, none⟩) 16 16, by rw [Hread.out]; rfl, ?_, HW0.out.trans (Hb2.out.mono Hgw.out)⟩
          rw [Hread.out, Option.getD_some, Hyl.out]
          exact Hrow2.out.own Hgw.out (by rw [List.length_map, Hyl.out]) (by unfold maxLen; omega)
        · have hqb : (skyStr ys == l) = false := by rw [beq_eq_false_iff_ne]; exact hq
          have Hread := Lib.hid (readSky_none fun x hx hl => by have := Hlast.out x hx hl; subst this; exact hq (by rw [skyStr_yes hx, hl]) : readSky l = none)
          have Hq := Lib.hid hq; clear hq
          go_wp2_with fail
          go_ret2
          refine ⟨.slice none 0 0, by rw [Hread.out]; rfl, ?_, HW0.out.trans (Hb2.out.mono Hgw.out)⟩
          rw [Hread.out]
          exact World.ownsRow_nil _ _ _ _
  · have hne : ((F.length : Int) == 16) = false := by rw [beq_eq_false_iff_ne]; omega
    have hno : readSky l = none := readSky_none fun x hx hl => by
      have := sky_fields (s := ⟨l.toArray⟩) (skyV_len hx) (by simpa using hl)
      rw [hF] at this
      have := congrArg List.length this
      rw [List.length_map, List.length_map, skyV_len hx] at this
      exact h16 this
    have HF := Lib.hid hF; clear hF
    have H16 := Lib.hid h16; clear h16
    have Hno := Lib.hid hno; clear hno
    go_wp2_with fail
    go_ret2
    refine ⟨.slice none 0 0, by rw [Hno.out]; rfl, ?_, b1⟩
    rw [Hno.out]
    exact World.ownsRow_nil _ _ _ _
end Go.Proofs.YtbadeopjfmafcaaDoor
