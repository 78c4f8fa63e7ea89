/- strings.SplitSeq at one byte: the function that it returns, walked; and the law on a loop over a function that stores into a box of its own. -/
import Derived.Test.YtbadeopjfmafcaaDoorTxtP
import Derived.Test.YtbadeopjfmafcaaDoorCut
import Derived.Test.YtbadeopjfmafcaaDoorLayI
import Derived.RangeFuncBox
namespace Go.Proofs.YtbadeopjfmafcaaDoor
open Go.RowKit

theorem splitSeq_any (s t : ByteArray) (w : World) : Calls Tryd.prog 65 #[.string s, .string t] w fun e w' =>
    e = .returned (.func (.func 94) #[] #[.pointer (some ⟨w.heap.size + 1, 0, none⟩), .pointer (some ⟨w.heap.size, 0, none⟩), .pointer (some ⟨w.heap.size + 1 + 1, 0, none⟩)]) ∧
      w' = ((w.alloc (.cells #[.string s] 9)).alloc (.cells #[.string t] 9)).alloc (.cells #[.int .i64 0] 3) := by
  go_enter Tryd.func65, Tryd.ntmps65
  go_wp2
  go_ret
  exact ⟨rfl, rfl⟩

/-- The three boxes of the function returned. -/
structure SeqBoxes (S : Nat) (r : List UInt8) (c : UInt8) (W : World) : Prop where
  str : Boxed W S 9 (.string ⟨r.toArray⟩)
  sep : Boxed W (S + 1) 9 (.string ⟨#[c]⟩)
  save : Boxed W (S + 1 + 1) 3 (.int .i64 0)

theorem SeqBoxes.ext {S : Nat} {r : List UInt8} {c : UInt8} {N : Nat} {W W' : World} (h : SeqBoxes S r c W) (hb : Below N W W') (hN : S + 1 + 1 < N) : SeqBoxes S r c W' :=
  ⟨(hb.block _ (by omega)).trans h.str, (hb.block _ (by omega)).trans h.sep, (hb.block _ (by omega)).trans h.save⟩

/-- The length of a string in a cell. -/
def strLen : Option Value → Nat
  | some (.string s) => s.size
  | _ => 0
theorem index_any1 (r : List UInt8) (c : UInt8) (w : World) : Calls Tryd.prog 96 #[.string ⟨r.toArray⟩, .string ⟨#[c]⟩] w fun e w' => e = .returned (.int .i64 (Lib.index r [c])) ∧ w = w' :=
  (Any.strings_Index_one Tryd.laysn143 ⟨r.toArray⟩ c w).mono fun _ _ ⟨he, hw⟩ => ⟨by rw [Lib.index_one]; exact he, hw.symm⟩
theorem SeqBoxes.set {S : Nat} {r : List UInt8} {c : UInt8} {W : World} (h : SeqBoxes S r c W) (r' : List UInt8) : SeqBoxes S r' c (W.setCell ⟨S, 0, none⟩ (.string ⟨r'.toArray⟩)) :=
  ⟨h.str.set _, h.sep.other (by omega) _, h.save.other (by omega) _⟩

set_option maxRecDepth 100000 in
set_option maxHeartbeats 1000000 in
theorem seq1_in (m l S : Nat) (txt : List UInt8) (c : UInt8) (hlen : txt.length ≤ 1048576) (J Jx : List (List UInt8) → World → Prop)
    (hJ : ∀ pre A v, J pre A → J pre (A.setCell ⟨S, 0, none⟩ v))
    (hY : ∀ pre x W, J pre W → pre ++ [x] <+: cut c txt → YieldAt Fence.wide (m - 1) Tryd.prog l #[.string ⟨x.toArray⟩] W fun e W' =>
      (e = .returned (.bool true) ∧ J (pre ++ [x]) W' ∧ ∀ r, SeqBoxes S r c W → SeqBoxes S r c W') ∨ (e = .returned (.bool false) ∧ Jx (pre ++ [x]) W'))
    (W : World) (hB : SeqBoxes S txt c W) (h0 : J [] W) :
    CallsIn Fence.wide m Tryd.prog 94 #[.func (.yield l) #[] #[], .pointer (some ⟨S + 1, 0, none⟩), .pointer (some ⟨S, 0, none⟩), .pointer (some ⟨S + 1 + 1, 0, none⟩)] W fun e W' => (∃ v, e = .returned v) ∧
      (J (cut c txt) W' ∨ (∃ pre, pre <+: cut c txt ∧ Jx pre W')) := by
  refine callsIn_of_wp Tryd.func94 rfl trivial ?_ rfl
  simp only [Tryd.ntmps94, List.size_toArray, List.length_cons, List.length_nil, Nat.reduceAdd, Nat.reduceSub, Array.replicate_succ, Array.replicate_zero, List.push_toArray, List.append_toArray, List.nil_append, List.cons_append]
  have c1 := hB.sep.cell
  have f1 := hB.sep.frozen
  gi_wp2_with fail
  clear c1 f1
  gi_loopw [] (fun wr => ∃ (pre : List (List UInt8)) (r : List UInt8), pre ++ cut c r = cut c txt ∧ r.length ≤ txt.length ∧ SeqBoxes S r c wr ∧ J pre wr) (fun wr => strLen (wr.cell? ⟨S, 0, none⟩))
  case atStart => exact ⟨[], txt, rfl, Nat.le_refl _, hB, h0⟩
  case round =>
    obtain ⟨pre, r, hcut, hrl, hbx, hj⟩ := hrel
    have s0 := hbx.str.cell
    have s1 := hbx.sep.cell
    have s2 := hbx.save.cell
    have z0 := hbx.str.frozen
    have hrs : (ByteArray.mk r.toArray).size = r.length := rfl
    have Hcut := Lib.hid hcut; clear hcut
    have Hbx := Lib.hid hbx; clear hbx
    have Hj := Lib.hid hj; clear hj
    gi_wp2_with fail
    refine ⟨trivial, wideN, (callsIn_wide.2 (index_any1 r c _)).mono ?_⟩
    rintro e w' ⟨rfl, rfl⟩
    obtain ⟨o, ho⟩ : ∃ o, Lib.index r [c] = o := ⟨_, rfl⟩
    have hge : -1 ≤ o := by rw [← ho, Lib.index_one]; exact Lib.indexByte_ge _ _
    rw [ho]
    by_cases hneg : o < 0
    · obtain rfl : o = -1 := by omega
      have hmiss := index_miss ho
      have hlast : cut c r = [r] := cut_none hmiss
      have hcut2 := Hcut.out
      rw [hlast] at hcut2
      have Ho := Lib.hid ho; clear ho
      have Hlast := Lib.hid hlast; clear hlast
      have Hcut2 := Lib.hid hcut2; clear hcut2
      have Hmiss := Lib.hid hmiss; clear hmiss
      obtain ⟨fn, tmps, assign, body, hy, hR⟩ := hY pre r _ Hj.out (by rw [Hcut2.out]; exact ⟨[], by simp⟩)
      have HR := Lib.hid hR; clear hR
      gi_wp2_with fail
      refine ⟨wideN, HR.out.mono ?_⟩
      rintro e W3 (⟨rfl, hJ3, hk3⟩ | ⟨rfl, hJx3⟩)
      · rw [Hcut2.out] at hJ3
        have HJ3 := Lib.hid hJ3; clear hJ3
        clear HR hk3
        gi_wp2_with fail
        go_end0
        exact ⟨⟨_, rfl⟩, .inl HJ3.out⟩
      · rw [Hcut2.out] at hJx3
        have HJx3 := Lib.hid hJx3; clear hJx3
        clear HR
        gi_wp2_with fail
        go_end0
        exact ⟨⟨_, rfl⟩, .inr ⟨_, ⟨[], by simp⟩, HJx3.out⟩⟩
    · obtain ⟨k, rfl⟩ : ∃ k : Nat, o = k := ⟨o.toNat, by omega⟩
      obtain ⟨a, r', hr, hal, hna⟩ := index_split ho
      have hcr : cut c r = a :: cut c r' := by rw [hr]; exact cut_hit _ hna
      have hx := extract_str r 0 k
      have hx2 := extract_str r (k + 1) r.length
      have hp1 : piece r 0 k = a := by rw [hr]; simp [piece, ← hal]
      have hp2 : piece r (k + 1) r.length = r' := by rw [piece_all, hr]; simp [← hal]
      rw [hp1] at hx
      rw [hp2] at hx2
      have hrk : r.length = k + 1 + r'.length := by rw [hr]; simp [hal]; omega
      have hx3 := hx2
      rw [hrk] at hx3
      have Ho := Lib.hid ho; clear ho
      have Hr := Lib.hid hr; clear hr
      have Hal := Lib.hid hal; clear hal
      have Hna := Lib.hid hna; clear hna
      have Hcr := Lib.hid hcr; clear hcr
      have Hp1 := Lib.hid hp1; clear hp1
      have Hp2 := Lib.hid hp2; clear hp2
      obtain ⟨fn, tmps, assign, body, hy, hR⟩ := hY pre a _ Hj.out (by rw [← Hcut.out, Hcr.out]; exact ⟨cut c r', by simp⟩)
      have HR := Lib.hid hR; clear hR
      gi_wp2_with fail
      refine ⟨wideN, HR.out.mono ?_⟩
      rintro e W3 (⟨rfl, hJ3, hk3⟩ | ⟨rfl, hJx3⟩)
      · have hb3 := hk3 _ Hbx.out
        have s0' := hb3.str.cell
        have s1' := hb3.sep.cell
        have z0' := hb3.str.frozen
        clear hk3 HR s0 s1 z0
        have Hb3 := Lib.hid hb3; clear hb3
        have HJ3 := Lib.hid hJ3; clear hJ3
        gi_wp2_with fail
        go_roundw
        case measure =>
          rw [(Hb3.out.set r').str.cell, Hbx.out.str.cell]
          show r'.length < r.length
          omega
        case rel =>
          refine ⟨pre ++ [a], r', ?_, by omega, Hb3.out.set r', hJ _ _ _ HJ3.out⟩
          rw [← Hcut.out, Hcr.out]; simp
      · have HJx3 := Lib.hid hJx3; clear hJx3
        clear HR
        gi_wp2_with fail
        refine bodyPost_ret (results_none rfl _ _ _) rfl ?_
        exact ⟨⟨_, rfl⟩, .inr ⟨_, by rw [← Hcut.out, Hcr.out]; exact ⟨cut c r', by simp⟩, HJx3.out⟩⟩

theorem SeqBoxes.other {S : Nat} {r : List UInt8} {c : UInt8} {A B : World} {row : Option Nat} (h : SeqBoxes S r c A) (hg : A.grownBy B row) (hrow : ∀ k, row = some k → S + 1 + 1 < k) : SeqBoxes S r c B :=
  ⟨h.str.kept hg (fun e => by have := hrow S e.symm; omega), h.sep.kept hg (fun e => by have := hrow _ e.symm; omega), h.save.kept hg (fun e => by have := hrow _ e.symm; omega)⟩

/-- A LOOP OVER THE PIECES OF A TEXT. What the rounds keep of the caller's ('I') says nothing of the iterator's own box. -/
theorem range_split {n : Nat} {g : Operand} {ps : Array Tmp} {assign body : Code} {Q : Exit → Act → World → Prop} {a : Act} {w : World} (S : Nat) (txt : List UInt8) (c : UInt8) (hlen : txt.length ≤ 1048576) (h1 : 1 ≤ n)
    (hg : a.eval g = .func (.func 94) #[] #[.pointer (some ⟨S + 1, 0, none⟩), .pointer (some ⟨S, 0, none⟩), .pointer (some ⟨S + 1 + 1, 0, none⟩)])
    (hB : SeqBoxes S txt c w) (hps : ps.size = 1)
    (I : List (List UInt8) → World → Prop) (Ix : Code → List (List UInt8) → World → Prop)
    (hI : ∀ pre A B row, I pre A → A.grownBy B row → (∀ r, row = some r → r = S ∨ (w.heap.size ≤ r ∧ ∃ o : Obj, A.heap[r]? = some o ∧ o.isCells = false)) → I pre B)
    (hIx : ∀ k pre A B row, Ix k pre A → A.grownBy B row → (∀ r, row = some r → r = S ∨ (w.heap.size ≤ r ∧ ∃ o : Obj, A.heap[r]? = some o ∧ o.isCells = false)) → Ix k pre B)
    (h0 : I [] w) (a₁ : List UInt8 → Act)
    (hassign : ∀ (l : Nat) (x : List UInt8) (W : World) (K : Act → World → Prop), K (a₁ x) W →
      assign.wpIn (Fence.wide.inRound l) (n - 1 - 1) Tryd.prog (Exit.then K (fun _ _ _ => False)) { tmps := (ps.zip #[.string ⟨x.toArray⟩]).foldl (fun t (p, v) => t.setIfInBounds p v) a.tmps, defers := [] } W)
    (hbody : ∀ (l : Nat) (pre : List (List UInt8)) (x : List UInt8) (W : World), I pre W → pre ++ [x] <+: cut c txt →
      body.wpIn (Fence.wide.inRound l) (n - 1 - 1) Tryd.prog (ownPostK (fun A B => ∀ r, SeqBoxes S r c A → SeqBoxes S r c B) I Ix (pre ++ [x]) W) (a₁ x) W)
    (hdone : ∀ (D : Nat) (W : World), w.heap.size ≤ D → I (cut c txt) W → W.heap[D]? = some (.deferred (some [])) → Q .normal { a with defers := { target := .collected D, args := #[] } :: a.defers } W)
    (hstop : ∀ (D : Nat) (k : Code) (pre : List (List UInt8)) (W : World), w.heap.size ≤ D → Ix k pre W → W.heap[D]? = some (.deferred (some [])) → k.wpIn Fence.wide n Tryd.prog Q { a with defers := { target := .collected D, args := #[] } :: a.defers } W) :
    (Code.rangeFunc g ps assign body).wpIn Fence.wide n Tryd.prog Q a w := by
  refine wpIn_rangeFunc fun fn hfn => ?_
  have hSw : S + 1 + 1 < w.heap.size := hB.save.lt
  obtain ⟨D, hD⟩ : ∃ D, w.heap.size = D := ⟨_, rfl⟩
  obtain ⟨rc, hrc⟩ : ∃ rc : LoopState → Option Code → Loop, rc = fun st pe => { state := st, pending := pe, fn, tmps := a.tmps, params := ps, assign, body, defers := D } := ⟨_, rfl⟩
  -- the loop's two blocks
  let Bk : LoopState → Option Code → World → Prop := fun st pe W => W.heap[D + 1]? = some (.loop (rc st pe)) ∧ W.heap[D]? = some (.deferred (some []))
  have put : ∀ {st pe W} (st' : LoopState) (pe' : Option Code), Bk st pe W → Bk st' pe' (W.putObj (D + 1) (.loop (rc st' pe'))) := fun st' pe' h =>
    ⟨World.putObj_heap_same (Array.getElem?_eq_some_iff.1 h.1).1, (World.putObj_heap_other (by omega)).trans h.2⟩
  have keep : ∀ {st pe A B} {row : Option Nat}, Bk st pe A → A.grownBy B row → (∀ r, row = some r → r < D) → Bk st pe B := fun h hgr hr =>
    ⟨(hgr.block _ (Array.getElem?_eq_some_iff.1 h.1).1 (fun e => by have := hr _ e.symm; omega)).trans h.1, (hgr.block _ (Array.getElem?_eq_some_iff.1 h.2).1 (fun e => by have := hr _ e.symm; omega)).trans h.2⟩
  have same : ∀ {st pe A B}, Bk st pe A → KeepsOthers A B → Bk st pe B := fun h hk => ⟨hk.same _ _ h.1 rfl, hk.same _ _ h.2 rfl⟩
  have Iput : ∀ {pre W} {o : Obj} (o' : Obj), I pre W → W.heap[D + 1]? = some o → o.isCells = false → I pre (W.putObj (D + 1) o') := fun o' h ho hc =>
    hI _ _ _ _ h (grownBy_putObj' _ _ o') fun r e => by cases e; exact .inr ⟨by omega, _, ho, hc⟩
  have Xput : ∀ {k pre W} {o : Obj} (o' : Obj), Ix k pre W → W.heap[D + 1]? = some o → o.isCells = false → Ix k pre (W.putObj (D + 1) o') := fun o' h ho hc =>
    hIx _ _ _ _ _ h (grownBy_putObj' _ _ o') fun r e => by cases e; exact .inr ⟨by omega, _, ho, hc⟩
  have bput : ∀ {r W} (o' : Obj), SeqBoxes S r c W → SeqBoxes S r c (W.putObj (D + 1) o') := fun o' h => h.other (grownBy_putObj' _ _ o') fun k e => by cases e; omega
  obtain ⟨W1, hW1⟩ : ∃ W1, (w.alloc (.deferred (some []))).alloc (.loop (rc .ready none)) = W1 := ⟨_, rfl⟩
  have g1 := World.grownBy_alloc w (.deferred (some [])) none
  have g2 := World.grownBy_alloc (w.alloc (.deferred (some []))) (.loop (rc .ready none)) none
  rw [hW1] at g2
  have hb1 : Bk .ready none W1 := by
    refine ⟨?_, ?_⟩
    · have := World.alloc_heap_new (w.alloc (.deferred (some []))) (.loop (rc .ready none))
      rw [hW1, World.size_alloc, hD] at this
      exact this
    · have := World.alloc_heap_new w (.deferred (some []))
      rw [hD] at this
      exact (g2.block D (by simp; omega) (by simp)).trans this
  have hI1 : I [] W1 := hI _ _ _ _ (hI _ _ _ _ h0 g1 (fun r e => by cases e)) g2 (fun r e => by cases e)
  have hB1 : SeqBoxes S txt c W1 := (hB.other g1 (fun k e => by cases e)).other g2 (fun k e => by cases e)
  refine ⟨D + 1, [{ target := .collected D, args := #[] }], W1,
    { target := .fn (.func 94) #[.pointer (some ⟨S + 1, 0, none⟩), .pointer (some ⟨S, 0, none⟩), .pointer (some ⟨S + 1 + 1, 0, none⟩)], args := #[.func (.yield (D + 1)) #[] #[]] }, W1, 94,
    #[.func (.yield (D + 1)) #[] #[], .pointer (some ⟨S + 1, 0, none⟩), .pointer (some ⟨S, 0, none⟩), .pointer (some ⟨S + 1 + 1, 0, none⟩)], W1, ?_, ?_, ?_, ?_, fun _ => h1, ?_⟩
  · rw [← hW1, hrc, ← hD]; exact run_enterLoop_outer _ _ _ _ _
  · simp only [resolve, hg]
    simp [go_sem]
  · intro f' hf'; trivial
  · simp [invoke, go_sem]
  · refine (seq1_in (n - 1) (D + 1) S txt c hlen (fun pre W => I pre W ∧ Bk .ready none W) (fun pre W => ∃ k, Ix k pre W ∧ Bk .done (some k) W) ?_ ?_ W1 hB1 ⟨hI1, hb1⟩).mono ?_
    · intro pre A v h
      have hgr := grownBy_setCell' A S v
      exact ⟨hI _ _ _ _ h.1 hgr fun r e => by cases e; exact .inl rfl, keep h.2 hgr fun r e => by cases e; omega⟩
    · rintro pre x W ⟨hi, hb⟩ hp
      have hy := run_yield (P := Tryd.prog) (args := #[.string ⟨x.toArray⟩]) hb.1 (by rw [hrc]; exact hps.symm)
      rw [hrc] at hy
      refine ⟨fn, _, assign, body, hy, roundIn_of_wpIn hfn (hassign _ x W _ ⟨_, run_beginRound hb.1 (by rw [hrc]), ?_⟩)⟩
      rw [show ({ rc .ready none with state := .busy } : Loop) = rc .busy none by rw [hrc]]
      have hb2 := put .busy none hb
      have hi2 := Iput (.loop (rc .busy none)) hi hb.1 rfl
      refine wpIn_mono (hbody _ pre x _ hi2 hp) ?_
      have fin : ∀ (jump : Option Code) (W3 : World), KeepsOthers (W.putObj (D + 1) (.loop (rc .busy none))) W3 →
          (Instr.endRound (D + 1) jump).run Tryd.prog W3 = .ok (.bool jump.isNone) (W3.putObj (D + 1) (.loop (rc (if jump.isNone then .ready else .done) jump))) ∧ Bk .busy none W3 := fun jump W3 hk3 => by
        have hb3 := same hb2 hk3
        refine ⟨?_, hb3⟩
        have := run_endRound (P := Tryd.prog) jump hb3.1
        rw [hrc] at this ⊢
        exact this
      rintro e a3 W3 hpo
      cases e with
      | normal =>
        obtain ⟨hk3, hkp3, hi3⟩ := hpo
        obtain ⟨hr, hb3⟩ := fin none W3 hk3
        exact ⟨_, _, hr, .inl ⟨rfl, ⟨Iput _ hi3 hb3.1 rfl, put _ _ hb3⟩, fun r h => bput _ (hkp3 r (bput _ h))⟩⟩
      | ret =>
        obtain ⟨hk3, hi3⟩ := hpo
        obtain ⟨hr, hb3⟩ := fin (some .ret) W3 hk3
        exact ⟨_, _, hr, .inr ⟨rfl, .ret, Xput _ hi3 hb3.1 rfl, put _ _ hb3⟩⟩
      | exit id =>
        obtain ⟨hk3, hi3⟩ := hpo
        obtain ⟨hr, hb3⟩ := fin (some (.exit id)) W3 hk3
        exact ⟨_, _, hr, .inr ⟨rfl, .exit id, Xput _ hi3 hb3.1 rfl, put _ _ hb3⟩⟩
      | goto t =>
        obtain ⟨hk3, hi3⟩ := hpo
        obtain ⟨hr, hb3⟩ := fin (some (.goto t)) W3 hk3
        exact ⟨_, _, hr, .inr ⟨rfl, .goto t, Xput _ hi3 hb3.1 rfl, put _ _ hb3⟩⟩
      | panic ch => exact hpo.elim
      | outgrown => exact hpo.elim
    · rintro e W2 ⟨⟨v, rfl⟩, (⟨hi, hb⟩ | ⟨pre, _, k, hi, hb⟩)⟩
      · exact ⟨none, _, by have := run_endLoop (P := Tryd.prog) hb.1 (by rw [hrc]; simp); rw [hrc] at this; exact this, hdone _ _ (by omega) (Iput _ hi hb.1 rfl) ((World.putObj_heap_other (by omega)).trans hb.2)⟩
      · exact ⟨some k, _, by have := run_endLoop (P := Tryd.prog) hb.1 (by rw [hrc]; simp); rw [hrc] at this; exact this, hstop _ k pre _ (by omega) (Xput _ hi hb.1 rfl) ((World.putObj_heap_other (by omega)).trans hb.2)⟩
end Go.Proofs.YtbadeopjfmafcaaDoor
