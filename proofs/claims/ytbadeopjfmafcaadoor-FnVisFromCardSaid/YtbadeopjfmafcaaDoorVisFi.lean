/- Visibilities read back: the program's VisFrom. -/
import Derived.Test.YtbadeopjfmafcaaDoorSplitI
import Derived.Test.YtbadeopjfmafcaaDoorVisTi
import Derived.Test.YtbadeopjfmafcaaDoorVisL
import Derived.Test.YtbadeopjfmafcaaDoorLibS
import Derived.Test.YtbadeopjfmafcaaDoorTxtI
import Derived.Test.YtbadeopjfmafcaaDoorSkyFs
import Derived.ChangeAgain
import Derived.OwnWalkIn
namespace Go.Proofs.YtbadeopjfmafcaaDoor
open Go.RowKit
attribute [local go_sem] Oper.semAt_some

theorem shaped_ext {w W : World} (h : w.ShapedOpen Tryd.prog) (hb : Below w.heap.size w W) : W.ShapedOpen Tryd.prog := h.keptBut (hb.frame fun _ => False) fun _ hp => hp.elim

theorem results_cell3 {fn : Func} {p q r : Tmp} {t1 t2 t3 : TypeId} (h : fn.results = #[.cell p t1, .cell q t2, .cell r t3]) (tmps : Array Value) (W : World) (a b c : Nat) {u v x : Value}
    (hp : tmps.getD p undef = .pointer (some ⟨a, 0, none⟩)) (hq : tmps.getD q undef = .pointer (some ⟨b, 0, none⟩)) (hr : tmps.getD r undef = .pointer (some ⟨c, 0, none⟩))
    (k1 : plainT Tryd.prog t1 = true) (k2 : plainT Tryd.prog t2 = true) (k3 : plainT Tryd.prog t3 = true)
    (h1 : W.cell? ⟨a, 0, none⟩ = some u) (h2 : W.cell? ⟨b, 0, none⟩ = some v) (h3 : W.cell? ⟨c, 0, none⟩ = some x) : (results fn tmps).run Tryd.prog W = .ok (.tuple #[u, v, x]) W := by
  simp only [Array.getD_eq_getD_getElem?] at hp hq hr
  simp only [results, h]
  simp [Sem.run_bind, Result.andThen, hp, hq, hr, asAddr, loadVar, go_sem, isAgg_plainT k1, isAgg_plainT k2, isAgg_plainT k3, h1, h2, h3]

/-- What holds between the rounds. -/
def VfI (w : World) (b : Nat) (pre : List (List UInt8)) (W : World) : Prop :=
  ∃ vs v, Reads pre vs ∧ vs.length ≤ 21 ∧ Boxed W (b + 1 + 1 + 1) 36 v ∧ W.ownsRow (b + 7) 70 2 v vs.length (vs.flatMap pairCells) ∧
    Boxed W b 3 (.int .i64 0) ∧ Boxed W (b + 1) 36 (.slice none 0 0) ∧ Boxed W (b + 1 + 1) 4 (.bool false) ∧ Below w.heap.size w W ∧ b + 7 ≤ W.heap.size
/-- What holds behind a return within a round. -/
def VfX (l : List UInt8) (w : World) (b : Nat) (k : Code) (W : World) : Prop :=
  k = .ret ∧ (∀ m us, ¬ VisIs l m us) ∧ Boxed W b 3 (.int .i64 0) ∧ Boxed W (b + 1) 36 (.slice none 0 0) ∧ Boxed W (b + 1 + 1) 4 (.bool false) ∧ Below w.heap.size w W

theorem Boxed.keptS {X Y : World} {B S N : Nat} {t : TypeId} {v : Value} {row : Option Nat} (h : Boxed X B t v) (hg : X.grownBy Y row) (hBS : B < S)
    (hrow : ∀ r, row = some r → r = S ∨ (N ≤ r ∧ ∃ o : Obj, X.heap[r]? = some o ∧ o.isCells = false)) : Boxed Y B t v := by
  refine h.kept hg fun e => ?_
  rcases hrow B e.symm with h' | ⟨_, o, ho, hc⟩
  · omega
  · rw [show X.heap[B]? = _ from h] at ho
    injection ho with ho
    subst ho
    simp [Obj.isCells] at hc
theorem own_keptS {X Y : World} {base S N e size n : Nat} {v : Value} {xs : List Value} {row : Option Nat} (h : X.ownsRow base e size v n xs) (hg : X.grownBy Y row) (hS : S < base)
    (hrow : ∀ r, row = some r → r = S ∨ (N ≤ r ∧ ∃ o : Obj, X.heap[r]? = some o ∧ o.isCells = false)) : Y.ownsRow base e size v n xs := by
  refine own_over h hg fun j hj e => ?_
  obtain ⟨h1, _, cs, fr, h2⟩ := own_lt h hj
  rcases hrow j e with h' | ⟨_, o, ho, hc⟩
  · omega
  · rw [h2] at ho
    injection ho with ho
    subst ho
    simp [Obj.isCells] at hc
theorem below_keptS {w X Y : World} {S N : Nat} {row : Option Nat} (h : Below w.heap.size w X) (hg : X.grownBy Y row) (hS : w.heap.size ≤ S) (hN : w.heap.size ≤ N)
    (hrow : ∀ r, row = some r → r = S ∨ (N ≤ r ∧ ∃ o : Obj, X.heap[r]? = some o ∧ o.isCells = false)) : Below w.heap.size w Y :=
  h.grown hg h.size fun k e => by rcases hrow k e with h' | ⟨h', _⟩ <;> omega
theorem VfI_own (w : World) (b : Nat) (hb : b = w.heap.size) (pre : List (List UInt8)) (A B : World) (row : Option Nat) (h : VfI w b pre A) (hg : A.grownBy B row)
    (hrow : ∀ r, row = some r → r = b + 1 + 1 + 1 + 1 ∨ (b + 7 ≤ r ∧ ∃ o : Obj, A.heap[r]? = some o ∧ o.isCells = false)) : VfI w b pre B := by
  obtain ⟨vs, v, h1, h2, h3, h4, h5, h6, h7, h8, h9⟩ := h
  exact ⟨vs, v, h1, h2, Boxed.keptS h3 hg (by omega) hrow, own_keptS h4 hg (by omega) hrow, Boxed.keptS h5 hg (by omega) hrow, Boxed.keptS h6 hg (by omega) hrow, Boxed.keptS h7 hg (by omega) hrow, below_keptS h8 hg (by omega) (by omega) hrow, Nat.le_trans h9 hg.size⟩
theorem VfX_own (l : List UInt8) (w : World) (b : Nat) (hb : b = w.heap.size) (k : Code) (A B : World) (row : Option Nat) (h : VfX l w b k A) (hg : A.grownBy B row)
    (hrow : ∀ r, row = some r → r = b + 1 + 1 + 1 + 1 ∨ (b + 7 ≤ r ∧ ∃ o : Obj, A.heap[r]? = some o ∧ o.isCells = false)) : VfX l w b k B := by
  obtain ⟨h1, h2, h5, h6, h7, h8⟩ := h
  exact ⟨h1, h2, Boxed.keptS h5 hg (by omega) hrow, Boxed.keptS h6 hg (by omega) hrow, Boxed.keptS h7 hg (by omega) hrow, below_keptS h8 hg (by omega) (by omega) hrow⟩

theorem vf_end {l : List UInt8} {w W : World} {b D : Nat} {tmps : Array Value} {n : Int} {v : Value} {vs : List (Int × Int)} {ok : Bool} (hb : b = w.heap.size) (hD : b + 7 ≤ D) (hK : W.heap[D]? = some (.deferred (some [])))
    (h2 : tmps.getD 2 undef = .pointer (some ⟨b, 0, none⟩)) (h3 : tmps.getD 3 undef = .pointer (some ⟨b + 1, 0, none⟩)) (h4 : tmps.getD 4 undef = .pointer (some ⟨b + 1 + 1, 0, none⟩))
    (y0 : Boxed W b 3 (.int .i64 n)) (y1 : Boxed W (b + 1) 36 v) (y2 : Boxed W (b + 1 + 1) 4 (.bool ok)) (hres : VisRes l n vs ok)
    (hown : W.ownsRow w.heap.size 70 2 v vs.length (vs.flatMap pairCells)) (hbel : Below w.heap.size w W) :
    bodyPostM Fence.wide 9 Tryd.prog Tryd.f32 (fun e w' => ∃ (n : Int) (v : Value) (vs : List (Int × Int)) (ok : Bool), e = .returned (.tuple #[.int .i64 n, v, .bool ok]) ∧ VisRes l n vs ok ∧
      w'.ownsRow w.heap.size 70 2 v vs.length (vs.flatMap pairCells) ∧ Below w.heap.size w w') .ret { tmps := tmps, defers := [{ target := .collected D, args := #[] }] } W := by
  refine ⟨by simp, .inl ⟨_, _, rfl, run_takeDeferred hK, ?_⟩⟩
  have hp := grownBy_putObj' W D (.deferred none)
  have old : ∀ {B t v}, Boxed W B t v → B < D → Boxed (W.putObj D (.deferred none)) B t v := fun h hB => h.kept hp fun e => by injection e; omega
  exact ⟨_, results_cell3 rfl tmps (W.putObj D (.deferred none)) b (b + 1) (b + 1 + 1) h2 h3 h4 (by kernel_rfl) (by kernel_rfl) (by kernel_rfl) (old y0 (by omega)).cell (old y1 (by omega)).cell (old y2 (by omega)).cell,
    n, v, vs, ok, rfl, hres, ownsRow_putObj hown _ hK rfl, hbel.trans (belowK_b (w := w) (Nat.le_refl _) W D _ _ (by omega) hK rfl rfl)⟩

/-- What the stores of the results leave. -/
structure VfC (w : World) (b D : Nat) (v : Value) (vs : List (Int × Int)) (W : World) : Prop where
  list : Boxed W (b + 1 + 1 + 1) 36 v
  own : W.ownsRow (b + 7) 70 2 v vs.length (vs.flatMap pairCells)
  def' : W.heap[D]? = some (.deferred (some []))
  below : Below w.heap.size w W
  n : ∃ u, Boxed W b 3 u
  l : ∃ u, Boxed W (b + 1) 36 u
  ok : ∃ u, Boxed W (b + 1 + 1) 4 u
theorem VfC.ext {w W W' : World} {b D : Nat} {v : Value} {vs : List (Int × Int)} (h : VfC w b D v vs W) (hb : Ext W W') : VfC w b D v vs W' :=
  ⟨boxed_ext h.list hb, own_ext h.own hb, (hb.block D (Array.getElem?_eq_some_iff.1 h.def').1).trans h.def', h.below.trans (hb.mono h.below.size), h.n.imp fun _ h => boxed_ext h hb, h.l.imp fun _ h => boxed_ext h hb, h.ok.imp fun _ h => boxed_ext h hb⟩
theorem VfC.set {w W : World} {b D : Nat} {v : Value} {vs : List (Int × Int)} (h : VfC w b D v vs W) (hb : b = w.heap.size) (hD : b + 7 ≤ D) (B : Nat) (hB : B = b ∨ B = b + 1 ∨ B = b + 1 + 1) (u : Value) : VfC w b D v vs (W.setCell ⟨B, 0, none⟩ u) := by
  have hg := grownBy_setCell' W B u
  refine ⟨Boxed.other h.list (by omega) u, own_over h.own hg fun j hj e => ?_, (hg.block D (Array.getElem?_eq_some_iff.1 h.def').1 (fun e => by injection e; omega)).trans h.def', h.below.setCell (p := ⟨B, 0, none⟩) (by show w.heap.size ≤ B; omega) u, ?_, ?_, ?_⟩
  · have := (own_lt h.own hj).1
    injection e
    omega
  · obtain ⟨x, hx⟩ := h.n
    by_cases e : b = B
    · subst e; exact ⟨_, hx.set u⟩
    · exact ⟨x, Boxed.other hx e u⟩
  · obtain ⟨x, hx⟩ := h.l
    by_cases e : b + 1 = B
    · subst e; exact ⟨_, hx.set u⟩
    · exact ⟨x, Boxed.other hx e u⟩
  · obtain ⟨x, hx⟩ := h.ok
    by_cases e : b + 1 + 1 = B
    · subst e; exact ⟨_, hx.set u⟩
    · exact ⟨x, Boxed.other hx e u⟩

theorem boxed_at {w : World} {k : Nat} {t : TypeId} {v : Value} (h : k = w.heap.size) : Boxed (w.alloc (.cells #[v] t)) k t v := h ▸ Boxed.new w t v
theorem boxed7 (w : World) (t0 t1 t2 t3 t4 t5 t6 : TypeId) (v0 v1 v2 v3 v4 v5 v6 : Value) (b : Nat) (hb : b = w.heap.size) :
    ∃ W, (((((((w.alloc (.cells #[v0] t0)).alloc (.cells #[v1] t1)).alloc (.cells #[v2] t2)).alloc (.cells #[v3] t3)).alloc (.cells #[v4] t4)).alloc (.cells #[v5] t5)).alloc (.cells #[v6] t6)) = W ∧
      W.heap.size = b + 7 ∧ Below w.heap.size w W ∧ Boxed W b t0 v0 ∧ Boxed W (b + 1) t1 v1 ∧ Boxed W (b + 1 + 1) t2 v2 ∧ Boxed W (b + 1 + 1 + 1) t3 v3 ∧ Boxed W (b + 1 + 1 + 1 + 1) t4 v4 ∧
      Boxed W (b + 1 + 1 + 1 + 1 + 1) t5 v5 ∧ Boxed W (b + 1 + 1 + 1 + 1 + 1 + 1) t6 v6 := by
  subst hb
  refine ⟨_, rfl, by simp, ?_, ?_, ?_, ?_, ?_, ?_, ?_, ?_⟩
  · exact ((((bA3.alloc (by simp; omega) _).alloc (by simp; omega) _).alloc (by simp; omega) _).alloc (by simp; omega) _)
  · exact ((((((boxed_at rfl).alloc _).alloc _).alloc _).alloc _).alloc _).alloc _
  · exact (((((boxed_at (by simp)).alloc _).alloc _).alloc _).alloc _).alloc _
  · exact ((((boxed_at (by simp)).alloc _).alloc _).alloc _).alloc _
  · exact (((boxed_at (by simp)).alloc _).alloc _).alloc _
  · exact ((boxed_at (by simp)).alloc _).alloc _
  · exact (boxed_at (by simp)).alloc _
  · exact boxed_at (by simp)

set_option maxRecDepth 100000 in
set_option maxHeartbeats 1000000 in
theorem visFrom_in (l : List UInt8) (w : World) (hs : l.length ≤ 1048576) (ht : Tab w) (he : Errs w) (hsh : w.ShapedOpen Tryd.prog) :
    CallsIn Fence.wide 9 Tryd.prog 32 #[.string ⟨l.toArray⟩] w fun e w' => ∃ (n : Int) (v : Value) (vs : List (Int × Int)) (ok : Bool), e = .returned (.tuple #[.int .i64 n, v, .bool ok]) ∧ VisRes l n vs ok ∧
      w'.ownsRow w.heap.size 70 2 v vs.length (vs.flatMap pairCells) ∧ Below w.heap.size w w' := by
  obtain ⟨i0, hi, hz0, hz1, hz2⟩ := info_parts visInfo2
  obtain ⟨b, hb⟩ : ∃ b, b = w.heap.size := ⟨_, rfl⟩
  have htl := trim_len l
  refine callsIn_of_wp_marks Tryd.func32 rfl trivial ?_ rfl
  simp only [Tryd.ntmps32, List.size_toArray, List.length_cons, List.length_nil, Nat.reduceAdd, Nat.reduceSub, Array.replicate_succ, Array.replicate_zero, List.push_toArray, List.append_toArray, List.nil_append, List.cons_append]
  gi_wp2_with fail
  refine ⟨trivial, (callsIn_wide.2 (trim_any ⟨l.toArray⟩ ⟨#[10]⟩ _ (by show l.length ≤ _; omega))).mono ?_⟩
  rintro e w' ⟨rfl, rfl⟩
  gi_wp2_with fail
  refine ⟨trivial, (callsIn_wide.2 (splitSeq_any _ _ _)).mono ?_⟩
  rintro e w' ⟨rfl, rfl⟩
  gi_wp2_with fail
  obtain ⟨W0, hW0, hsz, B0, x0, x1, x2, x3, x4, x5, x6⟩ := boxed7 w 3 36 4 36 9 9 3 (.int .i64 0) (.slice none 0 0) (.bool false) (.slice none 0 0) (.string ⟨(Lib.trimSuffix l [10]).toArray⟩) (.string ⟨#[10]⟩) (.int .i64 0) b hb
  rw [hW0, ← hb]
  clear hW0
  have Hb := Lib.hid hb; clear hb
  refine range_split (b + 1 + 1 + 1 + 1) (Lib.trimSuffix l [10]) 10 (by omega) (by omega) rfl ⟨x4, x5, x6⟩ rfl
    (VfI w b) (fun k _ W => VfX l w b k W)
    (fun pre A B row h hg hr => VfI_own w b Hb.out pre A B row h hg (by rw [hsz] at hr; exact hr))
    (fun k pre A B row h hg hr => VfX_own l w b Hb.out k A B row h hg (by rw [hsz] at hr; exact hr))
    ⟨[], _, trivial, by simp, x3, World.ownsRow_nil _ _ _ _, x0, x1, x2, B0, by omega⟩
    (fun x => { tmps := #[.string ⟨l.toArray⟩, undef, .pointer (some ⟨b, 0, none⟩), .pointer (some ⟨b + 1, 0, none⟩), .pointer (some ⟨b + 1 + 1, 0, none⟩), .pointer (some ⟨b + 1 + 1 + 1, 0, none⟩), .string ⟨x.toArray⟩, undef, undef, undef, undef, undef, undef, .string ⟨l.toArray⟩, .string ⟨(Lib.trimSuffix l [10]).toArray⟩, .func (.func 94) #[] #[.pointer (some ⟨b + 1 + 1 + 1 + 1 + 1, 0, none⟩), .pointer (some ⟨b + 1 + 1 + 1 + 1, 0, none⟩), .pointer (some ⟨b + 1 + 1 + 1 + 1 + 1 + 1, 0, none⟩)], .string ⟨x.toArray⟩, undef, undef, undef, undef, undef, undef, undef, undef, undef, undef, undef, undef, undef, undef, undef, undef, undef, undef, undef, undef, undef, undef, undef, undef, undef, undef, undef, undef, undef, undef, undef, undef, undef, undef, undef, undef, undef, undef, undef, undef, undef, undef, undef, undef, undef, undef, undef, undef, undef], defers := [] }) ?assign ?body ?done ?stop
  case assign =>
    intro l x W K hK
    gi_wp2
    exact hK
  case body =>
    rintro j pre x W ⟨vs, v, hrd, hv21, hbv, hrow, hy0, hy1, hy2, hbel, hb7⟩ hpre
    have hxl : x.length ≤ 1048576 := by have := cut_size (hpre.subset (show x ∈ pre ++ [x] by simp)); omega
    have hvl := hrd.len
    obtain ⟨Av, cv, rfl⟩ := own_form hrow
    have hsW := hbel.size
    have hbW := hbv.lt
    refine wpIn_block ?_
    gi_wp2_with fail
    refine ⟨trivial, ((callsIn_wide.2 (split_any ⟨x.toArray⟩ 32 W (by show x.length ≤ _; omega) (shaped_ext hsh hbel))).inRound j).mono ?_⟩
    rintro e w1 ⟨L, rfl, hL, rL, b1⟩
    have hLl : L.length = (cut 32 x).length := by rw [← hL, List.length_map]
    have hbv1 := boxed_ext hbv b1
    have fL : ∀ w', Below w1.heap.size w1 w' → w'.cell? ⟨b + 1 + 1 + 1, 0, none⟩ = some (.slice Av vs.length cv) := fun w' h => (boxed_ext hbv1 h).cell
    have stop : ∀ w2, Below w1.heap.size w1 w2 → (∀ m us, ¬ VisIs l m us) → ∀ w3, w3 = ((w2.setCell ⟨b, 0, none⟩ (.int .i64 0)).setCell ⟨b + 1, 0, none⟩ (.slice none 0 0)).setCell ⟨b + 1 + 1, 0, none⟩ (.bool false) → KeepsOthers W w3 ∧ VfX l w b .ret w3 := fun w2 h2 hno w3 e3 => by
      have h12 := b1.trans (h2.mono b1.size)
      have z0 := boxed_ext hy0 h12
      have z1 := boxed_ext hy1 h12
      have z2 := boxed_ext hy2 h12
      have hBw := Hb.out
      refine e3 ▸ ⟨(((keeps_ext h12).trans (KeepsOthers.setCell _ _ _)).trans (KeepsOthers.setCell _ _ _)).trans (KeepsOthers.setCell _ _ _), rfl, hno, ?_, ?_, ?_, ?_⟩
      · exact Boxed.other (Boxed.other (z0.set _) (by omega) _) (by omega) _
      · exact Boxed.other (Boxed.set _ (Boxed.other z1 (by omega) _)) (by omega) _
      · exact Boxed.set _ (Boxed.other (Boxed.other z2 (by omega) _) (by omega) _)
      · exact (((hbel.trans (h12.mono hsW)).setCell (p := ⟨b, 0, none⟩) (by show w.heap.size ≤ b; omega) _).setCell (p := ⟨b + 1, 0, none⟩) (by show w.heap.size ≤ b + 1; omega) _).setCell (p := ⟨b + 1 + 1, 0, none⟩) (by show w.heap.size ≤ b + 1 + 1; omega) _
    by_cases h3 : (cut 32 x).length = 3
    · by_cases h21 : vs.length = 21
      · have hno := vis_many hpre (hvl.symm.trans h21)
        have hst := fun w2 h => stop w2 h hno
        rw [← hLl] at h3
        have b7 : bm 7 = 21 := by decide
        have Hst := Lib.hid hst; clear hst
        have HLl := Lib.hid hLl; clear hLl
        have HL := Lib.hid hL; clear hL
        have Hvl := Lib.hid hvl; clear hvl
        gi_wp2_with fail
        refine wpIn_region_N [] [] (by kernel_rfl) (by kernel_rfl) (by kernel_rfl) ?_
        refine wpStill_go (v := .slice (some ⟨W.heap.size, 0, none⟩) 3 3) rfl rfl (stays_run fun w' h => ex_move rfl rfl) ?_
        simp only [Act.put, List.setIfInBounds_toArray, List.set_cons_succ, List.set_cons_zero]
        refine wpStill_go (v := .int .i64 3) rfl rfl (stays_run fun w' h => ex_len rfl (by kernel_rfl) rfl) ?_
        simp only [Act.put, List.setIfInBounds_toArray, List.set_cons_succ, List.set_cons_zero]
        refine wpStill_go (v := .bool false) rfl rfl (stays_run fun w' h => by simp [go_sem]) ?_
        simp only [Act.put, List.setIfInBounds_toArray, List.set_cons_succ, List.set_cons_zero]
        refine wpStill_go (v := .bool false) rfl rfl (stays_run fun w' h => ex_move rfl rfl) ?_
        simp only [Act.put, List.setIfInBounds_toArray, List.set_cons_succ, List.set_cons_zero]
        refine wpStill_go (v := .slice Av vs.length cv) rfl rfl (stays_run fun w' h => ex_load rfl rfl (ld_one (by kernel_rfl) (fL w' h))) ?_
        simp only [Act.put, List.setIfInBounds_toArray, List.set_cons_succ, List.set_cons_zero]
        refine wpStill_go (v := .int .i64 vs.length) rfl rfl (stays_run fun w' h => ex_len rfl (by kernel_rfl) rfl) ?_
        simp only [Act.put, List.setIfInBounds_toArray, List.set_cons_succ, List.set_cons_zero]
        refine wpStill_go (v := .int .i64 21) rfl rfl (stays_call (f := 34) (args := #[.int .i64 7]) (fun w' h => by simp [go_sem]) (fun w' _ => b7 ▸ calls_below (baseMany_any 7 w'))) ?_
        simp only [Act.put, List.setIfInBounds_toArray, List.set_cons_succ, List.set_cons_zero]
        refine wpStill_go (v := .bool true) rfl rfl (stays_run fun w' h => by simp [go_sem]; omega) ?_
        simp only [Act.put, List.setIfInBounds_toArray, List.set_cons_succ, List.set_cons_zero]
        refine wpStill_go (v := .bool true) rfl rfl (stays_run fun w' h => by simp [go_sem]) ?_
        simp only [Act.put, List.setIfInBounds_toArray, List.set_cons_succ, List.set_cons_zero]
        refine wpStill_nil ?_
        repeat (refine wpMark_skip rfl ?_)
        refine wpMark_nil fun w2 h2 => ?_
        simp only [onlyN]
        have h2' : Below w1.heap.size w1 w2 := (Below.refl _ _).drew.trans h2
        have hy12 := b1.trans (h2'.mono b1.size)
        have q0 := (boxed_ext hy0 hy12).cell
        have q1 := (boxed_ext hy1 hy12).cell
        have q2 := (boxed_ext hy2 hy12).cell
        have z0 := (boxed_ext hy0 hy12).frozen
        have z1 := (boxed_ext hy1 hy12).frozen
        have z2 := (boxed_ext hy2 hy12).frozen
        gi_wp2_with fail
        exact Hst.out _ h2' _ rfl
      · obtain ⟨s0, s1, s2, rfl⟩ : ∃ s0 s1 s2, L = [s0, s1, s2] := by
          match L, hLl.trans h3 with
          | [a, b, c], _ => exact ⟨a, b, c, rfl⟩
        have b7 : bm 7 = 21 := by decide
        have hw1 : s1.data.toList = (cut 32 x).getD 1 [] := by rw [← hL]; rfl
        have hw2 : s2.data.toList = (cut 32 x).getD 2 [] := by rw [← hL]; rfl
        have hz1' : s1.size ≤ 1048576 := by rw [Lib.size_eq, hw1]; have := getD_len (c := 32) (l := x) 1; omega
        have hz2' : s2.size ≤ 1048576 := by rw [Lib.size_eq, hw2]; have := getD_len (c := 32) (l := x) 2; omega
        clear stop
        have HLl := Lib.hid hLl; clear hLl
        have HL := Lib.hid hL; clear hL
        have Hvl := Lib.hid hvl; clear hvl
        have Hw1 := Lib.hid hw1; clear hw1
        have Hw2 := Lib.hid hw2; clear hw2
        gi_wp2_with fail
        refine wpIn_region_N [] [] (by kernel_rfl) (by kernel_rfl) (by kernel_rfl) ?_
        refine wpStill_go (v := .slice (some ⟨W.heap.size, 0, none⟩) 3 3) rfl rfl (stays_run fun w' h => ex_move rfl rfl) ?_
        simp only [Act.put, List.setIfInBounds_toArray, List.set_cons_succ, List.set_cons_zero]
        refine wpStill_go (v := .int .i64 3) rfl rfl (stays_run fun w' h => ex_len rfl (by kernel_rfl) rfl) ?_
        simp only [Act.put, List.setIfInBounds_toArray, List.set_cons_succ, List.set_cons_zero]
        refine wpStill_go (v := .bool false) rfl rfl (stays_run fun w' h => by simp [go_sem]) ?_
        simp only [Act.put, List.setIfInBounds_toArray, List.set_cons_succ, List.set_cons_zero]
        refine wpStill_go (v := .bool false) rfl rfl (stays_run fun w' h => ex_move rfl rfl) ?_
        simp only [Act.put, List.setIfInBounds_toArray, List.set_cons_succ, List.set_cons_zero]
        refine wpStill_go (v := .slice Av vs.length cv) rfl rfl (stays_run fun w' h => ex_load rfl rfl (ld_one (by kernel_rfl) (fL w' h))) ?_
        simp only [Act.put, List.setIfInBounds_toArray, List.set_cons_succ, List.set_cons_zero]
        refine wpStill_go (v := .int .i64 vs.length) rfl rfl (stays_run fun w' h => ex_len rfl (by kernel_rfl) rfl) ?_
        simp only [Act.put, List.setIfInBounds_toArray, List.set_cons_succ, List.set_cons_zero]
        refine wpStill_go (v := .int .i64 21) rfl rfl (stays_call (f := 34) (args := #[.int .i64 7]) (fun w' h => by simp [go_sem]) (fun w' _ => b7 ▸ calls_below (baseMany_any 7 w'))) ?_
        simp only [Act.put, List.setIfInBounds_toArray, List.set_cons_succ, List.set_cons_zero]
        refine wpStill_go (v := .bool false) rfl rfl (stays_run fun w' h => by simp [go_sem]; omega) ?_
        simp only [Act.put, List.setIfInBounds_toArray, List.set_cons_succ, List.set_cons_zero]
        refine wpStill_go (v := .bool false) rfl rfl (stays_run fun w' h => by simp [go_sem]) ?_
        simp only [Act.put, List.setIfInBounds_toArray, List.set_cons_succ, List.set_cons_zero]
        refine wpStill_nil ?_
        repeat (refine wpMark_skip rfl ?_)
        refine wpMark_nil fun w2 h2 => ?_
        simp only [onlyN]
        have h2' : Below w1.heap.size w1 w2 := (Below.refl _ _).drew.trans h2
        have hy12 := b1.trans (h2'.mono b1.size)
        have c1 : w2.cell? ⟨W.heap.size, 1, none⟩ = some (.string s1) := (rL.kept h2').cell 1
        have c2 : w2.cell? ⟨W.heap.size, 2, none⟩ = some (.string s2) := (rL.kept h2').cell 2
        gi_wp2_with fail
        refine ⟨trivial, ((callsIn_wide.2 (atoi_any s1 w2 hz1' (he.ext (hbel.trans (hy12.mono hsW))))).inRound j).mono ?_⟩
        rintro e w3 ⟨g1, err1, rfl, hg1, hn1, b3⟩
        have hy13 := hy12.trans (b3.mono hy12.size)
        have c2' : w3.cell? ⟨W.heap.size, 2, none⟩ = some (.string s2) := ((rL.kept h2').kept b3).cell 2
        clear c1 c2
        gi_wp2_with fail
        refine ⟨trivial, ((callsIn_wide.2 (atoi_any s2 w3 hz2' (he.ext (hbel.trans (hy13.mono hsW))))).inRound j).mono ?_⟩
        rintro e w4 ⟨g2, err2, rfl, hg2, hn2, b4⟩
        have hy14 := hy13.trans (b4.mono hy13.size)
        have hbv4 := boxed_ext hbv hy14
        have hrow4 := own_ext hrow hy14
        have q3 := hbv4.cell
        have z3 := hbv4.frozen
        have hok : WordsOK x (g1, g2) := ⟨HLl.out.symm, fun m hm => hn1 m (by rw [Hw1.out]; exact hm), fun m hm => hn2 m (by rw [Hw2.out]; exact hm)⟩
        have hrd2 := hrd.snoc hok
        clear c2' fL hbv1 hn1 hn2
        have Hok := Lib.hid hok; clear hok
        have Hrd2 := Lib.hid hrd2; clear hrd2
        have Hrow4 := Lib.hid hrow4; clear hrow4
        gi_wp2_with (gi_at_builtin; go_loud (refine wpListIn_append_own _ rfl _ _ 36 rfl (b + 7) 70 i0 (.agg #[.int .i64 0, .int .i64 0]) 2 16 (by kernel_rfl) hi hz0 hz1 hz2 rfl (by decide) _ vs.length _ rfl (Hrow4.out.alloc _) ⟨w4.heap.size, 0, none⟩ 1 1 [.int .i64 g1, .int .i64 g2] rfl rfl (cell_two_new _ _ _ _) (by simp [Value.oneCell']) (by unfold maxLen; omega) (by omega) (by simp; have := hy14.size; omega) ?_); intro v' w7 hown' hgrow _; obtain ⟨g', cap', rfl⟩ := ownsRow_succ hown'; have hbv7 := ((hbv4.alloc (.cells #[.int .i64 g1, .int .i64 g2] 70)).kept hgrow (Boxed.not_row (hbv4.alloc (.cells #[.int .i64 g1, .int .i64 g2] 70)) (by decide) (Hrow4.out.alloc (.cells #[.int .i64 g1, .int .i64 g2] 70)))); have q7 := hbv7.cell; have z7 := hbv7.frozen)
        have hBw := Hb.out
        have E4 : Below W.heap.size W (w4.alloc (.cells #[.int .i64 g1, .int .i64 g2] 70)) := hy14.alloc hy14.size _
        have hrA := Hrow4.out.alloc (.cells #[.int .i64 g1, .int .i64 g2] 70)
        have hE4 : W.heap.size ≤ (w4.alloc (.cells #[.int .i64 g1, .int .i64 g2] 70)).heap.size := E4.size
        have hge : ∀ k, (Value.slice Av vs.length cv).ownBlock = some k → b + 7 ≤ k := fun k e => (own_lt hrA e).1
        have old : ∀ {B t v}, Boxed W B t v → B < b + 7 → B ≠ b + 1 + 1 + 1 → Boxed (w7.setCell ⟨b + 1 + 1 + 1, 0, none⟩ (.slice (some ⟨g', 0, none⟩) (vs.length + 1) cap')) B t v := fun h hB hne =>
          Boxed.other ((boxed_ext h E4).kept hgrow fun e => by have := hge _ e.symm; omega) hne _
        refine ⟨((keeps_ext E4).trans (KeepsOthers.of_grownBy hgrow fun k o e ho => ?_)).trans (KeepsOthers.setCell _ _ _), fun r h => ⟨old h.str (by omega) (by omega), old h.sep (by omega) (by omega), old h.save (by omega) (by omega)⟩, ?_⟩
        · obtain ⟨_, _, cs, fr, h2⟩ := own_lt hrA e
          rw [h2] at ho
          injection ho with ho
          subst ho; rfl
        · have hb7' : Below w.heap.size w w7 := (hbel.trans (E4.mono hsW)).grown hgrow (Nat.le_trans hsW hE4) fun k e => by have := hge k e; omega
          refine ⟨vs ++ [(g1, g2)], _, Hrd2.out, by rw [List.length_append]; simp; omega, Boxed.set _ hbv7, ?_, old hy0 (by omega) (by omega), old hy1 (by omega) (by omega), old hy2 (by omega) (by omega), hb7'.setCell (p := ⟨b + 1 + 1 + 1, 0, none⟩) (by show w.heap.size ≤ b + 1 + 1 + 1; omega) _, ?_⟩
          · rw [List.length_append, List.flatMap_append]
            refine own_over hown' (grownBy_setCell' w7 (b + 1 + 1 + 1) _) fun k e e' => ?_
            have := (own_lt hown' e).1
            injection e' with e'
            omega
          · rw [World.size_setCell]
            exact Nat.le_trans hb7 (Nat.le_trans hE4 hgrow.size)
    · have hno := vis_not3 hpre h3
      have hst := fun w2 h => stop w2 h hno
      rw [← hLl] at h3
      have Hst := Lib.hid hst; clear hst
      have HLl := Lib.hid hLl; clear hLl
      have HL := Lib.hid hL; clear hL
      have Hvl := Lib.hid hvl; clear hvl
      gi_wp2_with fail
      refine wpIn_region_N [] [] (by kernel_rfl) (by kernel_rfl) (by kernel_rfl) ?_
      refine wpStill_go (v := .slice (some ⟨W.heap.size, 0, none⟩) L.length L.length) rfl rfl (stays_run fun w' h => ex_move rfl rfl) ?_
      simp only [Act.put, List.setIfInBounds_toArray, List.set_cons_succ, List.set_cons_zero]
      refine wpStill_go (v := .int .i64 L.length) rfl rfl (stays_run fun w' h => ex_len rfl (by kernel_rfl) rfl) ?_
      simp only [Act.put, List.setIfInBounds_toArray, List.set_cons_succ, List.set_cons_zero]
      refine wpStill_go (v := .bool true) rfl rfl (stays_run fun w' h => by simp [go_sem]; omega) ?_
      simp only [Act.put, List.setIfInBounds_toArray, List.set_cons_succ, List.set_cons_zero]
      refine wpStill_go (v := .bool true) rfl rfl (stays_run fun w' h => ex_move rfl rfl) ?_
      simp only [Act.put, List.setIfInBounds_toArray, List.set_cons_succ, List.set_cons_zero]
      refine wpStill_off rfl rfl ?_
      simp only [Act.put, List.setIfInBounds_toArray, List.set_cons_succ, List.set_cons_zero]
      refine wpStill_off rfl rfl ?_
      simp only [Act.put, List.setIfInBounds_toArray, List.set_cons_succ, List.set_cons_zero]
      refine wpStill_off rfl rfl ?_
      simp only [Act.put, List.setIfInBounds_toArray, List.set_cons_succ, List.set_cons_zero]
      refine wpStill_off rfl rfl ?_
      simp only [Act.put, List.setIfInBounds_toArray, List.set_cons_succ, List.set_cons_zero]
      refine wpStill_go (v := .bool true) rfl rfl (stays_run fun w' h => by simp [go_sem]) ?_
      simp only [Act.put, List.setIfInBounds_toArray, List.set_cons_succ, List.set_cons_zero]
      refine wpStill_nil ?_
      repeat (refine wpMark_skip rfl ?_)
      refine wpMark_nil fun w2 h2 => ?_
      simp only [onlyN]
      have h2' : Below w1.heap.size w1 w2 := (Below.refl _ _).drew.trans h2
      have hy12 := b1.trans (h2'.mono b1.size)
      have q0 := (boxed_ext hy0 hy12).cell
      have q1 := (boxed_ext hy1 hy12).cell
      have q2 := (boxed_ext hy2 hy12).cell
      have z0 := (boxed_ext hy0 hy12).frozen
      have z1 := (boxed_ext hy1 hy12).frozen
      have z2 := (boxed_ext hy2 hy12).frozen
      gi_wp2_with fail
      exact Hst.out _ h2' _ rfl
  case done =>
    rintro D W hD ⟨vs, v, hrd, hv21, hbv, hrow, hy0, hy1, hy2, hbel, hb7⟩ hK
    obtain ⟨Av, cv, rfl⟩ := own_form hrow
    have hvm := hrd.len
    have hne := hrd.ne
    have huniq : ∀ m us, VisIs l m us → us = vs := fun m us h => h.reads hrd
    have Hvm := Lib.hid hvm; clear hvm
    have Hne := Lib.hid hne; clear hne
    have Huniq := Lib.hid huniq; clear huniq
    have Hrd := Lib.hid hrd; clear hrd
    gi_wp2_with fail
    gi_loopw [12] (fun i wi => ∃ k : Nat, 2 ≤ k ∧ k ≤ 8 ∧ i = .int .i64 k ∧ (∀ m us, VisIs l m us → (k : Int) ≤ m) ∧ Below W.heap.size W wi) (fun i _ => 8 - (intOf i).toNat)
    case atStart => exact ⟨2, by omega, by omega, rfl, fun m us h => h.bd.1.1, Below.refl _ _⟩
    case round =>
      obtain ⟨k, hk2, hk8, rfl, hnone, hbk⟩ := hrel
      have hbk2 := hbel.trans (hbk.mono hbel.size)
      have hbvk := boxed_ext hbv hbk
      have fL : ∀ w', Below wr.heap.size wr w' → w'.cell? ⟨b + 1 + 1 + 1, 0, none⟩ = some (.slice Av vs.length cv) := fun w' h => (boxed_ext hbvk h).cell
      have hrk := ((Rd.of_own hrow).below hbk).more hbk.size
      have htk := ht.ext hbk2
      have old : ∀ {B t v w2}, Boxed W B t v → Below wr.heap.size wr w2 → Boxed w2 B t v := fun h h2 => boxed_ext (boxed_ext h hbk) h2
      obtain ⟨Bk, hBk⟩ : ∃ Bk, bm k = Bk := ⟨_, rfl⟩
      by_cases hkt : k ≤ 7
      · by_cases hbm : (vs.length : Int) = Bk
        · obtain ⟨S, hS⟩ : ∃ S, visStr k vs = S := ⟨_, rfl⟩
          by_cases hq : S = l
          · have hres : VisRes l k vs true := .inl ⟨rfl, VisIs.of Hne.out (hS.trans hq)⟩
            have hqb : (S == l) = true := by rw [beq_iff_eq]; exact hq
            have HBk := Lib.hid hBk; clear hBk
            have HS := Lib.hid hS; clear hS
            have Hq := Lib.hid hq; clear hq
            have Hres := Lib.hid hres; clear hres
            have Hnone := Lib.hid hnone; clear hnone
            gi_wp2_with fail
            refine wpIn_wide.2 (wp_region_N [] [] (by kernel_rfl) (by kernel_rfl) ?_)
            refine wpStill_go (v := .slice Av vs.length cv) rfl rfl (stays_run fun w' h => ex_load rfl rfl (ld_one (by kernel_rfl) (fL w' h))) ?_
            simp only [Act.put, List.setIfInBounds_toArray, List.set_cons_succ, List.set_cons_zero]
            refine wpStill_go (v := .int .i64 vs.length) rfl rfl (stays_run fun w' h => ex_len rfl (by kernel_rfl) rfl) ?_
            simp only [Act.put, List.setIfInBounds_toArray, List.set_cons_succ, List.set_cons_zero]
            refine wpStill_go (v := .int .i64 k) rfl rfl (stays_run fun w' h => ex_move rfl rfl) ?_
            simp only [Act.put, List.setIfInBounds_toArray, List.set_cons_succ, List.set_cons_zero]
            refine wpStill_go (v := .int .i64 Bk) rfl rfl (stays_call (f := 34) (args := #[.int .i64 k]) (fun w' h => by simp [go_sem]) (fun w' _ => HBk.out ▸ calls_below (baseMany_any k w'))) ?_
            simp only [Act.put, List.setIfInBounds_toArray, List.set_cons_succ, List.set_cons_zero]
            refine wpStill_go (v := .bool true) rfl rfl (stays_run fun w' h => by simp [go_sem]; omega) ?_
            simp only [Act.put, List.setIfInBounds_toArray, List.set_cons_succ, List.set_cons_zero]
            refine wpStill_go (v := .bool true) rfl rfl (stays_run fun w' h => ex_move rfl rfl) ?_
            simp only [Act.put, List.setIfInBounds_toArray, List.set_cons_succ, List.set_cons_zero]
            refine wpStill_go (v := .int .i64 k) rfl rfl (stays_run fun w' h => ex_move rfl rfl) ?_
            simp only [Act.put, List.setIfInBounds_toArray, List.set_cons_succ, List.set_cons_zero]
            refine wpStill_go (v := .slice Av vs.length cv) rfl rfl (stays_run fun w' h => ex_load rfl rfl (ld_one (by kernel_rfl) (fL w' h))) ?_
            simp only [Act.put, List.setIfInBounds_toArray, List.set_cons_succ, List.set_cons_zero]
            refine wpStill_go (v := .string ⟨S.toArray⟩) rfl rfl (stays_call (f := 22) (args := #[.int .i64 k, .slice Av vs.length cv]) (fun w' h => by simp [go_sem]) (fun w' _ => HS.out ▸ visText_any k Av vs.length cv vs w' rfl (by omega) (hrk.ext ‹_›) (htk.ext ‹_›))) ?_
            simp only [Act.put, List.setIfInBounds_toArray, List.set_cons_succ, List.set_cons_zero]
            refine wpStill_go (v := .string ⟨l.toArray⟩) rfl rfl (stays_run fun w' h => ex_move rfl rfl) ?_
            simp only [Act.put, List.setIfInBounds_toArray, List.set_cons_succ, List.set_cons_zero]
            refine wpStill_go (v := .bool true) rfl rfl (stays_run fun w' h => by simp [go_sem, hqb]) ?_
            simp only [Act.put, List.setIfInBounds_toArray, List.set_cons_succ, List.set_cons_zero]
            refine wpStill_go (v := .bool true) rfl rfl (stays_run fun w' h => by simp [go_sem]) ?_
            simp only [Act.put, List.setIfInBounds_toArray, List.set_cons_succ, List.set_cons_zero]
            refine wpStill_nil ?_
            repeat (refine wpMark_skip rfl ?_)
            refine wpMark_nil fun w2 h2 => ?_
            simp only [onlyN]
            have h2' : Below wr.heap.size wr w2 := (Below.refl _ _).drew.trans h2
            gi_wp2_with fail
            have hKk : w2.heap[D]? = some (.deferred (some [])) := (h2'.block D (by have := hbk.size; have := (Array.getElem?_eq_some_iff.1 hK).1; omega)).trans ((hbk.block D (Array.getElem?_eq_some_iff.1 hK).1).trans hK)
            have hC2 : VfC w b D (.slice Av vs.length cv) vs w2 := ⟨old hbv h2', own_ext (own_ext hrow hbk) h2', hKk, hbk2.trans (h2'.mono hbk2.size), ⟨_, old hy0 h2'⟩, ⟨_, old hy1 h2'⟩, ⟨_, old hy2 h2'⟩⟩
            have hDb : b + 7 ≤ D := by omega
            clear fL old hbvk hrk htk h2 h2' hKk
            refine wpIn_wide.2 (wp_mono (wp_region_R [2, 3, 4] [] (VfC w b D (.slice Av vs.length cv) vs) (by kernel_rfl) (by kernel_rfl) (fun _ _ h h' => h.ext h') (fun _ _ _ _ _ h => h.elim) (hC2.ext ((Below.refl _ _).drew)) ?_) onlyN_imp)
            refine wpStill_go (v := .int .i64 k) rfl rfl (stays_run fun w' h => ex_move rfl rfl) ?_
            simp only [Act.put, List.setIfInBounds_toArray, List.set_cons_succ, List.set_cons_zero]
            refine wpStill_go (v := .slice Av vs.length cv) rfl rfl (stays_run fun w' h => ex_load rfl rfl (ld_one (by kernel_rfl) h.list.cell)) ?_
            simp only [Act.put, List.setIfInBounds_toArray, List.set_cons_succ, List.set_cons_zero]
            refine wpStill_skip rfl ?_
            refine wpStill_skip rfl ?_
            refine wpStill_skip rfl ?_
            refine wpStill_nil ?_
            repeat (refine wpMark_skip rfl ?_)
            refine wpMark_go rfl (fun m1 hm1 K hK => ?_)
            have C1 := (hC2.ext ((Below.refl _ _).drew)).ext hm1
            obtain ⟨x0, hx0⟩ := C1.n
            have q0 := hx0.cell
            have z0 := hx0.frozen
            clear hC2
            go_wp2_with fail
            refine hK _ _ (fun _ => C1.set Hb.out hDb b (.inl rfl) _) (wpMark_go rfl (fun m2 hm2 K hK => ?_))
            have C2 := (C1.set Hb.out hDb b (.inl rfl) (.int .i64 k)).ext hm2
            have R0 : Boxed m2 b 3 (.int .i64 k) := boxed_ext (hx0.set _) hm2
            obtain ⟨x1', hx1⟩ := C2.l
            have q1 := hx1.cell
            have z1 := hx1.frozen
            clear C1 q0 z0 hx0
            go_wp2_with fail
            refine hK _ _ (fun _ => C2.set Hb.out hDb (b + 1) (.inr (.inl rfl)) _) (wpMark_go rfl (fun m3 hm3 K hK => ?_))
            have C3 := (C2.set Hb.out hDb (b + 1) (.inr (.inl rfl)) (.slice Av vs.length cv)).ext hm3
            have R0' : Boxed m3 b 3 (.int .i64 k) := boxed_ext (Boxed.other R0 (by omega) _) hm3
            have R1 : Boxed m3 (b + 1) 36 (.slice Av vs.length cv) := boxed_ext (hx1.set _) hm3
            obtain ⟨x2', hx2⟩ := C3.ok
            have q2 := hx2.cell
            have z2 := hx2.frozen
            clear C2 q1 z1 hx1 R0
            go_wp2_with fail
            refine hK _ _ (fun _ => C3.set Hb.out hDb (b + 1 + 1) (.inr (.inr rfl)) _) (wpMark_nil (fun m4 hm4 => ?_))
            have C4 := (C3.set Hb.out hDb (b + 1 + 1) (.inr (.inr rfl)) (.bool true)).ext hm4
            have R0 : Boxed m4 b 3 (.int .i64 k) := boxed_ext (Boxed.other R0' (by omega) _) hm4
            have R1' : Boxed m4 (b + 1) 36 (.slice Av vs.length cv) := boxed_ext (Boxed.other R1 (by omega) _) hm4
            have R2 : Boxed m4 (b + 1 + 1) 4 (.bool true) := boxed_ext (hx2.set _) hm4
            simp only [onlyN]
            clear hK q2 z2
            gi_wp2_with fail
            exact vf_end Hb.out hDb C4.def' rfl rfl rfl R0 R1' R2 Hres.out (own_base C4.own (by have := Hb.out; omega)) C4.below
          · have hqb : (S == l) = false := by rw [beq_eq_false_iff_ne]; exact hq
            have hnn : ∀ m us, VisIs l m us → ((k + 1 : Nat) : Int) ≤ m := fun m us h => by
              have h1 := hnone m us h
              have h2 := Huniq.out m us h
              subst h2
              have h3 : m ≠ (k : Int) := fun e => by
                subst e
                exact hq (hS.symm.trans h.text)
              omega
            have HBk := Lib.hid hBk; clear hBk
            have HS := Lib.hid hS; clear hS
            have Hq := Lib.hid hq; clear hq
            have Hnone := Lib.hid hnone; clear hnone
            have Hnn := Lib.hid hnn; clear hnn
            gi_wp2_with fail
            refine wpIn_wide.2 (wp_region_N [] [] (by kernel_rfl) (by kernel_rfl) ?_)
            refine wpStill_go (v := .slice Av vs.length cv) rfl rfl (stays_run fun w' h => ex_load rfl rfl (ld_one (by kernel_rfl) (fL w' h))) ?_
            simp only [Act.put, List.setIfInBounds_toArray, List.set_cons_succ, List.set_cons_zero]
            refine wpStill_go (v := .int .i64 vs.length) rfl rfl (stays_run fun w' h => ex_len rfl (by kernel_rfl) rfl) ?_
            simp only [Act.put, List.setIfInBounds_toArray, List.set_cons_succ, List.set_cons_zero]
            refine wpStill_go (v := .int .i64 k) rfl rfl (stays_run fun w' h => ex_move rfl rfl) ?_
            simp only [Act.put, List.setIfInBounds_toArray, List.set_cons_succ, List.set_cons_zero]
            refine wpStill_go (v := .int .i64 Bk) rfl rfl (stays_call (f := 34) (args := #[.int .i64 k]) (fun w' h => by simp [go_sem]) (fun w' _ => HBk.out ▸ calls_below (baseMany_any k w'))) ?_
            simp only [Act.put, List.setIfInBounds_toArray, List.set_cons_succ, List.set_cons_zero]
            refine wpStill_go (v := .bool true) rfl rfl (stays_run fun w' h => by simp [go_sem]; omega) ?_
            simp only [Act.put, List.setIfInBounds_toArray, List.set_cons_succ, List.set_cons_zero]
            refine wpStill_go (v := .bool true) rfl rfl (stays_run fun w' h => ex_move rfl rfl) ?_
            simp only [Act.put, List.setIfInBounds_toArray, List.set_cons_succ, List.set_cons_zero]
            refine wpStill_go (v := .int .i64 k) rfl rfl (stays_run fun w' h => ex_move rfl rfl) ?_
            simp only [Act.put, List.setIfInBounds_toArray, List.set_cons_succ, List.set_cons_zero]
            refine wpStill_go (v := .slice Av vs.length cv) rfl rfl (stays_run fun w' h => ex_load rfl rfl (ld_one (by kernel_rfl) (fL w' h))) ?_
            simp only [Act.put, List.setIfInBounds_toArray, List.set_cons_succ, List.set_cons_zero]
            refine wpStill_go (v := .string ⟨S.toArray⟩) rfl rfl (stays_call (f := 22) (args := #[.int .i64 k, .slice Av vs.length cv]) (fun w' h => by simp [go_sem]) (fun w' _ => HS.out ▸ visText_any k Av vs.length cv vs w' rfl (by omega) (hrk.ext ‹_›) (htk.ext ‹_›))) ?_
            simp only [Act.put, List.setIfInBounds_toArray, List.set_cons_succ, List.set_cons_zero]
            refine wpStill_go (v := .string ⟨l.toArray⟩) rfl rfl (stays_run fun w' h => ex_move rfl rfl) ?_
            simp only [Act.put, List.setIfInBounds_toArray, List.set_cons_succ, List.set_cons_zero]
            refine wpStill_go (v := .bool false) rfl rfl (stays_run fun w' h => by simp [go_sem, hqb]) ?_
            simp only [Act.put, List.setIfInBounds_toArray, List.set_cons_succ, List.set_cons_zero]
            refine wpStill_go (v := .bool false) rfl rfl (stays_run fun w' h => by simp [go_sem]) ?_
            simp only [Act.put, List.setIfInBounds_toArray, List.set_cons_succ, List.set_cons_zero]
            refine wpStill_nil ?_
            repeat (refine wpMark_skip rfl ?_)
            refine wpMark_nil fun w2 h2 => ?_
            simp only [onlyN]
            have h2' : Below wr.heap.size wr w2 := (Below.refl _ _).drew.trans h2
            gi_wp2_with fail
            go_roundw
            case measure => simp [intOf]; omega
            case rel => exact ⟨k + 1, by omega, by omega, by go_num, Hnn.out, hbk.trans (h2'.mono hbk.size)⟩
        · have hnn : ∀ m us, VisIs l m us → ((k + 1 : Nat) : Int) ≤ m := fun m us h => by
            have h1 := hnone m us h
            have h2 := Huniq.out m us h
            subst h2
            have h3 : m ≠ (k : Int) := fun e => by
              subst e
              exact hbm (h.bd.2.trans hBk)
            omega
          have HBk := Lib.hid hBk; clear hBk
          have Hnone := Lib.hid hnone; clear hnone
          have Hnn := Lib.hid hnn; clear hnn
          gi_wp2_with fail
          refine wpIn_wide.2 (wp_region_N [] [] (by kernel_rfl) (by kernel_rfl) ?_)
          refine wpStill_go (v := .slice Av vs.length cv) rfl rfl (stays_run fun w' h => ex_load rfl rfl (ld_one (by kernel_rfl) (fL w' h))) ?_
          simp only [Act.put, List.setIfInBounds_toArray, List.set_cons_succ, List.set_cons_zero]
          refine wpStill_go (v := .int .i64 vs.length) rfl rfl (stays_run fun w' h => ex_len rfl (by kernel_rfl) rfl) ?_
          simp only [Act.put, List.setIfInBounds_toArray, List.set_cons_succ, List.set_cons_zero]
          refine wpStill_go (v := .int .i64 k) rfl rfl (stays_run fun w' h => ex_move rfl rfl) ?_
          simp only [Act.put, List.setIfInBounds_toArray, List.set_cons_succ, List.set_cons_zero]
          refine wpStill_go (v := .int .i64 Bk) rfl rfl (stays_call (f := 34) (args := #[.int .i64 k]) (fun w' h => by simp [go_sem]) (fun w' _ => HBk.out ▸ calls_below (baseMany_any k w'))) ?_
          simp only [Act.put, List.setIfInBounds_toArray, List.set_cons_succ, List.set_cons_zero]
          refine wpStill_go (v := .bool false) rfl rfl (stays_run fun w' h => by simp [go_sem]; omega) ?_
          simp only [Act.put, List.setIfInBounds_toArray, List.set_cons_succ, List.set_cons_zero]
          refine wpStill_go (v := .bool false) rfl rfl (stays_run fun w' h => ex_move rfl rfl) ?_
          simp only [Act.put, List.setIfInBounds_toArray, List.set_cons_succ, List.set_cons_zero]
          refine wpStill_off rfl rfl ?_
          simp only [Act.put, List.setIfInBounds_toArray, List.set_cons_succ, List.set_cons_zero]
          refine wpStill_off rfl rfl ?_
          simp only [Act.put, List.setIfInBounds_toArray, List.set_cons_succ, List.set_cons_zero]
          refine wpStill_off rfl rfl ?_
          simp only [Act.put, List.setIfInBounds_toArray, List.set_cons_succ, List.set_cons_zero]
          refine wpStill_off rfl rfl ?_
          simp only [Act.put, List.setIfInBounds_toArray, List.set_cons_succ, List.set_cons_zero]
          refine wpStill_off rfl rfl ?_
          simp only [Act.put, List.setIfInBounds_toArray, List.set_cons_succ, List.set_cons_zero]
          refine wpStill_go (v := .bool false) rfl rfl (stays_run fun w' h => by simp [go_sem]) ?_
          simp only [Act.put, List.setIfInBounds_toArray, List.set_cons_succ, List.set_cons_zero]
          refine wpStill_nil ?_
          repeat (refine wpMark_skip rfl ?_)
          refine wpMark_nil fun w2 h2 => ?_
          simp only [onlyN]
          have h2' : Below wr.heap.size wr w2 := (Below.refl _ _).drew.trans h2
          gi_wp2_with fail
          go_roundw
          case measure => simp [intOf]; omega
          case rel => exact ⟨k + 1, by omega, by omega, by go_num, Hnn.out, hbk.trans (h2'.mono hbk.size)⟩
      · obtain rfl : k = 8 := by omega
        have hres : VisRes l 0 [] false := .inr ⟨rfl, rfl, rfl, fun m us h => by have := hnone m us h; have := h.bd.1; omega⟩
        have Hres := Lib.hid hres; clear hres
        have Hnone := Lib.hid hnone; clear hnone
        have q0 := (old hy0 (Below.refl _ _)).cell
        have q1 := (old hy1 (Below.refl _ _)).cell
        have q2 := (old hy2 (Below.refl _ _)).cell
        have z0 := (old hy0 (Below.refl _ _)).frozen
        have z1 := (old hy1 (Below.refl _ _)).frozen
        have z2 := (old hy2 (Below.refl _ _)).frozen
        gi_wp2_with fail
        have h0 := old (w2 := wr) hy0 (Below.refl _ _)
        have h1 := old (w2 := wr) hy1 (Below.refl _ _)
        have h2 := old (w2 := wr) hy2 (Below.refl _ _)
        have hBw := Hb.out
        have hKk : wr.heap[D]? = some (.deferred (some [])) := (hbk.block D (Array.getElem?_eq_some_iff.1 hK).1).trans hK
        have hg : ∀ (A : World) (B : Nat) (v : Value), B < b + 7 → A.heap[D]? = some (.deferred (some [])) → (A.setCell ⟨B, 0, none⟩ v).heap[D]? = some (.deferred (some [])) := fun A B v hB h =>
          ((grownBy_setCell' A B v).block D (Array.getElem?_eq_some_iff.1 h).1 (fun e => by injection e; omega)).trans h
        refine vf_end Hb.out (by omega) (hg _ _ _ (by omega) (hg _ _ _ (by omega) (hg _ _ _ (by omega) hKk))) rfl rfl rfl ?_ ?_ ?_ (vs := []) Hres.out (World.ownsRow_nil _ _ _ _) ?_
        · exact Boxed.other (Boxed.other (h0.set _) (by omega) _) (by omega) _
        · exact Boxed.other (Boxed.set _ (Boxed.other h1 (by omega) _)) (by omega) _
        · exact Boxed.set _ (Boxed.other (Boxed.other h2 (by omega) _) (by omega) _)
        · exact ((hbk2.setCell (p := ⟨b, 0, none⟩) (by show w.heap.size ≤ b; omega) _).setCell (p := ⟨b + 1, 0, none⟩) (by show w.heap.size ≤ b + 1; omega) _).setCell (p := ⟨b + 1 + 1, 0, none⟩) (by show w.heap.size ≤ b + 1 + 1; omega) _
  case stop =>
    rintro D k pre W hD ⟨rfl, hno, hy0, hy1, hy2, hbel⟩ hK
    gi_wp2_with fail
    exact vf_end Hb.out (by omega) hK rfl rfl rfl hy0 hy1 hy2 (vs := []) (.inr ⟨rfl, rfl, rfl, hno⟩) (World.ownsRow_nil _ _ _ _) hbel
theorem visFrom_any (l : List UInt8) (w : World) (hs : l.length ≤ 1048576) (ht : Tab w) (he : Errs w) (hsh : w.ShapedOpen Tryd.prog) :
    Calls Tryd.prog 32 #[.string ⟨l.toArray⟩] w fun e w' => ∃ (n : Int) (v : Value) (vs : List (Int × Int)) (ok : Bool), e = .returned (.tuple #[.int .i64 n, v, .bool ok]) ∧ VisRes l n vs ok ∧
      w'.ownsRow w.heap.size 70 2 v vs.length (vs.flatMap pairCells) ∧ Below w.heap.size w w' := callsIn_wide.1 (visFrom_in l w hs ht he hsh)
end Go.Proofs.YtbadeopjfmafcaaDoor
