/- 'impl.BaseVector', 'impl.BasePair', 'impl.SkyTransform'. -/
import Derived.Test.YtfandpgjlahnpaaObsI
namespace Go.Proofs.Ytfandpgjlahnpaa
open Go.RowKit Go.Shelf
attribute [local go_sem] Oper.semAt_some

theorem isAnt_yes (n i : Int) (w : World) (h0 : 0 ≤ i) (h1 : i < n) : Calls Try.prog 113 #[.int .i64 n, .int .i64 i] w fun e w' => e = .returned (.bool true) ∧ w = w' := by
  go_enter Try.func113, Try.ntmps113
  go_wp2_with fail
  go_ret
  exact ⟨rfl, rfl⟩

theorem baseVector_yes (A : Option Addr) (n cap : Nat) (xs : List (Int × Int)) (i j : Nat) (w : World) (hn : xs.length = n) (hk : n ≤ cap) (hv : arrV xs = true) (hi : i < n) (hj : j < n) (hr : Rd w w.heap.size A (xs.flatMap pairCells)) :
    Calls Try.prog 52 #[.slice A n cap, .int .i64 i, .int .i64 j] w fun e w' => e = .returned (.tuple #[.agg #[.int .i64 (vecX xs i j), .int .i64 (vecY xs i j)], .bool true]) ∧ Below w.heap.size w w' := by
  have hl := arrV_len hv
  have hgl := arrV_gLe hv
  have r0 := Row.new w 35 [.int .i64 0, .int .i64 0]
  have hr' := hr.ext (bA1 (o := .cells #[.int .i64 0, .int .i64 0] 35))
  have hin : (i : Int) < n := by omega
  have hjn : (j : Int) < n := by omega
  have hnb : n ≤ 1048576 := by omega
  clear hl
  have Hn := Lib.hid hn; clear hn
  have Hv := Lib.hid hv; clear hv
  have Hgl := Lib.hid hgl; clear hgl
  go_enter Try.func52, Try.ntmps52
  go_wp2_with fail
  refine (arrayValid_any A n cap xs _ Hn.out hk hnb hr').mono ?_
  rintro e w1 ⟨rfl, b1⟩
  rw [Hv.out]
  have r1 := r0.kept b1
  have hr1 := hr'.ext b1
  have B1 := bA1.trans (b1.mono bA1.size)
  clear b1 r0 hr'
  go_wp2_with fail
  refine (isAnt_yes n i _ (by omega) hin).mono ?_
  rintro e w2 ⟨rfl, rfl⟩
  go_wp2_with fail
  refine (isAnt_yes n j _ (by omega) hjn).mono ?_
  rintro e w2 ⟨rfl, rfl⟩
  go_wp2_with fail
  refine (vector_any A n cap xs i j _ Hn.out hi hj Hgl.out hr1).mono ?_
  rintro e w3 ⟨rfl, b3⟩
  have r3 := r1.kept b3
  have B3 := B1.trans (b3.mono B1.size)
  obtain ⟨c0, c1, f0, f1⟩ := r3.two
  generalize hx : vecX xs i j = x at *
  generalize hy : vecY xs i j = y at *
  have Hx := Lib.hid hx; clear hx
  have Hy := Lib.hid hy; clear hy
  clear b3 r1
  go_wp2_with fail
  have r4 := (r3.set_ 0 (.int .i64 x)).set_ 1 (.int .i64 y)
  have hb4 := set2 B3 (g := w.heap.size) (Nat.le_refl _) (u := .int .i64 x) (v := .int .i64 y)
  generalize (w3.setCell ⟨w.heap.size, 0, none⟩ (.int .i64 x)).setCell ⟨w.heap.size, 1, none⟩ (.int .i64 y) = V at r4 hb4 ⊢
  obtain ⟨d0, d1, _, _⟩ := r4.two
  refine bodyPost_ret (v := .tuple #[.agg #[.int .i64 x, .int .i64 y], .bool true]) (by simp [results, Try.results52, go_sem, d0, d1]) rfl ⟨by rw [Hx.out, Hy.out], hb4⟩

theorem skyTransform_yes (A : Option Addr) (ca : Nat) (s : List Int) (w : World) (hv : skyV s = true) (hr : Rd w w.heap.size A (s.map (Value.int .i64))) :
    Calls Try.prog 46 #[.slice A 16 ca] w fun e w' => ∃ g, e = .returned (.tuple #[.slice (some ⟨g, 0, none⟩) 16 16, .bool true]) ∧ w.heap.size ≤ g ∧ Row w' g 31 ((skyT s).flatMap pairCells) ∧ Below w.heap.size w w' := by
  have hl := skyV_len hv
  have hle0 := gLe_mono (gLe_reG (M := 100000) (by omega) (skyV_iff.1 hv).2) (N := 1000000000) (by omega)
  have hrl : (reG s).length = 16 := by unfold reG; rw [List.length_map]; exact hl
  have Hl := Lib.hid hl; clear hl
  have Hv := Lib.hid hv; clear hv
  have Hle0 := Lib.hid hle0; clear hle0
  have Hrl := Lib.hid hrl; clear hrl
  go_enter Try.func46, Try.ntmps46
  go_wp2_with fail
  refine (skyValid_any A 16 ca s _ Hl.out (by omega) hr).mono ?_
  rintro e w1 ⟨rfl, rfl⟩
  rw [Hv.out]
  go_wp2_with fail
  refine (realGrid_any A 16 ca s _ Hl.out (by omega) hr).mono ?_
  rintro e w2 ⟨v, rfl, o2, b2⟩
  obtain ⟨A2, c2, rfl⟩ := own_form o2
  have hg2 := Rd.of_own o2
  clear o2
  go_wp2_with fail
  refine (transform_any A2 c2 (reG s) 1 _ Hrl.out (.inl rfl) Hle0.out hg2).mono ?_
  rintro e w3 ⟨rfl, r3, b3⟩
  have B3 := b2.trans (b3.mono b2.size)
  have hs2 := b2.size
  clear b2 b3
  go_wp2_with fail
  refine bodyPost_ret (v := .tuple #[.slice (some ⟨w2.heap.size, 0, none⟩) 16 16, .bool true]) (by simp [results, Try.results46, go_sem]) rfl ⟨_, rfl, hs2, r3, B3⟩
end Go.Proofs.Ytfandpgjlahnpaa
