/- Gaussian integers: what the program's and the reference's functions on them return. -/
import Derived.Test.YtcllkocmnohnkaaCov
import Derived.Test.YtcllkocmnohnkaaRow
import Derived.Test.YtcllkocmnohnkaaRegion
namespace Go.Proofs.Ytcllkocmnohnkaa
open Go.RowKit

/-- Within a limit, at both ends. -/
def inR (n lo hi : Int) : Bool := decide (lo ≤ n) && decide (n ≤ hi)
theorem inR_iff {n lo hi : Int} : inR n lo hi = true ↔ lo ≤ n ∧ n ≤ hi := by unfold inR; simp
theorem inR_no {n lo hi : Int} : inR n lo hi = false ↔ ¬ (lo ≤ n ∧ n ≤ hi) := by
  rw [← Bool.not_eq_true, inR_iff]

theorem inRange_any (n m : Int) (w : World) (h0 : 0 ≤ m) (h1 : m ≤ 4000000000) :
    Calls Try.prog 105 #[.int .i64 n, .int .i64 m] w fun e w' => e = .returned (.bool (inR n (-m) m)) ∧ w = w' := by
  by_cases ha : -m ≤ n
  · by_cases hb : n ≤ m
    · have d1 : decide (-m ≤ n) = true := by simpa using ha
      have d2 : decide (n ≤ m) = true := by simpa using hb
      go_enter Try.func105, Try.ntmps105
      go_wp2
      go_ret
      exact ⟨ret_bool (by simp [inR, ha, hb]), rfl⟩
    · have hb' : m < n := by omega
      go_enter Try.func105, Try.ntmps105
      go_wp2
      go_ret
      exact ⟨ret_bool (by simp [inR, ha]; omega), rfl⟩
  · have ha' : n < -m := by omega
    go_enter Try.func105, Try.ntmps105
    go_wp2
    go_ret
    exact ⟨ret_bool (by simp [inR]; omega), rfl⟩

theorem l6In_any (n lo hi : Int) (w : World) :
    Calls Try.prog 178 #[.int .i64 n, .int .i64 lo, .int .i64 hi] w fun e w' => e = .returned (.bool (inR n lo hi)) ∧ w = w' := by
  by_cases ha : lo ≤ n
  · go_enter Try.func178, Try.ntmps178
    go_wp2
    go_ret
    exact ⟨ret_bool (by simp [inR, ha]), rfl⟩
  · have ha' : n < lo := by omega
    go_enter Try.func178, Try.ntmps178
    go_wp2
    go_ret
    exact ⟨ret_bool (by simp [inR]; omega), rfl⟩

/-- A valid Gaussian integer. -/
def gv (x y : Int) : Bool := inR x (-1000000000) 1000000000 && inR y (-1000000000) 1000000000
theorem gv_iff {x y : Int} : gv x y = true ↔ (-1000000000 ≤ x ∧ x ≤ 1000000000) ∧ -1000000000 ≤ y ∧ y ≤ 1000000000 := by
  unfold gv; rw [Bool.and_eq_true, inR_iff, inR_iff]

theorem gaussValid_any (x y : Int) (w : World) :
    Calls Try.prog 128 #[.agg #[.int .i64 x, .int .i64 y]] w fun e w' => e = .returned (.bool (gv x y)) ∧ Below w.heap.size w w' := by
  cases hx : inR x (-1000000000) 1000000000
  all_goals
    have Hx := Lib.hid hx
    clear hx
    go_enter Try.func128, Try.ntmps128
    go_wp2_with fail
    refine (inRange_any _ _ _ (by omega) (by omega)).mono ?_
    rintro e w' ⟨rfl, rfl⟩
    rw [Hx.out]
    go_wp2_with (go_at_call 105; refine (inRange_any _ _ _ (by omega) (by omega)).mono ?_; rintro e w' ⟨rfl, rfl⟩)
    go_ret
    exact ⟨ret_bool (by unfold gv; rw [Hx.out]; rfl), (Below.refl _ _).alloc (Nat.le_refl _) _⟩

theorem sGaussValid_any (x y : Int) (w : World) :
    Calls Try.prog 170 #[.agg #[.int .i64 x, .int .i64 y]] w fun e w' => e = .returned (.bool (gv x y)) ∧ Below w.heap.size w w' := by
  cases hx : inR x (-1000000000) 1000000000
  all_goals
    have Hx := Lib.hid hx
    clear hx
    go_enter Try.func170, Try.ntmps170
    go_wp2_with fail
    refine (l6In_any _ _ _ _).mono ?_
    rintro e w' ⟨rfl, rfl⟩
    rw [Hx.out]
    go_wp2_with (go_at_call 178; refine (l6In_any _ _ _ _).mono ?_; rintro e w' ⟨rfl, rfl⟩)
    go_ret
    exact ⟨ret_bool (by unfold gv; rw [Hx.out]; rfl), (Below.refl _ _).alloc (Nat.le_refl _) _⟩

/-! ### A result that is a struct lies in a block of the call's own -/
theorem mul_bd (a b M N : Int) (ha : -M ≤ a ∧ a ≤ M) (hb : -N ≤ b ∧ b ≤ N) : -(M * N) ≤ a * b ∧ a * b ≤ M * N := by
  have h1 : a.natAbs ≤ M.toNat := by omega
  have h2 : b.natAbs ≤ N.toNat := by omega
  have h3 := Nat.mul_le_mul h1 h2
  rw [← Int.natAbs_mul] at h3
  have hM : (M.toNat : Int) = M := by omega
  have hN : (N.toNat : Int) = N := by omega
  have h4 : ((M.toNat * N.toNat : Nat) : Int) = M * N := by rw [Int.natCast_mul, hM, hN]
  have h5 : ((a * b).natAbs : Int) ≤ M * N := by rw [← h4]; exact Int.ofNat_le.2 h3
  omega

theorem and3 (k : Int) : bits .and .i64 k 3 = k % 4 := by
  show IntKind.i64.wrap ((BitVec.ofInt 64 k &&& BitVec.ofInt 64 3).toNat : Int) = _
  rw [BitVec.toNat_and, show (BitVec.ofInt 64 3).toNat = 2 ^ 2 - 1 from rfl, Nat.and_two_pow_sub_one_eq_mod, BitVec.toNat_ofInt, IntKind.wrap_i64]
  omega

/-- i to the power of k. -/
def unit (k : Int) : Int × Int := if k % 4 = 0 then (1, 0) else if k % 4 = 1 then (0, 1) else if k % 4 = 2 then (-1, 0) else (0, -1)
theorem unit_cases (k : Int) : (k % 4 = 0 ∧ unit k = (1, 0)) ∨ (k % 4 = 1 ∧ unit k = (0, 1)) ∨ (k % 4 = 2 ∧ unit k = (-1, 0)) ∨ (k % 4 = 3 ∧ unit k = (0, -1)) := by
  have : k % 4 = 0 ∨ k % 4 = 1 ∨ k % 4 = 2 ∨ k % 4 = 3 := by omega
  unfold unit
  rcases this with h | h | h | h <;> simp [h]

theorem unit_i (w : World) : (Instr.index 129 (.agg #[.int .i64 1, .int .i64 0, .int .i64 0, .int .i64 1, .int .i64 (-1), .int .i64 0, .int .i64 0, .int .i64 (-1)]) (.int .i64 0)).run Try.prog w = .ok (.agg #[.int .i64 1, .int .i64 0]) w
    ∧ (Instr.index 129 (.agg #[.int .i64 1, .int .i64 0, .int .i64 0, .int .i64 1, .int .i64 (-1), .int .i64 0, .int .i64 0, .int .i64 (-1)]) (.int .i64 1)).run Try.prog w = .ok (.agg #[.int .i64 0, .int .i64 1]) w
    ∧ (Instr.index 129 (.agg #[.int .i64 1, .int .i64 0, .int .i64 0, .int .i64 1, .int .i64 (-1), .int .i64 0, .int .i64 0, .int .i64 (-1)]) (.int .i64 2)).run Try.prog w = .ok (.agg #[.int .i64 (-1), .int .i64 0]) w
    ∧ (Instr.index 129 (.agg #[.int .i64 1, .int .i64 0, .int .i64 0, .int .i64 1, .int .i64 (-1), .int .i64 0, .int .i64 0, .int .i64 (-1)]) (.int .i64 3)).run Try.prog w = .ok (.agg #[.int .i64 0, .int .i64 (-1)]) w :=
  ⟨by kernel_rfl, by kernel_rfl, by kernel_rfl, by kernel_rfl⟩

set_option maxRecDepth 100000 in
theorem gaussUnit_any (k : Int) (w : World) :
    Calls Try.prog 51 #[.int .i64 k] w fun e w' => e = .returned (.agg #[.int .i64 (unit k).1, .int .i64 (unit k).2]) ∧ Below w.heap.size w w' := by
  go_enter Try.func51, Try.ntmps51
  go_wp2_with fail
  have hu := unit_cases k
  have hb := and3 k
  rcases hu with ⟨h, hu⟩ | ⟨h, hu⟩ | ⟨h, hu⟩ | ⟨h, hu⟩
  all_goals
    rw [h] at hb
    rw [hb]
    clear h hb
    have Hu := Lib.hid hu
    clear hu
    first | rw [(unit_i _).1] | rw [(unit_i _).2.1] | rw [(unit_i _).2.2.1] | rw [(unit_i _).2.2.2]
    simp only [Result.andThen]
    rw [Oper.upon_value]
    go_wp2_with fail
    refine bodyPost_ret (by simp [results, Try.results51, go_sem, Hu.out]) rfl ⟨rfl, ?_⟩
    exact (Below.refl _ _).alloc (Nat.le_refl _) _

set_option maxRecDepth 100000 in
theorem sGaussUnit_any (k : Int) (w : World) :
    Calls Try.prog 100 #[.int .i64 k] w fun e w' => e = .returned (.agg #[.int .i64 (unit k).1, .int .i64 (unit k).2]) ∧ Below w.heap.size w w' := by
  go_enter Try.func100, Try.ntmps100
  go_wp2_with fail
  refine (l1Mod_any _ 4 _ (by omega) (by omega)).mono ?_
  rintro e w' ⟨rfl, rfl⟩
  have hu := unit_cases k
  rcases hu with ⟨h, hu⟩ | ⟨h, hu⟩ | ⟨h, hu⟩ | ⟨h, hu⟩
  all_goals
    rw [h]
    clear h
    have Hu := Lib.hid hu
    clear hu
    go_wp2_with fail
    refine bodyPost_ret (by simp [results, Try.results100, go_sem, Hu.out]) rfl ⟨rfl, ?_⟩
    exact ((Below.refl _ _).alloc (Nat.le_refl _) _).alloc (by simp) _

def GB (x : Int) : Prop := -1000000000 ≤ x ∧ x ≤ 1000000000
theorem GB.gv {x y : Int} (h : gv x y = true) : GB x ∧ GB y := gv_iff.1 h
theorem gTimes_any (a b c d : Int) (w : World) (ha : GB a) (hb : GB b) (hc : GB c) (hd : GB d) :
    Calls Try.prog 162 #[.agg #[.int .i64 a, .int .i64 b], .agg #[.int .i64 c, .int .i64 d]] w fun e w' => e = .returned (.agg #[.int .i64 (a * c - b * d), .int .i64 (a * d + b * c)]) ∧ Below w.heap.size w w' := by
  have h1 := mul_bd a c _ _ ha hc
  have h2 := mul_bd b d _ _ hb hd
  have h3 := mul_bd a d _ _ ha hd
  have h4 := mul_bd b c _ _ hb hc
  simp only [Int.reduceMul, Int.reduceNeg] at h1 h2 h3 h4
  go_enter Try.func162, Try.ntmps162
  go_wp2_with fail
  refine bodyPost_ret (v := .agg #[.int .i64 (a * c - b * d), .int .i64 (a * d + b * c)]) (by simp [results, Try.results162, go_sem]) rfl ⟨rfl, ?_⟩
  exact (((Below.refl _ _).alloc (Nat.le_refl _) _).alloc (by simp) _).alloc (by simp; omega) _

theorem gPlus_any (a b c d : Int) (w : World) (ha : -4000000000000000000 ≤ a ∧ a ≤ 4000000000000000000) (hb : -4000000000000000000 ≤ b ∧ b ≤ 4000000000000000000) (hc : -4000000000000000000 ≤ c ∧ c ≤ 4000000000000000000) (hd : -4000000000000000000 ≤ d ∧ d ≤ 4000000000000000000) :
    Calls Try.prog 179 #[.agg #[.int .i64 a, .int .i64 b], .agg #[.int .i64 c, .int .i64 d]] w fun e w' => e = .returned (.agg #[.int .i64 (a + c), .int .i64 (b + d)]) ∧ Below w.heap.size w w' := by
  go_enter Try.func179, Try.ntmps179
  go_wp2_with fail
  refine bodyPost_ret (v := .agg #[.int .i64 (a + c), .int .i64 (b + d)]) (by simp [results, Try.results179, go_sem]) rfl ⟨rfl, ?_⟩
  exact (((Below.refl _ _).alloc (Nat.le_refl _) _).alloc (by simp) _).alloc (by simp; omega) _

theorem gConj_any (a b : Int) (w : World) (hb : GB b) :
    Calls Try.prog 156 #[.agg #[.int .i64 a, .int .i64 b]] w fun e w' => e = .returned (.agg #[.int .i64 a, .int .i64 (-b)]) ∧ Below w.heap.size w w' := by
  obtain ⟨hb1, hb2⟩ := hb
  go_enter Try.func156, Try.ntmps156
  go_wp2_with fail
  refine bodyPost_ret (v := .agg #[.int .i64 a, .int .i64 (-b)]) (by simp [results, Try.results156, go_sem]) rfl ⟨rfl, ?_⟩
  exact ((Below.refl _ _).alloc (Nat.le_refl _) _).alloc (by simp) _

/-! ### Blocks of the call's own, over a callee that leaves what was there -/
theorem Row.two {w : World} {g : Nat} {T : TypeId} {x y : Value} (h : Row w g T [x, y]) : w.cell? ⟨g, 0, none⟩ = some x ∧ w.cell? ⟨g, 1, none⟩ = some y ∧ w.frozen? ⟨g, 0, none⟩ = false ∧ w.frozen? ⟨g, 1, none⟩ = false :=
  ⟨h.cell 0, h.cell 1, h.frozen 0, h.frozen 1⟩
theorem Row.new0 (w : World) (T : TypeId) (xs : List Value) : Row (w.alloc (.cells xs.toArray T)) w.heap.size T xs := Row.new w T xs
theorem Row.new1 (w : World) (o : Obj) (T : TypeId) (xs : List Value) : Row ((w.alloc o).alloc (.cells xs.toArray T)) (w.heap.size + 1) T xs := by
  have := Row.new (w.alloc o) T xs
  simpa using this
theorem Row.new2 (w : World) (o o' : Obj) (T : TypeId) (xs : List Value) : Row (((w.alloc o).alloc o').alloc (.cells xs.toArray T)) (w.heap.size + 2) T xs := by
  have := Row.new ((w.alloc o).alloc o') T xs
  simpa using this

/-- The pair if it is valid, with whether it is. -/
theorem gaussChecked_any (a b : Int) (w : World) :
    Calls Try.prog 161 #[.agg #[.int .i64 a, .int .i64 b]] w fun e w' =>
      e = .returned (.tuple #[.agg #[.int .i64 (if gv a b then a else 0), .int .i64 (if gv a b then b else 0)], .bool (gv a b)]) ∧ Below w.heap.size w w' := by
  cases h : gv a b
  all_goals
    have H := Lib.hid h
    clear h
    go_enter Try.func161, Try.ntmps161
    go_wp2_with fail
    refine (gaussValid_any _ _ _).mono ?_
    rintro e w1 ⟨rfl, hb1⟩
    rw [H.out]
    obtain ⟨c0, c1, _, _⟩ := (((Row.new0 w 49 [.int .i64 a, .int .i64 b]).alloc (.cells #[.int .i64 0, .int .i64 0] 49)).kept hb1).two
    obtain ⟨d0, d1, f0, f1⟩ := ((Row.new1 w (.cells #[.int .i64 a, .int .i64 b] 49) 49 [.int .i64 0, .int .i64 0]).kept hb1).two
    have Hb := Lib.hid (((Below.refl _ _).alloc (Nat.le_refl _) _).alloc (by simp) _ |>.trans (hb1.mono (by simp; omega)))
    clear hb1
    go_wp2_with fail
    refine bodyPost_ret (v := .tuple #[.agg #[.int .i64 _, .int .i64 _], .bool _]) (by simp [results, Try.results161, go_sem, d0, d1]) rfl ⟨rfl, ?_⟩
    exact (Hb.out.setCell (p := ⟨w.heap.size + 1, 0, none⟩) (by simp) _).setCell (p := ⟨w.heap.size + 1, 1, none⟩) (by simp) _

/-- Two numbers made a pair, if it is valid (the reference's). -/
theorem l1Made_any (a b : Int) (w : World) :
    Calls Try.prog 184 #[.int .i64 a, .int .i64 b] w fun e w' =>
      e = .returned (.tuple #[.agg #[.int .i64 (if gv a b then a else 0), .int .i64 (if gv a b then b else 0)], .bool (gv a b)]) ∧ Below w.heap.size w w' := by
  cases h : gv a b
  all_goals
    have H := Lib.hid h
    clear h
    go_enter Try.func184, Try.ntmps184
    go_wp2_with fail
    refine (sGaussValid_any _ _ _).mono ?_
    rintro e w1 ⟨rfl, hb1⟩
    rw [H.out]
    obtain ⟨d0, d1, f0, f1⟩ := (((Row.new0 w 49 [.int .i64 0, .int .i64 0]).alloc (.cells #[.int .i64 a, .int .i64 b] 49)).kept hb1).two
    obtain ⟨c0, c1, _, _⟩ := ((Row.new1 w (.cells #[.int .i64 0, .int .i64 0] 49) 49 [.int .i64 a, .int .i64 b]).kept hb1).two
    have Hb := Lib.hid (((Below.refl _ _).alloc (Nat.le_refl _) _).alloc (by simp) _ |>.trans (hb1.mono (by simp; omega)))
    clear hb1
    go_wp2_with fail
    refine bodyPost_ret (v := .tuple #[.agg #[.int .i64 _, .int .i64 _], .bool _]) (by simp [results, Try.results184, go_sem, d0, d1]) rfl ⟨rfl, ?_⟩
    exact (Hb.out.setCell (p := ⟨w.heap.size, 0, none⟩) (by simp) _).setCell (p := ⟨w.heap.size, 1, none⟩) (by simp) _

/-- A product, checked: both factors valid and the product too. -/
def gMul (a b c d : Int) : (Int × Int) × Bool :=
  if gv a b && gv c d && gv (a * c - b * d) (a * d + b * c) then ((a * c - b * d, a * d + b * c), true) else ((0, 0), false)

theorem gMul_1 {a b c d : Int} (h : gv a b = false) : gMul a b c d = ((0, 0), false) := by unfold gMul; rw [h]; rfl
theorem gMul_2 {a b c d : Int} (h : gv c d = false) : gMul a b c d = ((0, 0), false) := by unfold gMul; rw [h, Bool.and_false]; rfl
theorem gMul_3 {a b c d : Int} (h1 : gv a b = true) (h2 : gv c d = true) : gMul a b c d =
    ((if gv (a * c - b * d) (a * d + b * c) then a * c - b * d else 0, if gv (a * c - b * d) (a * d + b * c) then a * d + b * c else 0), gv (a * c - b * d) (a * d + b * c)) := by
  unfold gMul; rw [h1, h2]
  cases gv (a * c - b * d) (a * d + b * c) <;> rfl

set_option maxRecDepth 100000 in
theorem gaussMul_any (a b c d : Int) (w : World) :
    Calls Try.prog 81 #[.agg #[.int .i64 a, .int .i64 b], .agg #[.int .i64 c, .int .i64 d]] w fun e w' =>
      e = .returned (.tuple #[.agg #[.int .i64 (gMul a b c d).1.1, .int .i64 (gMul a b c d).1.2], .bool (gMul a b c d).2]) ∧ Below w.heap.size w w' := by
  go_enter Try.func81, Try.ntmps81
  go_wp2_with fail
  refine (gaussValid_any _ _ _).mono ?_
  rintro e w1 ⟨rfl, hb1⟩
  have r0 := ((((Row.new0 w 49 [.int .i64 a, .int .i64 b]).alloc (.cells #[.int .i64 c, .int .i64 d] 49)).alloc (.cells #[.int .i64 0, .int .i64 0] 49)).kept hb1)
  have r1 := (((Row.new1 w (.cells #[.int .i64 a, .int .i64 b] 49) 49 [.int .i64 c, .int .i64 d]).alloc (.cells #[.int .i64 0, .int .i64 0] 49)).kept hb1)
  have r2 := ((Row.new2 w (.cells #[.int .i64 a, .int .i64 b] 49) (.cells #[.int .i64 c, .int .i64 d] 49) 49 [.int .i64 0, .int .i64 0]).kept hb1)
  have Hb := Lib.hid ((((Below.refl _ _).alloc (Nat.le_refl _) _).alloc (by simp) _).alloc (by simp; omega) _ |>.trans (hb1.mono (by simp; omega)))
  clear hb1
  obtain ⟨a0, a1, _, _⟩ := r0.two
  obtain ⟨b0, b1, _, _⟩ := r1.two
  obtain ⟨c0, c1, f0, f1⟩ := r2.two
  cases h1 : gv a b
  · have Hm := Lib.hid (gMul_1 (c := c) (d := d) h1)
    clear h1 r0 r1 r2
    go_wp2_with fail
    refine bodyPost_ret (by simp [results, Try.results81, go_sem, c0, c1]; rfl) rfl ⟨by rw [Hm.out], ?_⟩
    exact (Hb.out.setCell (p := ⟨w.heap.size + 2, 0, none⟩) (by simp) _).setCell (p := ⟨w.heap.size + 2, 1, none⟩) (by simp) _
  · have H1 := Lib.hid h1
    clear h1
    go_wp2_with fail
    refine (gaussValid_any _ _ _).mono ?_
    rintro e w2 ⟨rfl, hb2⟩
    have r0 := r0.kept hb2
    have r1 := r1.kept hb2
    have r2 := r2.kept hb2
    have Hb2 := Lib.hid (Hb.out.trans (hb2.mono Hb.out.size))
    clear hb2 a0 a1 b0 b1 c0 c1 f0 f1 Hb
    obtain ⟨a0, a1, _, _⟩ := r0.two
    obtain ⟨b0, b1, _, _⟩ := r1.two
    obtain ⟨c0, c1, f0, f1⟩ := r2.two
    cases h2 : gv c d
    · have Hm := Lib.hid (gMul_2 (a := a) (b := b) h2)
      clear h2 r0 r1 r2
      go_wp2_with fail
      refine bodyPost_ret (by simp [results, Try.results81, go_sem, c0, c1]; rfl) rfl ⟨by rw [Hm.out], ?_⟩
      exact (Hb2.out.setCell (p := ⟨w.heap.size + 2, 0, none⟩) (by simp) _).setCell (p := ⟨w.heap.size + 2, 1, none⟩) (by simp) _
    · obtain ⟨ga, gb⟩ := gv_iff.1 H1.out
      obtain ⟨gc, gd⟩ := gv_iff.1 h2
      have Hm := Lib.hid (gMul_3 H1.out h2)
      clear h2 r0 r1
      go_wp2_with fail
      refine (gTimes_any _ _ _ _ _ ga gb gc gd).mono ?_
      rintro e w3 ⟨rfl, hb3⟩
      go_wp2_with fail
      refine (gaussChecked_any _ _ _).mono ?_
      rintro e w4 ⟨rfl, hb4⟩
      have r2 := (r2.kept hb3).kept hb4
      have Hb4 := Lib.hid ((Hb2.out.trans (hb3.mono Hb2.out.size)).trans (hb4.mono (Nat.le_trans Hb2.out.size hb3.size)))
      clear hb3 hb4 Hb2 a0 a1 b0 b1 c0 c1 f0 f1
      obtain ⟨c0, c1, f0, f1⟩ := r2.two
      have Hr := Lib.hid r2
      clear r2
      generalize hg : gv (a * c - b * d) (a * d + b * c) = g at Hm ⊢
      generalize hx : (if g = true then a * c - b * d else 0) = x at Hm ⊢
      generalize hy : (if g = true then a * d + b * c else 0) = y at Hm ⊢
      clear hg hx hy
      go_wp2_with fail
      refine bodyPost_ret (by simp [results, Try.results81, go_sem, c0, c1]; rfl) rfl ⟨by rw [Hm.out], ?_⟩
      exact (Hb4.out.setCell (p := ⟨w.heap.size + 2, 0, none⟩) (by simp) _).setCell (p := ⟨w.heap.size + 2, 1, none⟩) (by simp) _

end Go.Proofs.Ytcllkocmnohnkaa
