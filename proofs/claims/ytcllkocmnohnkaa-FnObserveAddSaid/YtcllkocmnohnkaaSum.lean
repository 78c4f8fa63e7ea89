/- Sums over the sixteen cells, and the waves. -/
import Derived.Test.YtcllkocmnohnkaaBeamP
namespace Go.Proofs.Ytcllkocmnohnkaa
open Go.RowKit

def sumN (n : Nat) (f : Nat → Int) : Int := ((List.range n).map f).sum
theorem sumN_zero (f : Nat → Int) : sumN 0 f = 0 := rfl
theorem sumN_succ (n : Nat) (f : Nat → Int) : sumN (n + 1) f = sumN n f + f n := by
  unfold sumN; rw [List.range_succ, List.map_append, List.sum_append]; simp
theorem sum16_eq (f : Nat → Int) : sum16 f = sumN 16 f := rfl
theorem sumN_congr {n : Nat} {f g : Nat → Int} (h : ∀ k, k < n → f k = g k) : sumN n f = sumN n g := by
  unfold sumN
  congr 1
  exact List.map_congr_left fun a ha => h a (List.mem_range.1 ha)
theorem sumN_add (n : Nat) (f g : Nat → Int) : sumN n (fun k => f k + g k) = sumN n f + sumN n g := by
  induction n with
  | zero => rfl
  | succ n ih => rw [sumN_succ, sumN_succ, sumN_succ, ih]; omega
theorem sumN_sub (n : Nat) (f g : Nat → Int) : sumN n (fun k => f k - g k) = sumN n f - sumN n g := by
  induction n with
  | zero => rfl
  | succ n ih => rw [sumN_succ, sumN_succ, sumN_succ, ih]; omega
theorem sumN_mul (n : Nat) (c : Int) (f : Nat → Int) : sumN n (fun k => c * f k) = c * sumN n f := by
  induction n with
  | zero => simp [sumN]
  | succ n ih => rw [sumN_succ, sumN_succ, ih, Int.mul_add]
theorem sumN_mul' (n : Nat) (c : Int) (f : Nat → Int) : sumN n (fun k => f k * c) = sumN n f * c := by
  rw [Int.mul_comm, ← sumN_mul]
  exact sumN_congr fun k _ => Int.mul_comm _ _
theorem sumN_zero' (n : Nat) : sumN n (fun _ => 0) = 0 := by
  induction n with
  | zero => rfl
  | succ n ih => rw [sumN_succ, ih]; rfl
theorem sumN_comm (m n : Nat) (f : Nat → Nat → Int) : sumN m (fun a => sumN n fun b => f a b) = sumN n fun b => sumN m fun a => f a b := by
  induction m with
  | zero => exact (sumN_zero' n).symm
  | succ m ih =>
    rw [sumN_succ, ih, ← sumN_add]
    exact sumN_congr fun k _ => (sumN_succ m _).symm
/-- Only one term counts. -/
theorem sumN_one {n : Nat} (i : Nat) (hi : i < n) (f : Nat → Int) (h : ∀ k, k < n → k ≠ i → f k = 0) : sumN n f = f i := by
  induction n with
  | zero => omega
  | succ n ih =>
    rw [sumN_succ]
    by_cases hin : i = n
    · subst hin
      rw [sumN_congr (g := fun _ => 0) fun k hk => h k (by omega) (by omega), sumN_zero']
      omega
    · rw [ih (by omega) fun k hk hne => h k (by omega) hne, h n (by omega) (by omega)]
      omega
theorem sum16_add (f g : Nat → Int) : sum16 (fun k => f k + g k) = sum16 f + sum16 g := sumN_add 16 f g
theorem sum16_sub (f g : Nat → Int) : sum16 (fun k => f k - g k) = sum16 f - sum16 g := sumN_sub 16 f g
theorem sum16_mul (c : Int) (f : Nat → Int) : sum16 (fun k => c * f k) = c * sum16 f := sumN_mul 16 c f
theorem sum16_mul' (c : Int) (f : Nat → Int) : sum16 (fun k => f k * c) = sum16 f * c := sumN_mul' 16 c f
theorem sum16_comm (f : Nat → Nat → Int) : sum16 (fun a => sum16 fun b => f a b) = sum16 fun b => sum16 fun a => f a b := sumN_comm 16 16 f
theorem sum16_one (i : Nat) (hi : i < 16) (f : Nat → Int) (h : ∀ k, k < 16 → k ≠ i → f k = 0) : sum16 f = f i := sumN_one i hi f h
theorem sum16_zero : sum16 (fun _ => 0) = 0 := sumN_zero' 16
theorem perm_sum {l l' : List Int} (h : List.Perm l l') : l.sum = l'.sum := by
  induction h with
  | nil => rfl
  | cons x _ ih => simp [ih]
  | swap x y l => simp; omega
  | trans _ _ h1 h2 => exact h1.trans h2
/-- The cells in another order. -/
theorem sum16_perm (s : Nat → Nat) (h : List.Perm ((List.range 16).map s) (List.range 16)) (f : Nat → Int) : sum16 (fun k => f (s k)) = sum16 f := by
  have h2 := perm_sum (h.map f)
  unfold sum16
  rw [← h2, List.map_map]
  rfl

/-- Cells added and subtracted. -/
def addC (a b : Nat) : Nat := 4 * ((a / 4 + b / 4) % 4) + (a % 4 + b % 4) % 4
def subC (a b : Nat) : Nat := 4 * ((a / 4 + 4 - b / 4) % 4) + (a % 4 + 4 - b % 4) % 4
theorem addC_lt (a b : Nat) : addC a b < 16 := by unfold addC; omega
theorem subC_lt (a b : Nat) : subC a b < 16 := by unfold subC; omega
theorem subC_opp : ∀ a, a < 16 → ∀ b, b < 16 → subC b a = oppN (subC a b) := by decide +kernel
theorem addC_sub : ∀ a, a < 16 → ∀ b, b < 16 → subC (addC a b) b = a := by decide +kernel
theorem subC_add : ∀ a, a < 16 → ∀ b, b < 16 → addC (subC a b) b = a := by decide +kernel
theorem subC_self : ∀ a, a < 16 → subC a a = 0 := by decide +kernel
theorem subC_zero : ∀ a, a < 16 → subC a 0 = a := by decide +kernel
theorem zero_subC : ∀ a, a < 16 → subC 0 a = oppN a := by decide +kernel
theorem addC_comm (a b : Nat) : addC a b = addC b a := by unfold addC; omega
theorem oppN_oppN : ∀ a, a < 16 → oppN (oppN a) = a := by decide +kernel
theorem perm_opp : List.Perm ((List.range 16).map oppN) (List.range 16) := by decide +kernel
theorem perm_sub : ∀ b, b < 16 → List.Perm ((List.range 16).map fun a => subC a b) (List.range 16) := by decide +kernel
theorem perm_sub' : ∀ b, b < 16 → List.Perm ((List.range 16).map fun a => subC b a) (List.range 16) := by decide +kernel
theorem perm_add : ∀ b, b < 16 → List.Perm ((List.range 16).map fun a => addC a b) (List.range 16) := by decide +kernel
theorem ph_comm (t a : Nat) : ph t a = ph a t := by
  unfold ph
  rw [Nat.mul_comm (t % 4), Nat.mul_comm (t / 4)]
theorem ph_sub : ∀ t, t < 16 → ∀ a, a < 16 → ∀ b, b < 16 → (ph t a - ph t b - ph t (subC a b)) % 4 = 0 := by decide +kernel
theorem ph_add : ∀ t, t < 16 → ∀ a, a < 16 → ∀ b, b < 16 → (ph t a + ph t b - ph t (addC a b)) % 4 = 0 := by decide +kernel
/-- The real and the imaginary part of a wave at a cell. -/
def wr (t a : Nat) : Int := (unit (ph t a)).1
def wi (t a : Nat) : Int := (unit (ph t a)).2
theorem wr_comm (t a : Nat) : wr t a = wr a t := by unfold wr; rw [ph_comm]
theorem wi_comm (t a : Nat) : wi t a = wi a t := by unfold wi; rw [ph_comm]
theorem wr_opp (t a : Nat) (ht : t < 16) (ha : a < 16) : wr (oppN t) a = wr t a := by
  unfold wr
  rw [unit_congr (b := -(ph t a)) (by have := ph_opp t ht a ha; omega), unit_neg]
theorem wi_opp (t a : Nat) (ht : t < 16) (ha : a < 16) : wi (oppN t) a = -(wi t a) := by
  unfold wi
  rw [unit_congr (b := -(ph t a)) (by have := ph_opp t ht a ha; omega), unit_neg]
/-- All waves, added up at a cell. -/
theorem wr_sum : ∀ a, a < 16 → sum16 (fun t => wr t a) = if a = 0 then 16 else 0 := by decide +kernel
theorem wi_sum : ∀ a, a < 16 → sum16 (fun t => wi t a) = 0 := by decide +kernel
theorem wr_zero : ∀ t, t < 16 → wr t 0 = 1 := by decide +kernel
theorem wi_zero : ∀ t, t < 16 → wi t 0 = 0 := by decide +kernel
theorem mul_unit (a b : Int) : (unit (a + b)).1 = (unit a).1 * (unit b).1 - (unit a).2 * (unit b).2 ∧ (unit (a + b)).2 = (unit a).1 * (unit b).2 + (unit a).2 * (unit b).1 := by
  rcases unit_cases a with ⟨h1, e1⟩ | ⟨h1, e1⟩ | ⟨h1, e1⟩ | ⟨h1, e1⟩ <;> rcases unit_cases b with ⟨h2, e2⟩ | ⟨h2, e2⟩ | ⟨h2, e2⟩ | ⟨h2, e2⟩ <;> rcases unit_cases (a + b) with ⟨h3, e3⟩ | ⟨h3, e3⟩ | ⟨h3, e3⟩ | ⟨h3, e3⟩ <;>
    first | (exfalso; omega) | (rw [e1, e2, e3]; simp)
theorem wr_sub (t a b : Nat) (ht : t < 16) (ha : a < 16) (hb : b < 16) : wr t (subC a b) = wr t a * wr t b + wi t a * wi t b := by
  have e : unit (ph t (subC a b)) = unit (ph t a + -(ph t b)) := unit_congr (by have := ph_sub t ht a ha b hb; omega)
  unfold wr wi
  rw [e, (mul_unit _ _).1, unit_neg]
  simp only [Int.mul_neg]
  omega
theorem wi_sub (t a b : Nat) (ht : t < 16) (ha : a < 16) (hb : b < 16) : wi t (subC a b) = wi t a * wr t b - wr t a * wi t b := by
  have e : unit (ph t (subC a b)) = unit (ph t a + -(ph t b)) := unit_congr (by have := ph_sub t ht a ha b hb; omega)
  unfold wr wi
  rw [e, (mul_unit _ _).2, unit_neg]
  simp only [Int.mul_neg]
  omega
end Go.Proofs.Ytcllkocmnohnkaa
