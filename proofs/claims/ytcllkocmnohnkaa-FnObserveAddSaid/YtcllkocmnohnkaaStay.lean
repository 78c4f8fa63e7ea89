/- What single operations yield, for the walk of a region that draws and writes. -/
import Derived.Test.YtcllkocmnohnkaaRegion
import Derived.Shelf.Abstract
namespace Go.Proofs.Ytcllkocmnohnkaa
open Go.RowKit
theorem addr_add (b j : Nat) : (⟨b, 0, none⟩ : Addr).add j = ⟨b, j, none⟩ := by
  by_cases h : j = 0
  · subst h; simp [Addr.add]
  · simp [Addr.add, h]
section
variable {P : Program} {ρ : Operand → Value} {o : Oper} {w : World}
theorem ex_move {x : Operand} {v : Value} (ho : o.op = .move x) (hx : ρ x = v) : (execOp ρ o).run P w = .ok (.value v) w := by
  subst hx; simp [execOp, ho]
theorem ex_load {t : TypeId} {x : Operand} {V v : Value} (ho : o.op = .load t x) (hx : ρ x = V) (hl : (Instr.loadAt t V).run P w = .ok v w) : (execOp ρ o).run P w = .ok (.value v) w := by
  subst hx; simp [execOp, ho, hl]
theorem size_of {t : TypeId} {s : Nat} (hs : (P.info? t).map (·.size) = some s) (w : World) : (sizeOf t).run P w = .ok s w := by
  obtain ⟨i, hi, rfl⟩ := Option.map_eq_some_iff.1 hs
  simp [sizeOf, typeInfo, hi]
def plainT (P : Program) (t : TypeId) : Bool := match P.underlying t with | none => false | some (.struct _) => false | some (.array _ _) => false | _ => true
theorem isAgg_plainT {t : TypeId} (h : plainT P t = true) (w : World) : (isAgg t).run P w = .ok false w := by
  unfold plainT at h
  cases hd : P.underlying t with
  | none => rw [hd] at h; cases h
  | some d => rw [hd] at h; exact run_isAgg_plain hd (by cases d <;> first | rfl | (exact absurd h (by simp))) w
theorem ld_one {t : TypeId} {b i : Nat} {v : Value} (ht : plainT P t = true) (h : w.cell? ⟨b, i, none⟩ = some v) : (Instr.loadAt t (.pointer (some ⟨b, i, none⟩))).run P w = .ok v w := by
  simp [Instr.loadAt, Instr.sureAddr, loadVar, go_sem, h, isAgg_plainT ht]
def structT (P : Program) (t : TypeId) : Bool := match P.underlying t with | some (.struct _) => true | _ => false
theorem isAgg_structT {t : TypeId} (h : structT P t = true) (w : World) : (isAgg t).run P w = .ok true w := by
  unfold structT at h
  cases hd : P.underlying t with
  | none => rw [hd] at h; cases h
  | some d =>
    rw [hd] at h
    cases d <;> first | (simp [isAgg, run_underlying hd]; done) | (exact absurd h (by simp))
theorem ld_two {t : TypeId} {b i : Nat} {u v : Value} (ht : structT P t = true) (hs : (P.info? t).map (·.size) = some 2) (h : w.cell? ⟨b, i, none⟩ = some u) (h2 : w.cell? ⟨b, i + 1, none⟩ = some v) :
    (Instr.loadAt t (.pointer (some ⟨b, i, none⟩))).run P w = .ok (.agg #[u, v]) w := by
  have e1 : ∀ w, (isAgg t).run P w = .ok true w := isAgg_structT ht
  simp [Instr.loadAt, Instr.sureAddr, loadVar, go_sem, h, h2, e1, size_of hs, loadCellsFrom]
theorem ex_len {t : TypeId} {x : Operand} {A : Option Addr} {n c : Nat} (ho : o.op = .call { callee := .builtin .len, args := #[x], argTypes := #[t] }) (ht : P.underlying t = some (.slice (P.elem t))) (hx : ρ x = .slice A n c) :
    (execOp ρ o).run P w = .ok (.value (.int .i64 n)) w := by
  have h := run_len_slice (P := P) w t o.type A n c ht
  simp [execOp, ho, resolve, invoke, builtin, hx, h, goInt]
theorem ex_index {t : TypeId} {x i : Operand} {b f : Nat} {n c j s : Nat} {k : IntKind} (ho : o.op = .indexAddr t x i) (ht : P.underlying t = some (.slice (P.elem t))) (hs : (P.info? (P.elem t)).map (·.size) = some s) (hx : ρ x = .slice (some ⟨b, f, none⟩) n c) (hi : ρ i = .int k j) (hj : j < n) :
    (execOp ρ o).run P w = .ok (.value (.pointer (some ⟨b, f + j * s, none⟩))) w := by
  have h := run_indexAt_slice (P := P) w t ⟨b, f, none⟩ n c k j ht
  rw [if_pos (by omega)] at h
  simp only [execOp, ho, hx, hi, h, size_of hs, Sem.run_bind, Result.andThen_ok, Sem.run_pure]
  simp [Addr.add]
end
/-- A postcondition that knows the normal exit alone. -/
def onlyN (K : Act → World → Prop) : Exit → Act → World → Prop
  | .normal, a, w => K a w
  | _, _, _ => False
theorem onlyN_imp {Q : Exit → Act → World → Prop} (e : Exit) (a : Act) (w : World) (h : onlyN (Q .normal) e a w) : Q e a w := by
  cases e <;> first | exact h | exact h.elim
section
variable {P : Program} {Q : Exit → Act → World → Prop}
theorem wp_region_N {l : List Oper} (spL nkL : List Nat) {id : Nat} {a : Act} {w : World} (hm : P.follows .mixedOrders = true) (hB : chkR l.toArray (fun i => spL.contains i) (fun i => nkL.contains i) = true)
    (h : wpStill P l.toArray (Below w.heap.size w) (fun i => spL.contains i) (fun a' => wpMark P l.toArray (Below w.heap.size w) (onlyN (Q .normal)) (fun i => spL.contains i) (fun i => nkL.contains i) 0 l a' w.drew) 0 l a) : (Code.region id l.toArray true).wp P Q a w :=
  wp_mono (wp_region_R spL nkL (Below w.heap.size w) hm hB (fun _ _ h h' => h.trans (h'.mono h.size)) (fun _ _ _ _ _ h => h.elim) (Below.refl _ _).drew h) onlyN_imp
theorem wpIn_region_N {l : List Oper} (spL nkL : List Nat) {id n r : Nat} {a : Act} {w : World} (hm : P.follows .mixedOrders = true) (hd : noDefer l.toArray = true) (hB : chkR l.toArray (fun i => spL.contains i) (fun i => nkL.contains i) = true)
    (h : wpStill P l.toArray (Below w.heap.size w) (fun i => spL.contains i) (fun a' => wpMark P l.toArray (Below w.heap.size w) (onlyN (Q .normal)) (fun i => spL.contains i) (fun i => nkL.contains i) 0 l a' w.drew) 0 l a) : (Code.region id l.toArray true).wpIn (Fence.wide.inRound r) n P Q a w :=
  wpIn_mono (wpIn_region_R spL nkL (Below w.heap.size w) hm hd hB (fun ⟨_, _, h⟩ => h) (fun _ _ h h' => h.trans (h'.mono h.size)) (fun _ _ _ _ _ h => h.elim) (Below.refl _ _).drew h) onlyN_imp
end
end Go.Proofs.Ytcllkocmnohnkaa
