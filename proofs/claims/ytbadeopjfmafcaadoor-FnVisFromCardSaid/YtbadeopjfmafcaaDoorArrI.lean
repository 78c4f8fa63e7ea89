/- 'impl.ArrayValid'. -/
import Derived.Test.YtbadeopjfmafcaaDoorArr
namespace Go.Proofs.YtbadeopjfmafcaaDoor
open Go.RowKit

theorem ex_slice {ρ : Operand → Value} {o : Oper} {P : Program} {w : World} {t : TypeId} {x y : Operand} {X Y v : Value} (ho : o.op = .slice t x none (some y) none) (hx : ρ x = X) (hy : ρ y = Y) (hs : (Instr.sliceAt t X none (some Y) none).run P w = .ok v w) :
    (execOp ρ o).run P w = .ok (.value v) w := by
  subst hx hy; simp [execOp, ho, hs]
theorem run_head {P : Program} {t e : TypeId} (ht : P.underlying t = some (.slice e)) {s : Nat} (hs : (P.info? e).map (·.size) = some s) (a : Addr) (n cap k : Nat) (hk : k ≤ cap) (w : World) :
    (Instr.sliceAt t (.slice (some a) n cap) none (some (.int .i64 k)) none).run P w = .ok (.slice (some a) k cap) w := by
  have he : P.elem t = e := by simp [Program.elem, ht]
  have ht' : P.underlying t = some (.slice (P.elem t)) := by rw [he]; exact ht
  rw [run_sliceAt_slice (h := ht'), run_slice_h (ht := ht') (h0 := by omega) (h2 := by omega), he, size_of hs]
  simp [sliced, Result.andThen, Addr.add]

end Go.Proofs.YtbadeopjfmafcaaDoor
