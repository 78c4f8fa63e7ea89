/- The draws' reader: l6Open and pick. -/
import Derived.Test.YtbadeopjfmafcaaDoorA3
namespace Go.Proofs.YtbadeopjfmafcaaDoor
open Go.RowKit

theorem xor_nonneg (a b : Int) (ha : 0 ≤ a ∧ a < 1073741824) (hb : 0 ≤ b ∧ b < 1073741824) : 0 ≤ bits BinOp.xor IntKind.i64 a b := by
  show 0 ≤ IntKind.i64.wrap ((BitVec.ofInt 64 a ^^^ BitVec.ofInt 64 b).toNat : Int)
  have h : (BitVec.ofInt 64 a ^^^ BitVec.ofInt 64 b).toNat < 2 ^ 30 := by
    rw [BitVec.toNat_xor, BitVec.toNat_ofInt, BitVec.toNat_ofInt]
    exact Nat.xor_lt_two_pow (by omega) (by omega)
  rw [IntKind.wrap_i64]
  omega

end Go.Proofs.YtbadeopjfmafcaaDoor
