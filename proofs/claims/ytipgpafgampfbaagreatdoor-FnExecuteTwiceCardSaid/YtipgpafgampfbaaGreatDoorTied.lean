/- What a row's list of laid variables gives the walks. -/
import Derived.Test.YtipgpafgampfbaaGreatDoorRows
import Derived.Test.YtipgpafgampfbaaGreatDoorB5
import Derived.LaidLaws
import Derived.Lib.LaidTab
import Derived.Stop.LaidErr
namespace Go.Proofs.YtipgpafgampfbaaGreatDoor
open Go.RowKit

theorem tab_of_laid {W : World} {nm : String} {rest : List (String × DataW Unit)} (hn : ((Tryz.prog.globalNamed nm).bind fun g => (Tryz.prog.globals[g]?).map (·.type)) = some 184)
    (h : laidMet Tryz.prog ((nm, Lib.tabData .u64 Lib.pow10Tab) :: rest) W) : Lib.TabIs Tryz.prog W nm .u64 Lib.pow10Tab := by
  have h' := h
  obtain ⟨ps, ⟨g', t', cs, fuel, p, q, hg', ht', hvar, hd, _, _⟩, _⟩ := h'
  rw [hg', Option.bind_some] at hn
  exact Lib.tabIs_of_head hg' hn Tryz.underlying184 Tryz.underlying166 (by kernel_rfl) (by kernel_rfl) h
theorem pow_data : (Rows.laid_internal_strconv_uint64pow10 : DataW Unit) = Lib.tabData .u64 Lib.pow10Tab := by kernel_rfl
theorem tab_third {W : World} {x y : String × DataW Unit} {rest : List (String × DataW Unit)} (h : laidMet Tryz.prog (x :: y :: ("internal/strconv.uint64pow10", Rows.laid_internal_strconv_uint64pow10) :: rest) W) : Tab W := by
  have h := h.tail.tail
  rw [pow_data] at h
  exact tab_of_laid (by kernel_rfl) h
end Go.Proofs.YtipgpafgampfbaaGreatDoor
