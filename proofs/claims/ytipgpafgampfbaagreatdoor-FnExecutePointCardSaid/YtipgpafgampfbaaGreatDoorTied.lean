/- What a row's list of laid variables gives the walks. -/
import Derived.Test.YtipgpafgampfbaaGreatDoorRows
import Derived.Test.YtipgpafgampfbaaGreatDoorB5
import Derived.LaidLaws
import Derived.Lib.LaidTab
import Derived.Stop.LaidErr
namespace Go.Proofs.YtipgpafgampfbaaGreatDoor
open Go.RowKit

theorem tab_of_laid {W : World} {nm : String} {rest : List (String × DataW Unit)} (hn : ((Tryz.prog.globalNamed nm).bind fun g => (Tryz.prog.globals[g]?).map (·.type)) = some 184)
    (h : laidMet Tryz.prog ((nm, Lib.tabData .u64 Lib.pow10Tab) :: rest) W) : Lib.TabIs Tryz.prog W nm .u64 Lib.pow10Tab := by
  have h' := h
  obtain ⟨ps, ⟨g', t', cs, fuel, p, q, hg', ht', hvar, hd, _, _⟩, _⟩ := h'
  rw [hg', Option.bind_some] at hn
  exact Lib.tabIs_of_head hg' hn Tryz.underlying184 Tryz.underlying166 (by kernel_rfl) (by kernel_rfl) h
theorem pow_data : (Rows.laid_internal_strconv_uint64pow10 : DataW Unit) = Lib.tabData .u64 Lib.pow10Tab := by kernel_rfl
theorem tab_third {W : World} {x y : String × DataW Unit} {rest : List (String × DataW Unit)} (h : laidMet Tryz.prog (x :: y :: ("internal/strconv.uint64pow10", Rows.laid_internal_strconv_uint64pow10) :: rest) W) : Tab W := by
  have h := h.tail.tail
  rw [pow_data] at h
  exact tab_of_laid (by kernel_rfl) h
/-- A listed variable of the type error holds an interface's value. -/
theorem iface_laid {W : World} {nm name : String} {d : DataW Unit} {rest : List (String × DataW Unit)} (hn : ((Tryz.prog.globalNamed nm).bind fun g => (Tryz.prog.globals[g]?).map (·.type)) = some 77)
    (h : laidMet Tryz.prog ((nm, .iface name d) :: rest) W) : ∃ tp p, W.var? Tryz.prog nm = some #[.iface tp p] := by
  obtain ⟨ps, ⟨g', t', cs, fuel, p, q, hg', ht', hvar, hd, _, _⟩, _⟩ := h
  rw [hg', Option.bind_some] at hn
  obtain rfl := Option.some.inj (hn.symm.trans ht')
  obtain ⟨_, u, v, hcs, _, _⟩ := iface_of_trod Tryz.underlying77 hd
  refine ⟨u, v, ?_⟩
  rw [hvar]
  obtain ⟨c⟩ := cs
  simp only at hcs
  rw [hcs]
theorem errs_two {W : World} {rest : List (String × DataW Unit)} (h : laidMet Tryz.prog (("strconv.ErrRange", Rows.laid_strconv_ErrRange) :: ("strconv.ErrSyntax", Rows.laid_strconv_ErrSyntax) :: rest) W) : Errs W :=
  ⟨iface_laid (by kernel_rfl) h, iface_laid (by kernel_rfl) h.tail⟩
theorem errs_fourth {W : World} {x y z : String × DataW Unit} {rest : List (String × DataW Unit)} (h : laidMet Tryz.prog (x :: y :: z :: ("strconv.ErrRange", Rows.laid_strconv_ErrRange) :: ("strconv.ErrSyntax", Rows.laid_strconv_ErrSyntax) :: rest) W) : Errs W :=
  errs_two h.tail.tail.tail
theorem errs_fifth {W : World} {x y z u : String × DataW Unit} {rest : List (String × DataW Unit)} (h : laidMet Tryz.prog (x :: y :: z :: u :: ("strconv.ErrRange", Rows.laid_strconv_ErrRange) :: ("strconv.ErrSyntax", Rows.laid_strconv_ErrSyntax) :: rest) W) : Errs W :=
  errs_two h.tail.tail.tail.tail
end Go.Proofs.YtipgpafgampfbaaGreatDoor
