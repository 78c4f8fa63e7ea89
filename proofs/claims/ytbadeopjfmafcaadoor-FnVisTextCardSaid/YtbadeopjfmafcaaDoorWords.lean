/- The words at the head of the program, as a list of signs: what the row asks of them is computed of the list. -/
import Derived.Test.YtbadeopjfmafcaaDoorRows
import Derived.Test.YtbadeopjfmafcaaDoorChecked
import Derived.JoinedOf
import Derived.KernelRfl
namespace Go.Proofs.YtbadeopjfmafcaaDoor
def initL : List Char := [
  104, 97, 114, 110, 101, 115, 115, 32, 100, 57, 53, 53, 98, 55, 54, 55, 50, 55, 52, 101, 100, 56, 99, 52, 100, 48, 52, 56, 102, 51, 55, 49, 53, 48, 49, 56, 49, 55, 48, 57,
  100, 99, 99, 51, 49, 54, 101, 48, 53, 55, 98, 48, 53, 52, 97, 49, 48, 102, 49, 54, 100, 50, 48, 56, 54, 100, 54, 98, 50, 100, 99, 53, 32, 99, 117, 116, 32, 97, 116, 32,
  108, 111, 111, 112, 46, 101, 120, 97, 109, 112, 108, 101, 47, 114, 97, 100, 105, 111, 105, 110, 116, 101, 114, 102, 101, 114, 111, 109, 101, 116, 101, 114, 47, 108, 97, 119, 115, 46, 70, 110,
  69, 120, 97, 99, 116, 83, 107, 121, 84, 101, 120, 116, 32, 108, 111, 111, 112, 46, 101, 120, 97, 109, 112, 108, 101, 47, 114, 97, 100, 105, 111, 105, 110, 116, 101, 114, 102, 101, 114, 111,
  109, 101, 116, 101, 114, 47, 108, 97, 119, 115, 46, 70, 110, 83, 107, 121, 84, 101, 120, 116, 82, 111, 119, 115, 32, 108, 111, 111, 112, 46, 101, 120, 97, 109, 112, 108, 101, 47, 114, 97,
  100, 105, 111, 105, 110, 116, 101, 114, 102, 101, 114, 111, 109, 101, 116, 101, 114, 47, 108, 97, 119, 115, 46, 70, 110, 69, 120, 97, 99, 116, 86, 105, 115, 84, 101, 120, 116, 32, 108, 111,
  111, 112, 46, 101, 120, 97, 109, 112, 108, 101, 47, 114, 97, 100, 105, 111, 105, 110, 116, 101, 114, 102, 101, 114, 111, 109, 101, 116, 101, 114, 47, 108, 97, 119, 115, 46, 70, 110, 83, 107,
  121, 84, 101, 120, 116, 32, 108, 111, 111, 112, 46, 101, 120, 97, 109, 112, 108, 101, 47, 114, 97, 100, 105, 111, 105, 110, 116, 101, 114, 102, 101, 114, 111, 109, 101, 116, 101, 114, 47, 108,
  97, 119, 115, 46, 70, 110, 69, 120, 97, 99, 116, 83, 107, 121, 70, 114, 111, 109, 32, 108, 111, 111, 112, 46, 101, 120, 97, 109, 112, 108, 101, 47, 114, 97, 100, 105, 111, 105, 110, 116,
  101, 114, 102, 101, 114, 111, 109, 101, 116, 101, 114, 47, 108, 97, 119, 115, 46, 70, 110, 83, 107, 121, 70, 114, 111, 109, 32, 108, 111, 111, 112, 46, 101, 120, 97, 109, 112, 108, 101, 47,
  114, 97, 100, 105, 111, 105, 110, 116, 101, 114, 102, 101, 114, 111, 109, 101, 116, 101, 114, 47, 108, 97, 119, 115, 46, 70, 110, 86, 105, 115, 84, 101, 120, 116, 32, 108, 111, 111, 112, 46,
  101, 120, 97, 109, 112, 108, 101, 47, 114, 97, 100, 105, 111, 105, 110, 116, 101, 114, 102, 101, 114, 111, 109, 101, 116, 101, 114, 47, 108, 97, 119, 115, 46, 70, 110, 69, 120, 97, 99, 116,
  86, 105, 115, 70, 114, 111, 109, 32, 108, 111, 111, 112, 46, 101, 120, 97, 109, 112, 108, 101, 47, 114, 97, 100, 105, 111, 105, 110, 116, 101, 114, 102, 101, 114, 111, 109, 101, 116, 101, 114,
  47, 108, 97, 119, 115, 46, 70, 110, 86, 105, 115, 70, 114, 111, 109].map Char.ofNat
theorem init_toList : Tryd.pinned.checked.prog.initOrder.toList = initL := by
  have h : Tryd.pinned.checked.prog.initOrder = String.ofList initL := by kernel_rfl
  rw [h, String.toList_ofList]
theorem w_words : behindMainWord (wordsSigns initL) = "cut".toList :: (behindMainWord (wordsSigns initL)).tail := by kernel_rfl
theorem w_strip (rest : List (List Char)) : stripLifts liftWords ("cut".toList :: rest) = ([], "cut".toList :: rest) := by rfl
theorem head_of (P : Program) (rest : List (List Char)) (h : behindMainWord (wordsSigns P.initOrder.toList) = "cut".toList :: rest) : P.headLifts = [] := by
  unfold Program.headLifts
  rw [h, w_strip]
  rfl
theorem enter_of (P : Program) (rest : List (List Char)) (h : behindMainWord (wordsSigns P.initOrder.toList) = "cut".toList :: rest) (h1 : P.laysLater = false) (h2 : P.bearsReflect = false) (h3 : P.doorFits [] = true) : P.mayEnter = true := by
  unfold Program.mayEnter
  rw [h]
  simp only [w_strip, h1, h2, h3]
  rfl
theorem lifts_of (P : Program) (rest : List (List Char)) (h : behindMainWord (wordsSigns P.initOrder.toList) = "cut".toList :: rest) : P.liftsFinal = false := by
  unfold Program.liftsFinal
  rw [head_of P rest h, h]
  rfl
theorem make_of (P : Program) (rest : List (List Char)) (h : behindMainWord (wordsSigns P.initOrder.toList) = "cut".toList :: rest) : P.make = some .cut := by
  unfold Program.make
  rw [h]
  rfl
theorem w_init : behindMainWord (wordsSigns Tryd.pinned.checked.prog.initOrder.toList) = "cut".toList :: (behindMainWord (wordsSigns initL)).tail := by
  rw [init_toList]; exact w_words
theorem w_later : Tryd.pinned.checked.prog.laysLater = false := by kernel_rfl
theorem w_reflect : Tryd.pinned.checked.prog.bearsReflect = false := by kernel_rfl
theorem w_door : Tryd.pinned.checked.prog.doorFits [] = true := by kernel_rfl
theorem w_mayEnter : Tryd.pinned.checked.prog.mayEnter = true := enter_of _ _ w_init w_later w_reflect w_door
theorem w_liftsFinal : Tryd.pinned.checked.prog.liftsFinal = false := lifts_of _ _ w_init
theorem w_make : Tryd.pinned.checked.prog.make = some .cut := make_of _ _ w_init
theorem w_laid : laidOutB Tryd.pinned.checked.prog = true := by kernel_rfl
theorem w_maps : mapsRowed Tryd.pinned.checked.prog = true := by kernel_rfl
end Go.Proofs.YtbadeopjfmafcaaDoor
