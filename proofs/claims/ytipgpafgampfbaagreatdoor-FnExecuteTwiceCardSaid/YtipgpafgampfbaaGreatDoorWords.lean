/- The words at the head of the program, as a list of signs: what the row asks of them is computed of the list. -/
import Derived.Test.YtipgpafgampfbaaGreatDoorRows
import Derived.Test.YtipgpafgampfbaaGreatDoorChecked
import Derived.JoinedOf
import Derived.KernelRfl
namespace Go.Proofs.YtipgpafgampfbaaGreatDoor
def initL : List Char := [
  104, 97, 114, 110, 101, 115, 115, 32, 97, 57, 50, 56, 49, 98, 55, 99, 55, 54, 97, 55, 48, 57, 57, 53, 102, 97, 52, 53, 99, 55, 48, 49, 48, 101, 52, 56, 97, 101, 57, 54,
  100, 49, 50, 50, 50, 100, 56, 54, 99, 50, 102, 55, 56, 97, 56, 51, 55, 54, 52, 100, 98, 49, 53, 51, 97, 52, 101, 51, 53, 55, 54, 54, 32, 99, 117, 116, 32, 97, 116, 32,
  108, 111, 111, 112, 46, 101, 120, 97, 109, 112, 108, 101, 47, 114, 97, 100, 105, 111, 105, 110, 116, 101, 114, 102, 101, 114, 111, 109, 101, 116, 101, 114, 47, 108, 97, 119, 115, 46, 70, 110,
  69, 120, 101, 99, 117, 116, 101, 78, 111, 32, 108, 111, 111, 112, 46, 101, 120, 97, 109, 112, 108, 101, 47, 114, 97, 100, 105, 111, 105, 110, 116, 101, 114, 102, 101, 114, 111, 109, 101, 116,
  101, 114, 47, 108, 97, 119, 115, 46, 70, 110, 69, 120, 101, 99, 117, 116, 101, 84, 119, 105, 99, 101, 32, 108, 111, 111, 112, 46, 101, 120, 97, 109, 112, 108, 101, 47, 114, 97, 100, 105,
  111, 105, 110, 116, 101, 114, 102, 101, 114, 111, 109, 101, 116, 101, 114, 47, 108, 97, 119, 115, 46, 70, 110, 69, 120, 101, 99, 117, 116, 101, 87, 104, 97, 116, 32, 108, 111, 111, 112, 46,
  101, 120, 97, 109, 112, 108, 101, 47, 114, 97, 100, 105, 111, 105, 110, 116, 101, 114, 102, 101, 114, 111, 109, 101, 116, 101, 114, 47, 108, 97, 119, 115, 46, 70, 110, 69, 120, 101, 99, 117,
  116, 101, 65, 110, 116, 32, 108, 111, 111, 112, 46, 101, 120, 97, 109, 112, 108, 101, 47, 114, 97, 100, 105, 111, 105, 110, 116, 101, 114, 102, 101, 114, 111, 109, 101, 116, 101, 114, 47, 108,
  97, 119, 115, 46, 70, 110, 69, 120, 101, 99, 117, 116, 101, 83, 107, 121, 32, 108, 111, 111, 112, 46, 101, 120, 97, 109, 112, 108, 101, 47, 114, 97, 100, 105, 111, 105, 110, 116, 101, 114,
  102, 101, 114, 111, 109, 101, 116, 101, 114, 47, 108, 97, 119, 115, 46, 70, 110, 69, 120, 101, 99, 117, 116, 101, 67, 111, 118, 101, 114, 32, 108, 111, 111, 112, 46, 101, 120, 97, 109, 112,
  108, 101, 47, 114, 97, 100, 105, 111, 105, 110, 116, 101, 114, 102, 101, 114, 111, 109, 101, 116, 101, 114, 47, 108, 97, 119, 115, 46, 70, 110, 69, 120, 101, 99, 117, 116, 101, 67, 108, 101,
  97, 110, 32, 108, 111, 111, 112, 46, 101, 120, 97, 109, 112, 108, 101, 47, 114, 97, 100, 105, 111, 105, 110, 116, 101, 114, 102, 101, 114, 111, 109, 101, 116, 101, 114, 47, 108, 97, 119, 115,
  46, 70, 110, 69, 120, 101, 99, 117, 116, 101, 80, 111, 105, 110, 116, 32, 108, 111, 111, 112, 46, 101, 120, 97, 109, 112, 108, 101, 47, 114, 97, 100, 105, 111, 105, 110, 116, 101, 114, 102,
  101, 114, 111, 109, 101, 116, 101, 114, 47, 108, 97, 119, 115, 46, 70, 110, 69, 120, 101, 99, 117, 116, 101, 66, 97, 115, 101, 115, 32, 108, 111, 111, 112, 46, 101, 120, 97, 109, 112, 108,
  101, 47, 114, 97, 100, 105, 111, 105, 110, 116, 101, 114, 102, 101, 114, 111, 109, 101, 116, 101, 114, 47, 108, 97, 119, 115, 46, 70, 110, 69, 120, 97, 99, 116, 69, 120, 101, 99, 117, 116,
  101, 32, 108, 111, 111, 112, 46, 101, 120, 97, 109, 112, 108, 101, 47, 114, 97, 100, 105, 111, 105, 110, 116, 101, 114, 102, 101, 114, 111, 109, 101, 116, 101, 114, 47, 108, 97, 119, 115, 46,
  70, 110, 69, 120, 101, 99, 117, 116, 101, 78, 111, 110, 101, 32, 108, 111, 111, 112, 46, 101, 120, 97, 109, 112, 108, 101, 47, 114, 97, 100, 105, 111, 105, 110, 116, 101, 114, 102, 101, 114,
  111, 109, 101, 116, 101, 114, 47, 108, 97, 119, 115, 46, 70, 110, 69, 120, 101, 99, 117, 116, 101, 82, 101, 115, 116].map Char.ofNat
theorem init_toList : Tryz.pinned.checked.prog.initOrder.toList = initL := by
  have h : Tryz.pinned.checked.prog.initOrder = String.ofList initL := by kernel_rfl
  rw [h, String.toList_ofList]
theorem w_words : behindMainWord (wordsSigns initL) = "cut".toList :: (behindMainWord (wordsSigns initL)).tail := by kernel_rfl
theorem w_strip (rest : List (List Char)) : stripLifts liftWords ("cut".toList :: rest) = ([], "cut".toList :: rest) := by rfl
theorem head_of (P : Program) (rest : List (List Char)) (h : behindMainWord (wordsSigns P.initOrder.toList) = "cut".toList :: rest) : P.headLifts = [] := by
  unfold Program.headLifts
  rw [h, w_strip]
  rfl
theorem enter_of (P : Program) (rest : List (List Char)) (h : behindMainWord (wordsSigns P.initOrder.toList) = "cut".toList :: rest) (h1 : P.laysLater = false) (h2 : P.bearsReflect = false) (h3 : P.doorFits [] = true) : P.mayEnter = true := by
  unfold Program.mayEnter
  rw [h]
  simp only [w_strip, h1, h2, h3]
  rfl
theorem lifts_of (P : Program) (rest : List (List Char)) (h : behindMainWord (wordsSigns P.initOrder.toList) = "cut".toList :: rest) : P.liftsFinal = false := by
  unfold Program.liftsFinal
  rw [head_of P rest h, h]
  rfl
theorem make_of (P : Program) (rest : List (List Char)) (h : behindMainWord (wordsSigns P.initOrder.toList) = "cut".toList :: rest) : P.make = some .cut := by
  unfold Program.make
  rw [h]
  rfl
theorem w_init : behindMainWord (wordsSigns Tryz.pinned.checked.prog.initOrder.toList) = "cut".toList :: (behindMainWord (wordsSigns initL)).tail := by
  rw [init_toList]; exact w_words
theorem w_later : Tryz.pinned.checked.prog.laysLater = false := by kernel_rfl
theorem w_reflect : Tryz.pinned.checked.prog.bearsReflect = false := by kernel_rfl
theorem w_door : Tryz.pinned.checked.prog.doorFits [] = true := by kernel_rfl
theorem w_mayEnter : Tryz.pinned.checked.prog.mayEnter = true := enter_of _ _ w_init w_later w_reflect w_door
theorem w_liftsFinal : Tryz.pinned.checked.prog.liftsFinal = false := lifts_of _ _ w_init
theorem w_make : Tryz.pinned.checked.prog.make = some .cut := make_of _ _ w_init
theorem w_laid : laidOutB Tryz.pinned.checked.prog = true := by kernel_rfl
theorem w_maps : mapsRowed Tryz.pinned.checked.prog = true := by kernel_rfl
theorem w_main : Tryz.pinned.checked.prog.mainIs = some (true, (wordsSigns initL).tail.headD []) := by
  unfold Program.mainIs
  rw [init_toList]
  kernel_rfl
end Go.Proofs.YtipgpafgampfbaaGreatDoor
