/- The words at the head of the program, as a list of signs: what the row asks of them is computed of the list. -/
import Derived.Test.YtfandpgjlahnpaaRows
import Derived.Test.YtfandpgjlahnpaaChecked
import Derived.JoinedOf
import Derived.KernelRfl
namespace Go.Proofs.Ytfandpgjlahnpaa
def initL : List Char := [
  104, 97, 114, 110, 101, 115, 115, 32, 97, 57, 57, 55, 50, 97, 52, 97, 98, 97, 100, 56, 51, 100, 57, 99, 102, 56, 49, 102, 55, 53, 52, 102, 57, 102, 55, 54, 49, 53, 99, 101,
  100, 54, 57, 56, 51, 50, 50, 52, 56, 55, 100, 50, 99, 98, 48, 101, 52, 57, 52, 48, 48, 102, 57, 54, 54, 49, 48, 53, 100, 52, 49, 53, 32, 99, 117, 116, 32, 97, 116, 32,
  108, 111, 111, 112, 46, 101, 120, 97, 109, 112, 108, 101, 47, 114, 97, 100, 105, 111, 105, 110, 116, 101, 114, 102, 101, 114, 111, 109, 101, 116, 101, 114, 47, 108, 97, 119, 115, 46, 70, 110,
  78, 97, 116, 117, 114, 97, 108, 66, 101, 97, 109, 32, 108, 111, 111, 112, 46, 101, 120, 97, 109, 112, 108, 101, 47, 114, 97, 100, 105, 111, 105, 110, 116, 101, 114, 102, 101, 114, 111, 109,
  101, 116, 101, 114, 47, 108, 97, 119, 115, 46, 70, 110, 67, 108, 101, 97, 110, 83, 112, 111, 116, 32, 108, 111, 111, 112, 46, 101, 120, 97, 109, 112, 108, 101, 47, 114, 97, 100, 105, 111,
  105, 110, 116, 101, 114, 102, 101, 114, 111, 109, 101, 116, 101, 114, 47, 108, 97, 119, 115, 46, 70, 110, 69, 120, 97, 99, 116, 79, 98, 115, 101, 114, 118, 101, 71, 114, 105, 100, 32, 108,
  111, 111, 112, 46, 101, 120, 97, 109, 112, 108, 101, 47, 114, 97, 100, 105, 111, 105, 110, 116, 101, 114, 102, 101, 114, 111, 109, 101, 116, 101, 114, 47, 108, 97, 119, 115, 46, 70, 110, 79,
  98, 115, 101, 114, 118, 101, 71, 114, 105, 100, 32, 108, 111, 111, 112, 46, 101, 120, 97, 109, 112, 108, 101, 47, 114, 97, 100, 105, 111, 105, 110, 116, 101, 114, 102, 101, 114, 111, 109, 101,
  116, 101, 114, 47, 108, 97, 119, 115, 46, 70, 110, 71, 114, 105, 100, 67, 111, 110, 106, 32, 108, 111, 111, 112, 46, 101, 120, 97, 109, 112, 108, 101, 47, 114, 97, 100, 105, 111, 105, 110,
  116, 101, 114, 102, 101, 114, 111, 109, 101, 116, 101, 114, 47, 108, 97, 119, 115, 46, 70, 110, 71, 114, 105, 100, 66, 97, 115, 101, 32, 108, 111, 111, 112, 46, 101, 120, 97, 109, 112, 108,
  101, 47, 114, 97, 100, 105, 111, 105, 110, 116, 101, 114, 102, 101, 114, 111, 109, 101, 116, 101, 114, 47, 108, 97, 119, 115, 46, 70, 110, 67, 108, 101, 97, 110, 70, 117, 108, 108, 32, 108,
  111, 111, 112, 46, 101, 120, 97, 109, 112, 108, 101, 47, 114, 97, 100, 105, 111, 105, 110, 116, 101, 114, 102, 101, 114, 111, 109, 101, 116, 101, 114, 47, 108, 97, 119, 115, 46, 70, 110, 79,
  98, 115, 101, 114, 118, 101, 73, 109, 97, 103, 101, 32, 108, 111, 111, 112, 46, 101, 120, 97, 109, 112, 108, 101, 47, 114, 97, 100, 105, 111, 105, 110, 116, 101, 114, 102, 101, 114, 111, 109,
  101, 116, 101, 114, 47, 108, 97, 119, 115, 46, 70, 110, 69, 120, 97, 99, 116, 79, 98, 115, 101, 114, 118, 101, 73, 109, 97, 103, 101, 32, 108, 111, 111, 112, 46, 101, 120, 97, 109, 112,
  108, 101, 47, 114, 97, 100, 105, 111, 105, 110, 116, 101, 114, 102, 101, 114, 111, 109, 101, 116, 101, 114, 47, 108, 97, 119, 115, 46, 70, 110, 73, 109, 97, 103, 101, 83, 117, 109, 32, 108,
  111, 111, 112, 46, 101, 120, 97, 109, 112, 108, 101, 47, 114, 97, 100, 105, 111, 105, 110, 116, 101, 114, 102, 101, 114, 111, 109, 101, 116, 101, 114, 47, 108, 97, 119, 115, 46, 70, 110, 73,
  109, 97, 103, 101, 84, 114, 97, 110, 115, 102, 111, 114, 109].map Char.ofNat
theorem init_toList : Try.pinned.checked.prog.initOrder.toList = initL := by
  have h : Try.pinned.checked.prog.initOrder = String.ofList initL := by kernel_rfl
  rw [h, String.toList_ofList]
theorem w_words : behindMainWord (wordsSigns initL) = "cut".toList :: (behindMainWord (wordsSigns initL)).tail := by kernel_rfl
theorem w_strip (rest : List (List Char)) : stripLifts liftWords ("cut".toList :: rest) = ([], "cut".toList :: rest) := by rfl
theorem head_of (P : Program) (rest : List (List Char)) (h : behindMainWord (wordsSigns P.initOrder.toList) = "cut".toList :: rest) : P.headLifts = [] := by
  unfold Program.headLifts
  rw [h, w_strip]
  rfl
theorem enter_of (P : Program) (rest : List (List Char)) (h : behindMainWord (wordsSigns P.initOrder.toList) = "cut".toList :: rest) (h1 : P.laysLater = false) (h2 : P.bearsReflect = false) (h3 : P.doorFits [] = true) : P.mayEnter = true := by
  unfold Program.mayEnter
  rw [h]
  simp only [w_strip, h1, h2, h3]
  rfl
theorem lifts_of (P : Program) (rest : List (List Char)) (h : behindMainWord (wordsSigns P.initOrder.toList) = "cut".toList :: rest) : P.liftsFinal = false := by
  unfold Program.liftsFinal
  rw [head_of P rest h, h]
  rfl
theorem make_of (P : Program) (rest : List (List Char)) (h : behindMainWord (wordsSigns P.initOrder.toList) = "cut".toList :: rest) : P.make = some .cut := by
  unfold Program.make
  rw [h]
  rfl
theorem w_init : behindMainWord (wordsSigns Try.pinned.checked.prog.initOrder.toList) = "cut".toList :: (behindMainWord (wordsSigns initL)).tail := by
  rw [init_toList]; exact w_words
theorem w_later : Try.pinned.checked.prog.laysLater = false := by kernel_rfl
theorem w_reflect : Try.pinned.checked.prog.bearsReflect = false := by kernel_rfl
theorem w_door : Try.pinned.checked.prog.doorFits [] = true := by kernel_rfl
theorem w_mayEnter : Try.pinned.checked.prog.mayEnter = true := enter_of _ _ w_init w_later w_reflect w_door
theorem w_liftsFinal : Try.pinned.checked.prog.liftsFinal = false := lifts_of _ _ w_init
theorem w_make : Try.pinned.checked.prog.make = some .cut := make_of _ _ w_init
theorem w_laid : laidOutB Try.pinned.checked.prog = true := by kernel_rfl
theorem w_maps : mapsRowed Try.pinned.checked.prog = true := by kernel_rfl
end Go.Proofs.Ytfandpgjlahnpaa
