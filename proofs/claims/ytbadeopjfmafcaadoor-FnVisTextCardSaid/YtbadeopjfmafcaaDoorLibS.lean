/- The library's Atoi at every word; FieldsFunc at blanks; Split at one byte; TrimSuffix: what they return. -/
import Derived.Test.YtbadeopjfmafcaaDoorTxtS
import Derived.Test.YtbadeopjfmafcaaDoorStr
import Derived.Lib.AtoiAllCases
namespace Go.Proofs.YtbadeopjfmafcaaDoor
open Go.RowKit

/-- The library's two errors hold values of interfaces. -/
def Errs (w : World) : Prop := (∃ tp p, w.var? Tryd.prog "strconv.ErrRange" = some #[.iface tp p]) ∧ ∃ tp p, w.var? Tryd.prog "strconv.ErrSyntax" = some #[.iface tp p]
theorem Errs.ext {w w' : World} (h : Errs w) (hb : Below w.heap.size w w') : Errs w' :=
  ⟨h.1.imp fun _ h => h.imp fun _ h => var_ext h hb, h.2.imp fun _ h => h.imp fun _ h => var_ext h hb⟩

/-- Atoi returns some number at every word; a numeral's value at a short numeral. -/
theorem atoi_any (s : ByteArray) (w : World) (hs : s.size ≤ 1048576) (he : Errs w) :
    Calls Tryd.prog 58 #[.string s] w fun e w' => ∃ (v : Int) (err : Value), e = .returned (.tuple #[.int .i64 v, err]) ∧ (-9223372036854775808 ≤ v ∧ v ≤ 9223372036854775807) ∧ (∀ n, numOf s.data.toList = some n → v = n) ∧ Below w.heap.size w w' := by
  obtain ⟨⟨t1, p1, h1⟩, t2, p2, h2⟩ := he
  have key : ∀ n, numOf s.data.toList = some n → Lib.atoiAll s.data.toList = .ok n := fun n hn => by
    obtain ⟨ha, hl⟩ := atoi_of_num hn
    rw [Lib.atoiAll_short _ (by omega), ha]; rfl
  have h := fun n hn => key n hn
  clear key
  cases hc : Lib.atoiAll s.data.toList with
  | ok v =>
    refine (Any.strconv_Atoi_ok Tryd.laysCn172 s (by omega) v hc w).mono fun e w' ⟨he, hw⟩ => ⟨v, _, he, Lib.atoiAll_bounds hc, fun n hn => ?_, ?_⟩
    · have := h n hn
      rw [hc] at this
      injection this
    · rcases hw with rfl | ⟨t, rfl⟩
      · exact Below.refl _ _
      · exact Lib.bytesWorld_below _ _ _
  | range =>
    refine (Any.strconv_Atoi_range_var Tryd.laysCn172 s (by omega) hc t1 p1 w h1).mono fun e w' ⟨N, he, _, _, hb⟩ => ⟨_, _, he, Lib.atoiSat_bounds _, fun n hn => ?_, hb⟩
    have := h n hn
    rw [hc] at this
    cases this
  | _ =>
    refine (Any.strconv_Atoi_syntax_var Tryd.laysCn172 s (by omega) hc t2 p2 w h2).mono fun e w' ⟨N, he, _, _, hb⟩ => ⟨_, _, he, by omega, fun n hn => ?_, hb⟩
    have := h n hn
    rw [hc] at this
    cases this

theorem blank_pred (w : World) : PredAtRunes Tryd.prog 57 #[] blankR w := by
  intro W x hx hb
  show Calls Tryd.prog 57 #[.int .i32 (x : Int)] W _
  by_cases h1 : x = 32
  · subst h1
    go_enter Tryd.func57, Tryd.ntmps57
    go_wp2_with fail
    go_ret
    exact ⟨rfl, 0, rfl⟩
  · have h1i : ((x : Int) == 32) = false := by rw [beq_eq_false_iff_ne]; omega
    by_cases h2 : x = 10
    · subst h2
      go_enter Tryd.func57, Tryd.ntmps57
      go_wp2_with fail
      go_ret
      exact ⟨rfl, 0, rfl⟩
    · have h2i : ((x : Int) == 10) = false := by rw [beq_eq_false_iff_ne]; omega
      have h3 : blankR x = false := by unfold blankR; rw [decide_eq_false h1, decide_eq_false h2]; rfl
      go_enter Tryd.func57, Tryd.ntmps57
      go_wp2_with fail
      go_ret
      exact ⟨by rw [h3]; rfl, 0, rfl⟩
/-- FieldsFunc at the program's predicate: the words between blanks and newlines. -/
theorem fields_any (s : ByteArray) (w : World) (hs : s.size ≤ 1048576) :
    Calls Tryd.prog 56 #[.string s, .func (.func 57) #[] #[]] w fun e w' => ∃ A, e = .returned (.slice (some ⟨A, 0, none⟩) (Lib.goFieldsP blankR s).length (Lib.goFieldsP blankR s).length) ∧
      Rd w' w'.heap.size (some ⟨A, 0, none⟩) ((Lib.goFieldsP blankR s).map Value.string) ∧ Below w.heap.size w w' :=
  (Any.strings_FieldsFunc_runes Tryd.laysn229 57 #[] (enters_of Tryd.func57 (by kernel_rfl) rfl) blankR s w (by omega) (blank_pred w) (by kernel_rfl) (by kernel_rfl)).mono fun _ _ ⟨A, he, _, ho, hb⟩ => ⟨A, he, Rd.of_own ho, hb⟩
/-- TrimSuffix. -/
theorem trim_any (s t : ByteArray) (w : World) (hs : s.size ≤ 1048576) :
    Calls Tryd.prog 66 #[.string s, .string t] w fun e w' => e = .returned (.string ⟨(Lib.trimSuffix s.data.toList t.data.toList).toArray⟩) ∧ w = w' :=
  (Any.strings_TrimSuffix Tryd.laysn102 s t w (by omega)).mono fun _ _ ⟨he, hw⟩ => ⟨he, hw.symm⟩
/-- Split at one byte. -/
theorem split_any (s : ByteArray) (c : UInt8) (w : World) (hs : s.size ≤ 1048576) (hsh : w.ShapedOpen Tryd.prog) :
    Calls Tryd.prog 67 #[.string s, .string ⟨#[c]⟩] w fun e w' => ∃ (l : List ByteArray), e = .returned (.slice (some ⟨w.heap.size, 0, none⟩) l.length l.length) ∧ l.map (·.data.toList) = cut c s.data.toList ∧
      Row w' w.heap.size 9 (l.map Value.string) ∧ Below w.heap.size w w' :=
  (Any.strings_Split_shaped Tryd.laysMn146 s ⟨#[c]⟩ w hsh (by omega) (Nat.le_refl 1)).mono fun _ _ ⟨he, hw⟩ => by
    have hc := split_cut c s
    have hl : (Lib.splitB ⟨#[c]⟩ 0 (Lib.countB s ⟨#[c]⟩) s).length = Lib.countB s ⟨#[c]⟩ + 1 := by
      rw [← List.length_map (f := fun (x : ByteArray) => x.data.toList), hc, cut_len]
      show _ = Lib.count s.data.toList [c] + 1
      rw [Lib.count_one]
    exact ⟨_, by rw [hl]; exact he, hc, by subst hw; exact Row.new _ _ _, by subst hw; exact bA1⟩
end Go.Proofs.YtbadeopjfmafcaaDoor
