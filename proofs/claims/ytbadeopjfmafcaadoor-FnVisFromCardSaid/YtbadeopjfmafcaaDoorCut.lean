/- The reference's cutting of texts: 'l41Cut', 'l41Number'. -/
import Derived.Test.YtbadeopjfmafcaaDoorTxtS
import Derived.Test.YtbadeopjfmafcaaDoorA3
namespace Go.Proofs.YtbadeopjfmafcaaDoor
open Go.RowKit

theorem strInfo : (Tryd.prog.info? 9).map (fun i => (i.zero, i.size, i.bytes)) = some (some (.string ⟨#[]⟩), 1, 16) := by kernel_rfl
/-- Texts as cells. -/
def strs (ls : List (List UInt8)) : List Value := ls.map fun l => Value.string ⟨l.toArray⟩
theorem strs_len (ls : List (List UInt8)) : (strs ls).length = ls.length := by simp [strs]
theorem strs_app (a b : List (List UInt8)) : strs (a ++ b) = strs a ++ strs b := by simp [strs]
theorem strs_get {ls : List (List UInt8)} {k : Nat} (h : k < ls.length) : (strs ls)[k]? = some (.string ⟨(ls.getD k []).toArray⟩) := by
  unfold strs
  rw [List.getElem?_map, List.getElem?_eq_getElem h, List.getD_eq_getElem?_getD, List.getElem?_eq_getElem h]; rfl
theorem strs_of (L : List ByteArray) : L.map Value.string = strs (L.map (·.data.toList)) := by
  unfold strs; rw [List.map_map]
  exact List.map_congr_left fun x _ => by simp

/-- The piece of a text between two places. -/
def piece (l : List UInt8) (a b : Nat) : List UInt8 := (l.drop a).take (b - a)
theorem byte_int (c : UInt8) : 0 ≤ (c.toNat : Int) ∧ (c.toNat : Int) < 256 := ⟨by omega, by have := c.toNat_lt; omega⟩

theorem str_get (l : List UInt8) (k : Nat) (b : UInt8) (hb : l[k]? = some b) : ∀ h : k < (ByteArray.mk l.toArray).size, (ByteArray.mk l.toArray)[k] = b := fun h => by
  have hk : k < l.length := h
  rw [List.getElem?_eq_getElem hk] at hb
  injection hb
theorem extract_str (l : List UInt8) (a b : Nat) : (ByteArray.mk l.toArray).extract a b = ⟨(piece l a b).toArray⟩ := by
  apply ByteArray.ext
  apply Array.ext'
  rw [Lib.extract_data]
  rfl
theorem piece_all (l : List UInt8) (a : Nat) : piece l a l.length = l.drop a := by
  unfold piece
  exact List.take_of_length_le (by simp)
theorem piece_succ (l : List UInt8) (a k : Nat) (b : UInt8) (hak : a ≤ k) (hb : l[k]? = some b) : piece l a (k + 1) = piece l a k ++ [b] := by
  unfold piece
  rw [show k + 1 - a = (k - a) + 1 by omega, List.take_add_one, List.getElem?_drop, show a + (k - a) = k by omega, hb]
  rfl
theorem drop_piece (l : List UInt8) (a k : Nat) (b : UInt8) (hak : a ≤ k) (hb : l[k]? = some b) : l.drop a = piece l a k ++ b :: l.drop (k + 1) := by
  have hk : k < l.length := (List.getElem?_eq_some_iff.1 hb).1
  have e : l.drop k = b :: l.drop (k + 1) := by
    rw [List.drop_eq_getElem_cons hk]
    rw [List.getElem?_eq_getElem hk] at hb
    injection hb with hb
    rw [hb]
  unfold piece
  rw [← e]
  conv => lhs; rw [← List.take_append_drop (k - a) (l.drop a)]
  rw [List.drop_drop, show a + (k - a) = k by omega]
theorem u8_int {b c : UInt8} (h : b ≠ c) : ((b.toNat : Int) == (c.toNat : Int)) = false := by
  rw [beq_eq_false_iff_ne]
  exact fun e => h (UInt8.toNat_inj.1 (by omega))

set_option maxRecDepth 100000 in
set_option maxHeartbeats 1000000 in
theorem l41Cut_any (l : List UInt8) (c : UInt8) (w : World) (hs : l.length ≤ 2000000) :
    Calls Tryd.prog 59 #[.string ⟨l.toArray⟩, .int .u8 c.toNat] w fun e w' => ∃ v, e = .returned v ∧ w'.ownsRow w.heap.size 9 1 v (cut c l).length (strs (cut c l)) ∧ Below w.heap.size w w' := by
  obtain ⟨i0, hi, hz0, hz1, hz2⟩ := info_parts strInfo
  have hsz : (ByteArray.mk l.toArray).size = l.length := rfl
  go_enter Tryd.func59, Tryd.ntmps59
  go_wp2_with fail
  have r0 := (Row.new w 9 []).own (base := w.heap.size) (size := 1) (n := 0) (Nat.le_refl _) rfl (by unfold maxLen; omega)
  go_loopw [5, 6, 7] (fun o f i wr => ∃ (k fr : Nat) (acc : List (List UInt8)), fr ≤ k ∧ k ≤ l.length ∧ i = .int .i64 k ∧ f = .int .i64 fr ∧ acc.length ≤ fr ∧ acc ++ cut c (l.drop fr) = cut c l ∧ c ∉ piece l fr k ∧
    wr.ownsRow w.heap.size 9 1 o acc.length (strs acc) ∧ Below w.heap.size w wr) (fun _ _ i _ => l.length - (intOf i).toNat)
  case atStart => exact ⟨0, 0, [], by omega, by omega, rfl, rfl, by simp, by simp, by simp [piece], r0, bA1⟩
  case round =>
    obtain ⟨k, fr, acc, hfk, hk, rfl, rfl, hal, hcut, hno, hown, hbel⟩ := hrel
    have hbs := hbel.size
    by_cases hlt : k < l.length
    · have hb : l[k]? = some l[k] := List.getElem?_eq_getElem hlt
      generalize l[k] = b at hb
      have hg := str_get l k b hb
      have hx := extract_str l fr k
      have hdp := drop_piece l fr k b hfk hb
      have hps := piece_succ l fr k b hfk hb
      have Hcut := Lib.hid hcut; clear hcut
      have Hno := Lib.hid hno; clear hno
      have Hown := Lib.hid hown; clear hown
      have Hbel := Lib.hid hbel; clear hbel
      have Hb := Lib.hid hb; clear hb
      have Hdp := Lib.hid hdp; clear hdp
      have Hps := Lib.hid hps; clear hps
      by_cases hbc : b = c
      · subst hbc
        go_wp2_with (at_builtin; refine wpList_append_own _ rfl _ _ 78 rfl w.heap.size 9 i0 (.string ⟨#[]⟩) 1 16 (by kernel_rfl) hi hz0 hz1 hz2 rfl (by decide) _ acc.length _ rfl (Hown.out.alloc _) ⟨wr.heap.size, 0, none⟩ 1 1 [.string ⟨(piece l fr k).toArray⟩] rfl rfl (cell_one_new _ _ _) (by simp [Value.oneCell']) (by unfold maxLen; omega) (by omega) (by simp; omega) ?_; intro v' w7 hown' hgrow _; obtain ⟨g', cap', rfl⟩ := ownsRow_succ hown')
        have hb7 := (Hbel.out.alloc hbs _).grown hgrow (by simp; omega) fun j hj => (own_lt Hown.out hj).1
        have Hb7 := Lib.hid hb7; clear hb7
        have Hown' := Lib.hid hown'; clear hown'
        clear hgrow
        go_roundw
        case measure => simp [intOf]; omega
        case rel =>
          refine ⟨k + 1, k + 1, acc ++ [piece l fr k], by omega, by omega, by go_num, by go_num, by simp; omega, ?_, by simp [piece], ?_, Hb7.out⟩
          · rw [← Hcut.out, Hdp.out, cut_hit _ Hno.out]; simp
          · have := Hown'.out
            rw [strs_app, List.length_append]
            exact this
      · have hbi := u8_int hbc
        have Hbc := Lib.hid hbc; clear hbc
        go_wp2_with fail
        go_roundw
        case measure => simp [intOf]; omega
        case rel =>
          refine ⟨k + 1, fr, acc, by omega, by omega, by go_num, rfl, hal, Hcut.out, ?_, Hown.out, Hbel.out⟩
          rw [Hps.out, List.mem_append, not_or]
          exact ⟨Hno.out, by simpa using fun e => Hbc.out e.symm⟩
    · obtain rfl : k = l.length := by omega
      have hx := extract_str l fr l.length
      rw [piece_all] at hx hno
      rw [cut_none hno] at hcut
      have Hcut := Lib.hid hcut; clear hcut
      have Hno := Lib.hid hno; clear hno
      have Hown := Lib.hid hown; clear hown
      have Hbel := Lib.hid hbel; clear hbel
      go_wp2_with (at_builtin; refine wpList_append_own _ rfl _ _ 78 rfl w.heap.size 9 i0 (.string ⟨#[]⟩) 1 16 (by kernel_rfl) hi hz0 hz1 hz2 rfl (by decide) _ acc.length _ rfl (Hown.out.alloc _) ⟨wr.heap.size, 0, none⟩ 1 1 [.string ⟨(l.drop fr).toArray⟩] rfl rfl (cell_one_new _ _ _) (by simp [Value.oneCell']) (by unfold maxLen; omega) (by omega) (by simp; omega) ?_; intro v' w7 hown' hgrow _; obtain ⟨g', cap', rfl⟩ := ownsRow_succ hown')
      have hb7 := (Hbel.out.alloc hbs _).grown hgrow (by simp; omega) fun j hj => (own_lt Hown.out hj).1
      have Hb7 := Lib.hid hb7; clear hb7
      have Hown' := Lib.hid hown'; clear hown'
      clear hgrow
      go_ret
      refine ⟨_, rfl, ?_, Hb7.out⟩
      rw [← Hcut.out, strs_app, List.length_append]
      exact Hown'.out
/-- The reference's number of a word. -/
def decOr (g : Int) (d : List UInt8) : Int := match Lib.decFrom 0 d with
  | some m => g * (m : Int)
  | none => 99999999
theorem num7_neg {r : List UInt8} (h1 : 1 ≤ r.length) (h7 : r.length ≤ 7) : num7 (45 :: r) = decOr (-1) r := by
  unfold num7 numOf decOr
  have h0 : r.isEmpty = false := by cases r with | nil => simp at h1 | cons _ _ => rfl
  simp only [if_true, h0, Bool.false_or, decide_eq_true_eq]
  rw [if_neg (by omega)]
  cases Lib.decFrom 0 r <;> simp
theorem num7_neg_no {r : List UInt8} (h : ¬ (1 ≤ r.length ∧ r.length ≤ 7)) : num7 (45 :: r) = 99999999 := by
  unfold num7 numOf
  simp only [if_true]
  rw [if_pos]
  · rfl
  · simp only [Bool.or_eq_true, decide_eq_true_eq]
    cases r with
    | nil => exact .inl rfl
    | cons a t => right; simp at h ⊢; omega
theorem num7_pos {b : UInt8} {r : List UInt8} (hb : b ≠ 45) (h7 : (b :: r).length ≤ 7) : num7 (b :: r) = decOr 1 (b :: r) := by
  unfold num7 numOf decOr
  simp only [if_neg hb, decide_eq_true_eq]
  rw [if_neg (by omega)]
  cases Lib.decFrom 0 (b :: r) <;> simp
theorem num7_pos_no {b : UInt8} {r : List UInt8} (hb : b ≠ 45) (h : ¬ (b :: r).length ≤ 7) : num7 (b :: r) = 99999999 := by
  unfold num7 numOf
  simp only [if_neg hb, decide_eq_true_eq]
  rw [if_pos (by omega)]
  rfl

set_option maxRecDepth 100000 in
set_option maxHeartbeats 1000000 in
theorem l41Number_any (l : List UInt8) (w : World) (hs : l.length ≤ 2000000) :
    Calls Tryd.prog 60 #[.string ⟨l.toArray⟩] w fun e w' => e = .returned (.int .i64 (num7 l)) ∧ w = w' := by
  by_cases h0 : l = []
  · subst h0
    go_enter Tryd.func60, Tryd.ntmps60
    go_wp2_with fail
    refine (l6In_any _ _ _ _).mono ?_
    rintro e w' ⟨rfl, rfl⟩
    rw [show inR 0 1 7 = false from by decide]
    go_wp2_with fail
    go_ret
    exact ⟨rfl, rfl⟩
  · obtain ⟨b, r, hl⟩ : ∃ b r, l = b :: r := by
      cases l with
      | nil => exact absurd rfl h0
      | cons b r => exact ⟨b, r, rfl⟩
    have hg := str_get l 0 b (by rw [hl]; rfl)
    have hsz : (ByteArray.mk l.toArray).size = l.length := rfl
    have hll : l.length = r.length + 1 := by rw [hl]; rfl
    have hpos : (0 : Int) < (l.length : Int) := by omega
    clear h0
    by_cases hb : b = 45
    · subst hb
      have hx : (ByteArray.mk l.toArray).extract 1 l.length = ⟨r.toArray⟩ := by
        rw [extract_str, piece_all, hl]; rfl
      have hsr : (ByteArray.mk r.toArray).size = r.length := rfl
      have hnn : (if 1 ≤ r.length ∧ r.length ≤ 7 then decOr (-1) r else 99999999) = num7 l := by
        rw [hl]
        split
        · rename_i h; exact (num7_neg h.1 h.2).symm
        · rename_i h; exact (num7_neg_no h).symm
      have Hl := Lib.hid hl; clear hl
      have Hnn := Lib.hid hnn; clear hnn
      have Hll := Lib.hid hll; clear hll
      go_enter Tryd.func60, Tryd.ntmps60
      go_wp2_with fail
      refine (l6In_any _ _ _ _).mono ?_
      rintro e w' ⟨rfl, rfl⟩
      by_cases h17 : 1 ≤ r.length ∧ r.length ≤ 7
      · rw [inR_iff.2 (show (1 : Int) ≤ (r.length : Int) ∧ (r.length : Int) ≤ 7 by omega)]
        have HD := Lib.hid (Hnn.out.symm.trans (if_pos h17))
        clear hx hg
        go_wp2_with fail
        go_loopw [4, 5] (fun n i wr => ∃ (k m : Nat), k ≤ r.length ∧ i = .int .i64 k ∧ n = .int .i64 m ∧ Lib.decFrom 0 (r.take k) = some m ∧ wr = w) (fun _ i _ => r.length - (intOf i).toNat)
        case atStart => exact ⟨0, 0, by omega, rfl, rfl, rfl, rfl⟩
        case round =>
          obtain ⟨k, m, hk, rfl, rfl, hm, rfl⟩ := hrel
          by_cases hlt : k < r.length
          · have hb : r[k]? = some r[k] := List.getElem?_eq_getElem hlt
            generalize r[k] = b at hb
            have hg := str_get r k b hb
            have hmb := Lib.decFrom_lt _ _ _ hm
            have hmc : m < 10000000 := by
              have h1 : (r.take k).length ≤ 7 := by rw [List.length_take]; omega
              have h2 : 10 ^ (r.take k).length ≤ 10 ^ 7 := Nat.pow_le_pow_right (by decide) h1
              omega
            clear hmb
            have hstep := fun d hd => Lib.decFrom_take r k 0 m b d hm hb hd
            by_cases hdig : 48 ≤ b.toNat ∧ b.toNat ≤ 57
            · have hd : Lib.digitVal b = some (b.toNat - 48) := by unfold Lib.digitVal; rw [if_pos hdig]
              have hs := hstep _ hd
              have g1 : ¬ ((b.toNat : Int) < 48) := by omega
              have g2 : ¬ ((57 : Int) < (b.toNat : Int)) := by omega
              have Hm := Lib.hid hm; clear hm
              have Hb := Lib.hid hb; clear hb
              have Hs := Lib.hid hs; clear hs
              have Hd := Lib.hid hd; clear hd
              clear hstep
              go_wp2_with fail
              go_roundw
              case measure => simp [intOf]; omega
              case rel => exact ⟨k + 1, m * 10 + (b.toNat - 48), by omega, by go_num, by congr 1; simp; omega, Hs.out, by first | rfl | trivial⟩
            · have hno : Lib.decFrom 0 r = none := by
                cases hd : Lib.decFrom 0 r with
                | none => rfl
                | some v =>
                  obtain ⟨d, hd2⟩ := Lib.digit_of_decFrom r 0 v hd k b hb
                  unfold Lib.digitVal at hd2
                  rw [if_neg hdig] at hd2
                  cases hd2
              clear hstep
              have Hm := Lib.hid hm; clear hm
              have Hb := Lib.hid hb; clear hb
              have Hno := Lib.hid hno; clear hno
              by_cases g1 : (b.toNat : Int) < 48
              · go_wp2_with fail
                go_ret
                exact ⟨by rw [HD.out, decOr, Hno.out]; rfl, rfl⟩
              · have g2 : (57 : Int) < (b.toNat : Int) := by omega
                go_wp2_with fail
                go_ret
                exact ⟨by rw [HD.out, decOr, Hno.out]; rfl, rfl⟩
          · obtain rfl : k = r.length := by omega
            rw [List.take_length] at hm
            have Hm := Lib.hid hm; clear hm
            have hmc : m < 10000000 := by
              have hmb := Lib.decFrom_lt _ _ _ Hm.out
              have h2 : 10 ^ r.length ≤ 10 ^ 7 := Nat.pow_le_pow_right (by decide) (by omega)
              omega
            go_wp2_with fail
            go_ret
            exact ⟨by rw [HD.out, decOr, Hm.out]; simp, rfl⟩
      · rw [inR_no.2 (show ¬ ((1 : Int) ≤ (r.length : Int) ∧ (r.length : Int) ≤ 7) by omega)]
        have HD := Lib.hid (Hnn.out.symm.trans (if_neg h17))
        clear hx hg
        go_wp2_with fail
        go_ret
        exact ⟨by rw [HD.out]; rfl, rfl⟩
    · have hbi : ((b.toNat : Int) == 45) = false := u8_int (c := 45) hb
      have hnn : (if 1 ≤ l.length ∧ l.length ≤ 7 then decOr 1 l else 99999999) = num7 l := by
        split
        · rename_i h; rw [hl] at h ⊢; exact (num7_pos hb h.2).symm
        · rename_i h; rw [hl] at h ⊢; exact (num7_pos_no hb (by simp at h ⊢; omega)).symm
      have Hl := Lib.hid hl; clear hl
      have Hnn := Lib.hid hnn; clear hnn
      have Hll := Lib.hid hll; clear hll
      go_enter Tryd.func60, Tryd.ntmps60
      go_wp2_with fail
      refine (l6In_any _ _ _ _).mono ?_
      rintro e w' ⟨rfl, rfl⟩
      by_cases h17 : 1 ≤ l.length ∧ l.length ≤ 7
      · rw [inR_iff.2 (show (1 : Int) ≤ (l.length : Int) ∧ (l.length : Int) ≤ 7 by omega)]
        have HD := Lib.hid (Hnn.out.symm.trans (if_pos h17))
        clear hg
        go_wp2_with fail
        go_loopw [4, 5] (fun n i wr => ∃ (k m : Nat), k ≤ l.length ∧ i = .int .i64 k ∧ n = .int .i64 m ∧ Lib.decFrom 0 (l.take k) = some m ∧ wr = w) (fun _ i _ => l.length - (intOf i).toNat)
        case atStart => exact ⟨0, 0, by omega, rfl, rfl, rfl, rfl⟩
        case round =>
          obtain ⟨k, m, hk, rfl, rfl, hm, rfl⟩ := hrel
          by_cases hlt : k < l.length
          · have hb : l[k]? = some l[k] := List.getElem?_eq_getElem hlt
            generalize l[k] = b at hb
            have hg := str_get l k b hb
            have hmb := Lib.decFrom_lt _ _ _ hm
            have hmc : m < 10000000 := by
              have h1 : (l.take k).length ≤ 7 := by rw [List.length_take]; omega
              have h2 : 10 ^ (l.take k).length ≤ 10 ^ 7 := Nat.pow_le_pow_right (by decide) h1
              omega
            clear hmb
            have hstep := fun d hd => Lib.decFrom_take l k 0 m b d hm hb hd
            by_cases hdig : 48 ≤ b.toNat ∧ b.toNat ≤ 57
            · have hd : Lib.digitVal b = some (b.toNat - 48) := by unfold Lib.digitVal; rw [if_pos hdig]
              have hs := hstep _ hd
              have g1 : ¬ ((b.toNat : Int) < 48) := by omega
              have g2 : ¬ ((57 : Int) < (b.toNat : Int)) := by omega
              have Hm := Lib.hid hm; clear hm
              have Hb := Lib.hid hb; clear hb
              have Hs := Lib.hid hs; clear hs
              have Hd := Lib.hid hd; clear hd
              clear hstep
              go_wp2_with fail
              go_roundw
              case measure => simp [intOf]; omega
              case rel => exact ⟨k + 1, m * 10 + (b.toNat - 48), by omega, by go_num, by congr 1; simp; omega, Hs.out, by first | rfl | trivial⟩
            · have hno : Lib.decFrom 0 l = none := by
                cases hd : Lib.decFrom 0 l with
                | none => rfl
                | some v =>
                  obtain ⟨d, hd2⟩ := Lib.digit_of_decFrom l 0 v hd k b hb
                  unfold Lib.digitVal at hd2
                  rw [if_neg hdig] at hd2
                  cases hd2
              clear hstep
              have Hm := Lib.hid hm; clear hm
              have Hb := Lib.hid hb; clear hb
              have Hno := Lib.hid hno; clear hno
              by_cases g1 : (b.toNat : Int) < 48
              · go_wp2_with fail
                go_ret
                exact ⟨by rw [HD.out, decOr, Hno.out]; rfl, rfl⟩
              · have g2 : (57 : Int) < (b.toNat : Int) := by omega
                go_wp2_with fail
                go_ret
                exact ⟨by rw [HD.out, decOr, Hno.out]; rfl, rfl⟩
          · obtain rfl : k = l.length := by omega
            rw [List.take_length] at hm
            have Hm := Lib.hid hm; clear hm
            have hmc : m < 10000000 := by
              have hmb := Lib.decFrom_lt _ _ _ Hm.out
              have h2 : 10 ^ l.length ≤ 10 ^ 7 := Nat.pow_le_pow_right (by decide) (by omega)
              omega
            go_wp2_with fail
            go_ret
            exact ⟨by rw [HD.out, decOr, Hm.out]; simp, rfl⟩
      · rw [inR_no.2 (show ¬ ((1 : Int) ≤ (l.length : Int) ∧ (l.length : Int) ≤ 7) by omega)]
        have HD := Lib.hid (Hnn.out.symm.trans (if_neg h17))
        clear hg
        go_wp2_with fail
        go_ret
        exact ⟨by rw [HD.out]; rfl, rfl⟩
end Go.Proofs.YtbadeopjfmafcaaDoor
