/- 'impl.DirtyOf', 'impl.masked', 'impl.SkySum'. -/
import Derived.Test.YtfandpgjlahnpaaSkyC
namespace Go.Proofs.Ytfandpgjlahnpaa
open Go.RowKit

theorem getD_pair? {gs : List (Int × Int)} {k : Nat} (h : k < gs.length) : gs[k]? = some (gs.getD k (0, 0)) := getD_of h
theorem zeroG16 (L : List (Int × Int)) (hl : L.length = 16) : List.replicate (16 * 2) (Value.int .i64 0) = (part (0, 0) L 0).flatMap pairCells := by
  unfold part; rw [hl]; rfl

set_option maxRecDepth 100000 in
set_option maxHeartbeats 1000000 in
theorem masked_any (A B : Option Addr) (ca cb : Nat) (g : List (Int × Int)) (c : List Bool) (w : World) (hg : g.length = 16) (hc : c.length = 16) (hr : Rd w w.heap.size A (g.flatMap pairCells)) (hr2 : Rd w w.heap.size B (c.map Value.bool)) :
    Calls Try.prog 87 #[.slice A 16 ca, .slice B 16 cb] w fun e w' => e = .returned (.slice (some ⟨w.heap.size, 0, none⟩) 16 16) ∧ Row w' w.heap.size 31 ((maskG g c).flatMap pairCells) ∧ Below w.heap.size w w' := by
  obtain ⟨Z, hZ⟩ : ∃ Z, List.replicate (16 * 2) (Value.int .i64 0) = Z := ⟨_, rfl⟩
  have hmk : ∀ W : World, (Instr.makeSlice 55 (.int .i64 16) (.int .i64 16)).run Try.prog W = .ok (.slice (some ⟨W.heap.size, 0, none⟩) 16 16) (W.alloc (.cells Z.toArray 31)) := fun W => by
    rw [← hZ]; exact run_make2 (P := Try.prog) 55 31 (.int .i64 0) (.agg #[.int .i64 0, .int .i64 0]) 16 Try.underlying55 (by kernel_rfl) rfl 16 (by omega) (by omega) W
  have hz2 := hZ.symm.trans (zeroG16 (maskG g c) (maskG_len g c))
  have r0 := Row.new w 31 Z
  have Hz2 := Lib.hid hz2
  clear hZ hz2
  have Hg := Lib.hid hg; clear hg
  have Hc := Lib.hid hc; clear hc
  go_enter Try.func87, Try.ntmps87
  go_wp2_with fail
  clear hmk
  go_loopw [13] (fun i wr => ∃ k : Nat, k ≤ 16 ∧ i = .int .i64 k ∧ Row wr w.heap.size 31 ((part (0, 0) (maskG g c) k).flatMap pairCells) ∧ Below w.heap.size w wr) (fun i _ => 16 - (intOf i).toNat)
  case atStart => exact ⟨0, by omega, rfl, by rw [← Hz2.out]; exact r0, (Below.refl _ _).alloc (Nat.le_refl _) _⟩
  case round =>
    clear r0
    obtain ⟨k, hk, rfl, hrow, hbel⟩ := hrel
    by_cases hlt : k < 16
    · have hk16 : (k : Int) < 16 := by omega
      obtain ⟨b, off, rfl, hb, hcc⟩ := (hr2.below hbel) k _ (bools_get (by rw [Hc.out]; exact hlt))
      obtain ⟨b', off', rfl, hb', hg1, hg2⟩ := rd_pair (hr.below hbel) (getD_of (gs := g) (k := k) (by rw [Hg.out]; exact hlt))
      have hm? := getD_of (gs := maskG g c) (k := k) (by rw [maskG_len]; exact hlt)
      rw [maskG_get g c k hlt] at hm?
      have hpl := part_len (0, 0) (maskG g c) k (by rw [maskG_len]; exact hk)
      rw [maskG_len] at hpl
      cases hx : c.getD k false
      · rw [hx] at hcc hm?
        simp only [Bool.false_eq_true, if_false] at hm?
        rw [part_same (0, 0) _ k hm?] at hrow
        have Hm? := Lib.hid hm?; clear hm?
        have Hpl := Lib.hid hpl; clear hpl
        have Hx := Lib.hid hx; clear hx
        have Hrow := Lib.hid hrow; clear hrow
        go_wp2_with fail
        go_roundw
        case measure => simp [intOf]; omega
        case rel => exact ⟨k + 1, by omega, by go_num, Hrow.out, hbel⟩
      · rw [hx] at hcc hm?
        simp only [if_true] at hm?
        have hpg := part_get (0, 0) (maskG g c) k (by rw [maskG_len]; exact hlt)
        have hps := part_succ (0, 0) (maskG g c) k _ hm?
        generalize g.getD k (0, 0) = gz at *
        generalize part (0, 0) (maskG g c) k = Pk at *
        have c0 := hrow.cell (k * 2)
        have c1 := hrow.cell (k * 2 + 1)
        rw [(pairCells_get Pk k (0, 0) hpg).1] at c0
        rw [(pairCells_get Pk k (0, 0) hpg).2] at c1
        have f0 := hrow.frozen (k * 2)
        have f1 := hrow.frozen (k * 2 + 1)
        have r2 := (hrow.set_ (k * 2) (.int .i64 gz.1)).set_ (k * 2 + 1) (.int .i64 gz.2)
        rw [pairs_set Pk k gz (by rw [hpl]; omega), hps] at r2
        have B2 := (hbel.setCell (p := ⟨w.heap.size, k * 2, none⟩) (Nat.le_refl _) (.int .i64 gz.1)).setCell (p := ⟨w.heap.size, k * 2 + 1, none⟩) (Nat.le_refl _) (.int .i64 gz.2)
        have Hm? := Lib.hid hm?; clear hm?
        have Hpl := Lib.hid hpl; clear hpl
        have Hx := Lib.hid hx; clear hx
        have Hpg := Lib.hid hpg; clear hpg
        have Hps := Lib.hid hps; clear hps
        have R2 := Lib.hid r2; clear r2
        have hidX := Lib.hid B2; clear B2; have B2 := hidX; clear hidX
        clear hrow hbel
        go_wp2_with fail
        go_roundw
        case measure => simp [intOf]; omega
        case rel => exact ⟨k + 1, by omega, by go_num, R2.out, B2.out⟩
    · obtain rfl : k = 16 := by omega
      rw [show part (0, 0) (maskG g c) 16 = maskG g c from by have := part_all (0, 0) (maskG g c); rwa [maskG_len] at this] at hrow
      have Hrow := Lib.hid hrow; clear hrow
      go_wp2_with fail
      go_ret
      exact ⟨rfl, Hrow.out, hbel⟩

theorem gLe_mask {M : Int} {g : List (Int × Int)} (hM : 0 ≤ M) (h : gLe M g) (c : List Bool) : gLe M (maskG g c) := fun x hx => by
  unfold maskG at hx
  obtain ⟨k, _, rfl⟩ := List.mem_map.1 hx
  split
  · exact gLe_get h hM k
  · dsimp only; omega
theorem gLe_skyT {s : List Int} (h : skyV s = true) : gLe 1600000 (skyT s) := trf_le (gLe_reG (M := 100000) (by omega) (skyV_iff.1 h).2) (by omega) 1

def dirtyR (s : List Int) (c : List Bool) : Option (List Int) := if (skyV s && covV c) = true ∧ skyV (dirtyL s c) = true then some (dirtyL s c) else none
theorem dirtyR_eq {s : List Int} {c : List Bool} (h1 : skyV s = true) (h2 : covV c = true) : dirtyR s c = if skyV (dirtyL s c) then some (dirtyL s c) else none := by
  unfold dirtyR
  cases hc : skyV (dirtyL s c)
  · rw [if_neg (by rintro ⟨_, h⟩; cases h)]; rfl
  · rw [if_pos ⟨by rw [h1, h2]; rfl, rfl⟩]; rfl
/-- What 'skyChecked' hands on of an own row. -/
theorem okS_own2 {w : World} {base : Nat} {A : Option Addr} {c : Nat} {s : List Int} (h : w.ownsRow base 3 1 (.slice A 16 c) 16 (s.map (Value.int .i64))) (ok : Bool) :
    w.ownsRow base 3 1 (okS ok (.slice A 16 c)) (if ok then 16 else 0) ((if ok then s else []).map (Value.int .i64)) := by
  cases ok
  · exact World.ownsRow_nil _ _ _ _
  · exact h
set_option maxHeartbeats 1000000 in
theorem dirtyOf_any (A B : Option Addr) (na nb ca cb : Nat) (s : List Int) (c : List Bool) (w : World) (hs : s.length = na) (hc : c.length = nb) (hna : na ≤ 1000)
    (hr : Rd w w.heap.size A (s.map (Value.int .i64))) (hr2 : Rd w w.heap.size B (c.map Value.bool)) :
    Calls Try.prog 25 #[.slice A na ca, .slice B nb cb] w fun e w' => ∃ v, e = .returned (.tuple #[v, .bool (dirtyR s c).isSome]) ∧ w'.ownsRow w.heap.size 3 1 v ((dirtyR s c).getD []).length (((dirtyR s c).getD []).map (Value.int .i64)) ∧ Below w.heap.size w w' := by
  have Hs := Lib.hid hs; clear hs
  have Hc := Lib.hid hc; clear hc
  cases h1 : skyV s
  · have hR : dirtyR s c = none := by unfold dirtyR; rw [h1]; rfl
    rw [hR]
    have H1 := Lib.hid h1; clear h1
    clear hR
    go_enter Try.func25, Try.ntmps25
    go_wp2_with fail
    refine (skyValid_any A na ca s _ Hs.out (by omega) hr).mono ?_
    rintro e w1 ⟨rfl, rfl⟩
    rw [H1.out]
    go_wp2_with fail
    refine bodyPost_ret (v := .tuple #[.slice none 0 0, .bool false]) (by simp [results, Try.results25, go_sem]) rfl ⟨_, rfl, World.ownsRow_nil _ _ _ _, Below.refl _ _⟩
  · cases h2 : covV c
    · have hR : dirtyR s c = none := by unfold dirtyR; rw [h1, h2]; rfl
      rw [hR]
      have H1 := Lib.hid h1; clear h1
      have H2 := Lib.hid h2; clear h2
      clear hR
      go_enter Try.func25, Try.ntmps25
      go_wp2_with fail
      refine (skyValid_any A na ca s _ Hs.out (by omega) hr).mono ?_
      rintro e w1 ⟨rfl, rfl⟩
      rw [H1.out]
      go_wp2_with fail
      refine (coverValid_any B nb cb c _ w.heap.size Hc.out hr2).mono ?_
      rintro e w1 ⟨rfl, rfl⟩
      rw [H2.out]
      go_wp2_with fail
      refine bodyPost_ret (v := .tuple #[.slice none 0 0, .bool false]) (by simp [results, Try.results25, go_sem]) rfl ⟨_, rfl, World.ownsRow_nil _ _ _ _, Below.refl _ _⟩
    · obtain rfl : na = 16 := by rw [← Hs.out]; exact skyV_len h1
      obtain rfl : nb = 16 := by rw [← Hc.out]; exact covV_len h2
      have hR := dirtyR_eq h1 h2
      have hle := gLe_skyT h1
      have hle0 := gLe_mono (gLe_reG (M := 100000) (by omega) (skyV_iff.1 h1).2) (N := 1000000000) (by omega)
      have hrl : (reG s).length = 16 := by unfold reG; rw [List.length_map]; exact Hs.out
      have hle2 := gLe_mono (gLe_mask (by omega) hle c) (N := 1000000000) (by omega)
      have H1 := Lib.hid h1; clear h1
      have H2 := Lib.hid h2; clear h2
      have HR := Lib.hid hR; clear hR
      have Hle := Lib.hid hle; clear hle
      have Hle0 := Lib.hid hle0; clear hle0
      have Hrl := Lib.hid hrl; clear hrl
      have Hle2 := Lib.hid hle2; clear hle2
      go_enter Try.func25, Try.ntmps25
      go_wp2_with fail
      refine (skyValid_any A 16 ca s _ Hs.out (by omega) hr).mono ?_
      rintro e w1 ⟨rfl, rfl⟩
      rw [H1.out]
      go_wp2_with fail
      refine (coverValid_any B 16 cb c _ w.heap.size Hc.out hr2).mono ?_
      rintro e w1 ⟨rfl, rfl⟩
      rw [H2.out]
      go_wp2_with fail
      refine (realGrid_any A 16 ca s _ Hs.out (by omega) hr).mono ?_
      rintro e w1 ⟨v, rfl, o1, b1⟩
      obtain ⟨A1, c1, rfl⟩ := own_form o1
      have hr1 := Rd.of_own o1
      have extX := (hr2.below b1).more b1.size; clear hr2; have hr2 := extX; clear extX
      clear o1
      go_wp2_with fail
      refine (transform_any A1 c1 (reG s) 1 _ Hrl.out (.inl rfl) Hle0.out hr1).mono ?_
      rintro e w2 ⟨rfl, r2, b2⟩
      have hrt := r2.rd
      have b12 := b1.trans (b2.mono b1.size)
      have extX := (hr2.below b2).more b2.size; clear hr2; have hr2 := extX; clear extX
      clear r2 hr1 b1 b2
      go_wp2_with fail
      refine (masked_any _ B 16 cb (skyT s) c _ (skyT_len s) Hc.out hrt hr2).mono ?_
      rintro e w3 ⟨rfl, r3, b3⟩
      have hrm := r3.rd
      have b13 := b12.trans (b3.mono b12.size)
      clear r3 hrt hr2 b3 b12
      go_wp2_with fail
      refine (transform_any _ 16 (maskG (skyT s) c) (-1) _ (maskG_len _ _) (.inr rfl) Hle2.out hrm).mono ?_
      rintro e w4 ⟨rfl, r4, b4⟩
      have hrt := r4.rd
      have b14 := b13.trans (b4.mono b13.size)
      clear r4 hrm b4 b13
      go_wp2_with fail
      refine (realParts_any _ 16 16 (trf (maskG (skyT s) c) (-1)) _ (trf_len _ _) (by omega) hrt).mono ?_
      rintro e w5 ⟨v, rfl, o5, b5⟩
      have b15 := b14.trans (b5.mono b14.size)
      obtain ⟨A5, c5, rfl⟩ := own_form o5
      have hr5 := Rd.of_own o5
      have o5 := o5.mono b14.size
      clear b5 b14 hrt
      have O5 := Lib.hid (show w5.ownsRow w.heap.size 3 1 (.slice A5 16 c5) 16 ((dirtyL s c).map (Value.int .i64)) from o5)
      clear o5
      go_wp2_with fail
      refine (skyChecked_any A5 16 c5 (dirtyL s c) _ (dirtyL_len _ _) (by omega) hr5).mono ?_
      rintro e w6 ⟨rfl, rfl⟩
      have r2' := okS_own2 O5.out (skyV (dirtyL s c))
      have hR2 : (dirtyR s c).isSome = skyV (dirtyL s c) := by rw [HR.out]; cases skyV (dirtyL s c) <;> rfl
      have hR3 : (dirtyR s c).getD [] = if skyV (dirtyL s c) then dirtyL s c else [] := by rw [HR.out]; cases skyV (dirtyL s c) <;> rfl
      have hR4 : ((dirtyR s c).getD []).length = if skyV (dirtyL s c) then 16 else 0 := by rw [hR3]; cases skyV (dirtyL s c) <;> simp [dirtyL_len]
      have R2' := Lib.hid r2'; clear r2'
      have HR2 := Lib.hid hR2; clear hR2
      have HR3 := Lib.hid hR3; clear hR3
      have HR4 := Lib.hid hR4; clear hR4
      clear hr5
      go_wp2_with fail
      refine bodyPost_ret (by simp [results, Try.results25, go_sem]; rfl) rfl ⟨_, by rw [HR2.out], ?_, b15⟩
      rw [HR4.out, HR3.out]
      exact R2'.out

theorem skySum_bd {s : List Int} (h : iLe 100000 s) (n : Nat) : -((n : Int) * 100000) ≤ sumN n (fun k => s.getD k 0) ∧ sumN n (fun k => s.getD k 0) ≤ (n : Int) * 100000 := by
  induction n with
  | zero => simp [sumN]
  | succ n ih =>
    rw [sumN_succ]
    have := h n
    omega
theorem skySum_yes (A : Option Addr) (ca : Nat) (s : List Int) (w : World) (hv : skyV s = true) (hr : Rd w w.heap.size A (s.map (Value.int .i64))) :
    Calls Try.prog 65 #[.slice A 16 ca] w fun e w' => e = .returned (.tuple #[.int .i64 (skySum s), .bool true]) ∧ w = w' := by
  have hl := skyV_len hv
  have hb := iLe_sky hv
  have Hv := Lib.hid hv; clear hv
  have Hl := Lib.hid hl; clear hl
  have Hb := Lib.hid hb; clear hb
  go_enter Try.func65, Try.ntmps65
  go_wp2_with fail
  refine (skyValid_any A 16 ca s _ Hl.out (by omega) hr).mono ?_
  rintro e w1 ⟨rfl, rfl⟩
  rw [Hv.out]
  go_wp2_with fail
  go_loop [4, 12] (fun m i => ∃ k : Nat, k ≤ 16 ∧ i = .int .i64 k ∧ m = .int .i64 (sumN k fun j => s.getD j 0)) (fun _ i => 16 - (intOf i).toNat)
  case atStart => exact ⟨0, by omega, rfl, rfl⟩
  case round =>
    obtain ⟨k, hk, rfl, rfl⟩ := hrel
    by_cases hlt : k < 16
    · have hk16 : (k : Int) < 16 := by omega
      obtain ⟨b, off, rfl, hb, hc⟩ := hr k _ (ints_get (by rw [Hl.out]; exact hlt))
      have hbd := skySum_bd Hb.out k
      have hs := sumN_succ k fun j => s.getD j 0
      have hx := Hb.out k
      generalize s.getD k 0 = x at *
      generalize sumN k (fun j => s.getD j 0) = m at *
      have Hs := Lib.hid hs; clear hs
      go_wp2_with fail
      go_round
      case measure => simp [intOf]; omega
      case rel => exact ⟨k + 1, by omega, by go_num, by rw [Hs.out]⟩
    · obtain rfl : k = 16 := by omega
      go_wp2_with fail
      refine bodyPost_ret (v := .tuple #[.int .i64 (skySum s), .bool true]) (by simp [results, Try.results65, go_sem]; rfl) rfl ⟨rfl, rfl⟩
end Go.Proofs.Ytfandpgjlahnpaa
