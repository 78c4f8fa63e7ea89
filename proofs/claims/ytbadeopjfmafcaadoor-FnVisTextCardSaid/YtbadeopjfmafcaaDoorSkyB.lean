/- Skies added, shifted and folded. -/
import Derived.Test.YtbadeopjfmafcaaDoorA4
import Derived.Test.YtbadeopjfmafcaaDoorA5
namespace Go.Proofs.YtbadeopjfmafcaaDoor
open Go.RowKit

theorem part_zero16 (L : List Int) (hl : L.length = 16) : (List.replicate 16 (Value.int .i64 0)) = (part 0 L 0).map (Value.int .i64) := by
  unfold part; rw [hl, List.take_zero, List.nil_append, List.map_replicate]
/-- All numbers of a list lie within M. -/
def iLe (M : Int) (s : List Int) : Prop := ∀ k, -M ≤ s.getD k 0 ∧ s.getD k 0 ≤ M
theorem iLe_of {M : Int} {s : List Int} (hM : 0 ≤ M) (h : ∀ x ∈ s, -M ≤ x ∧ x ≤ M) : iLe M s := fun k => by
  by_cases hk : k < s.length
  · exact h _ (getD_mem hk)
  · rw [List.getD_eq_getElem?_getD, List.getElem?_eq_none (by omega)]; simp; omega
theorem iLe_sky {s : List Int} (h : skyV s = true) : iLe 100000 s := iLe_of (by omega) (skyV_iff.1 h).2
theorem skyV_len {s : List Int} (h : skyV s = true) : s.length = 16 := (skyV_iff.1 h).1

set_option maxRecDepth 100000 in
set_option maxHeartbeats 1000000 in
theorem addTimes_any (A B : Option Addr) (ca cb : Nat) (a b : List Int) (m : Int) (w : World) (hla : a.length = 16) (hlb : b.length = 16) (hba : iLe 1000000000000 a) (hbb : iLe 1000000 b) (hm : -1000000 ≤ m ∧ m ≤ 1000000)
    (hr : Rd w w.heap.size A (a.map (Value.int .i64))) (hr2 : Rd w w.heap.size B (b.map (Value.int .i64))) :
    Calls Tryd.prog 49 #[.slice A 16 ca, .slice B 16 cb, .int .i64 m] w fun e w' => e = .returned (.slice (some ⟨w.heap.size, 0, none⟩) 16 16) ∧ Row w' w.heap.size 3 ((addS a b m).map (Value.int .i64)) ∧ Below w.heap.size w w' := by
  obtain ⟨Z, hZ⟩ : ∃ Z, List.replicate 16 (Value.int .i64 0) = Z := ⟨_, rfl⟩
  have hmk : ∀ W : World, (Instr.makeSlice 22 (.int .i64 16) (.int .i64 16)).run Tryd.prog W = .ok (.slice (some ⟨W.heap.size, 0, none⟩) 16 16) (W.alloc (.cells Z.toArray 3)) := fun W => by
    rw [← hZ]; exact run_make1 (P := Tryd.prog) 22 3 (.int .i64 0) 8 Tryd.underlying22 (by kernel_rfl) rfl 16 (by omega) (by omega) W
  have hz2 := hZ.symm.trans (part_zero16 (addS a b m) (addS_len a b m))
  have r0 := Row.new w 3 Z
  have Hz2 := Lib.hid hz2
  clear hZ hz2
  have Hla := Lib.hid hla; clear hla
  have Hlb := Lib.hid hlb; clear hlb
  have Hba := Lib.hid hba; clear hba
  have Hbb := Lib.hid hbb; clear hbb
  go_enter Tryd.func49, Tryd.ntmps49
  go_wp2_with fail
  clear hmk
  go_loopw [14] (fun i wr => ∃ k : Nat, k ≤ 16 ∧ i = .int .i64 k ∧ Row wr w.heap.size 3 ((part 0 (addS a b m) k).map (Value.int .i64)) ∧ Below w.heap.size w wr) (fun i _ => 16 - (intOf i).toNat)
  case atStart => exact ⟨0, by omega, rfl, by rw [← Hz2.out]; exact r0, (Below.refl _ _).alloc (Nat.le_refl _) _⟩
  case round =>
    clear r0
    obtain ⟨k, hk, rfl, hrow, hbel⟩ := hrel
    by_cases hlt : k < 16
    · have hk16 : (k : Int) < 16 := by omega
      have hrA := (hr.below hbel).more hbel.size
      have hrB := (hr2.below hbel).more hbel.size
      obtain ⟨ba, oa, rfl, L1⟩ := ld_int hrA (k := k) (by rw [Hla.out]; exact hlt)
      obtain ⟨bb, ob, rfl, L2⟩ := ld_int hrB (k := k) (by rw [Hlb.out]; exact hlt)
      have h1 := Hba.out k
      have h2 := Hbb.out k
      have hget := addS_get a b m k hlt
      have hg? : (addS a b m)[k]? = some ((addS a b m).getD k 0) := by
        rw [List.getD_eq_getElem?_getD, List.getElem?_eq_getElem (by rw [addS_len]; exact hlt)]; rfl
      have hps := part_succ 0 (addS a b m) k _ hg?
      have hpg := part_get 0 (addS a b m) k (by rw [addS_len]; exact hlt)
      rw [hget] at hps
      generalize a.getD k 0 = x at *
      generalize b.getD k 0 = y at *
      have hmy := mul_bd m y 1000000 1000000 hm h2
      simp only [Int.reduceMul, Int.reduceNeg] at hmy
      have i1 : IntKind.i64.wrap (m * y) = m * y := IntWalk.i64_in _ (by omega)
      have i2 : IntKind.i64.wrap (x + m * y) = x + m * y := IntWalk.i64_in _ (by omega)
      generalize part 0 (addS a b m) k = Pk at *
      have hrk : (Pk.map (Value.int .i64))[k]? = some (.int .i64 0) := by rw [List.getElem?_map, hpg]; rfl
      have hbs := hbel.size
      have Hget := Lib.hid hget; clear hget
      have Hg? := Lib.hid hg?; clear hg?
      have Hps := Lib.hid hps; clear hps
      have Hpg := Lib.hid hpg; clear hpg
      have I1 := Lib.hid i1; clear i1
      have I2 := Lib.hid i2; clear i2
      have Hrk := Lib.hid hrk; clear hrk
      go_wp2_with fail
      refine wp_region_N [14] [14] (by kernel_rfl) (by kernel_rfl) ?_
      refine wpStill_go (v := .slice (some ⟨w.heap.size, 0, none⟩) 16 16) rfl rfl (stays_run fun w' h => ex_move rfl rfl) ?_
      simp only [Act.put, List.setIfInBounds_toArray, List.set_cons_succ, List.set_cons_zero]
      refine wpStill_go (v := .int .i64 k) rfl rfl (stays_run fun w' h => ex_move rfl rfl) ?_
      simp only [Act.put, List.setIfInBounds_toArray, List.set_cons_succ, List.set_cons_zero]
      refine wpStill_go (v := .slice (some ⟨ba, oa, none⟩) 16 ca) rfl rfl (stays_run fun w' h => ex_move rfl rfl) ?_
      simp only [Act.put, List.setIfInBounds_toArray, List.set_cons_succ, List.set_cons_zero]
      refine wpStill_go (v := .int .i64 k) rfl rfl (stays_run fun w' h => ex_move rfl rfl) ?_
      simp only [Act.put, List.setIfInBounds_toArray, List.set_cons_succ, List.set_cons_zero]
      refine wpStill_go (v := .pointer (some ⟨ba, oa + k * 1, none⟩)) rfl rfl (stays_run fun w' h => ex_index rfl (by kernel_rfl) (by kernel_rfl) rfl rfl (hlt)) ?_
      simp only [Act.put, List.setIfInBounds_toArray, List.set_cons_succ, List.set_cons_zero]
      refine wpStill_go (v := .int .i64 x) rfl rfl (stays_run fun w' h => ex_load rfl rfl (L1 w' h)) ?_
      simp only [Act.put, List.setIfInBounds_toArray, List.set_cons_succ, List.set_cons_zero]
      refine wpStill_go (v := .int .i64 m) rfl rfl (stays_run fun w' h => ex_move rfl rfl) ?_
      simp only [Act.put, List.setIfInBounds_toArray, List.set_cons_succ, List.set_cons_zero]
      refine wpStill_go (v := .slice (some ⟨bb, ob, none⟩) 16 cb) rfl rfl (stays_run fun w' h => ex_move rfl rfl) ?_
      simp only [Act.put, List.setIfInBounds_toArray, List.set_cons_succ, List.set_cons_zero]
      refine wpStill_go (v := .int .i64 k) rfl rfl (stays_run fun w' h => ex_move rfl rfl) ?_
      simp only [Act.put, List.setIfInBounds_toArray, List.set_cons_succ, List.set_cons_zero]
      refine wpStill_go (v := .pointer (some ⟨bb, ob + k * 1, none⟩)) rfl rfl (stays_run fun w' h => ex_index rfl (by kernel_rfl) (by kernel_rfl) rfl rfl (hlt)) ?_
      simp only [Act.put, List.setIfInBounds_toArray, List.set_cons_succ, List.set_cons_zero]
      refine wpStill_go (v := .int .i64 y) rfl rfl (stays_run fun w' h => ex_load rfl rfl (L2 w' h)) ?_
      simp only [Act.put, List.setIfInBounds_toArray, List.set_cons_succ, List.set_cons_zero]
      refine wpStill_go (v := .int .i64 (m * y)) rfl rfl (stays_run fun w' h => by simp [go_sem, I1.out]) ?_
      simp only [Act.put, List.setIfInBounds_toArray, List.set_cons_succ, List.set_cons_zero]
      refine wpStill_go (v := .int .i64 (x + m * y)) rfl rfl (stays_run fun w' h => by simp [go_sem, I2.out]) ?_
      simp only [Act.put, List.setIfInBounds_toArray, List.set_cons_succ, List.set_cons_zero]
      refine wpStill_go (v := .pointer (some ⟨w.heap.size, 0 + k * 1, none⟩)) rfl rfl (stays_run fun w' h => ex_index rfl (by kernel_rfl) (by kernel_rfl) rfl rfl (hlt)) ?_
      simp only [Act.put, List.setIfInBounds_toArray, List.set_cons_succ, List.set_cons_zero]
      refine wpStill_skip rfl ?_
      refine wpStill_nil ?_
      repeat (refine wpMark_skip rfl ?_)
      refine wpMark_go rfl (fun m1 hm1 K hK => ?_)
      have E1 := (Below.refl wr.heap.size wr).drew.trans hm1
      have rm := hrow.kept E1
      have d0 := rm.cell k
      rw [Hrk.out] at d0
      have f0 := rm.frozen k
      go_wp2_with fail
      refine hK _ _ (fun h => absurd h (by decide)) (wpMark_nil fun m6 hm6 => ?_)
      simp only [onlyN]
      have r6 := (rm.set_ k (.int .i64 (x + m * y))).kept hm6
      rw [← List.map_set, Hps.out] at r6
      have B1 := hbel.trans (E1.mono hbel.size)
      have B2 := B1.setCell (p := ⟨w.heap.size, k, none⟩) (Nat.le_refl _) (.int .i64 (x + m * y))
      have B3 := B2.trans (hm6.mono B2.size)
      clear L1 L2 d0 f0 rm E1 hK
      have R6 := Lib.hid r6
      clear r6
      go_wp2_with fail
      go_roundw
      case measure => simp [intOf]; omega
      case rel => exact ⟨k + 1, by omega, by go_num, R6.out, B3⟩
    · obtain rfl : k = 16 := by omega
      rw [show part 0 (addS a b m) 16 = addS a b m from by have := part_all 0 (addS a b m); rwa [addS_len] at this] at hrow
      have Hrow := Lib.hid hrow; clear hrow
      go_wp2_with fail
      go_ret
      exact ⟨rfl, Hrow.out, hbel⟩

/-- A shifted sky of which k cells are laid. -/
def shK (s : List Int) (d k : Nat) : List Int := (List.range 16).map fun x => if subC x d < k then s.getD (subC x d) 0 else 0
theorem shK_len (s : List Int) (d k : Nat) : (shK s d k).length = 16 := by simp [shK]
theorem shK_get (s : List Int) (d k x : Nat) (h : x < 16) : (shK s d k).getD x 0 = if subC x d < k then s.getD (subC x d) 0 else 0 := by
  unfold shK; rw [List.getD_eq_getElem?_getD, List.getElem?_map, List.getElem?_range h]; rfl
theorem shK_zero (s : List Int) (d : Nat) : List.replicate 16 (Value.int .i64 0) = (shK s d 0).map (Value.int .i64) := by
  have : shK s d 0 = List.replicate 16 0 := ext16 (shK_len _ _ _) (by simp) fun x hx => by
    rw [shK_get _ _ _ _ hx, if_neg (by omega)]; exact (zeros16_get x).symm
  rw [this, List.map_replicate]
theorem shK_all (s : List Int) (d : Nat) : shK s d 16 = shL s d := ext16 (shK_len _ _ _) (shL_len _ _) fun x hx => by
  rw [shK_get _ _ _ _ hx, shL_get _ _ _ hx, if_pos (subC_lt x d)]
theorem shK_set (s : List Int) (d k : Nat) (hd : d < 16) (hk : k < 16) : (shK s d k).set (addC k d) (s.getD k 0) = shK s d (k + 1) := by
  refine ext16 (by rw [List.length_set, shK_len]) (shK_len _ _ _) fun x hx => ?_
  rw [set_get _ _ _ _ (by rw [shK_len]; exact addC_lt k d), shK_get _ _ _ _ hx, shK_get _ _ _ _ hx]
  by_cases h : x = addC k d
  · subst h
    rw [if_pos rfl, addC_sub k hk d hd, if_pos (by omega)]
  · rw [if_neg h]
    have hne : subC x d ≠ k := fun e => h (by rw [← e, subC_add x hx d hd])
    by_cases h2 : subC x d < k
    · rw [if_pos h2, if_pos (by omega)]
    · rw [if_neg h2, if_neg (by omega)]

/-- A fold of which k terms are added. -/
def foldK (a b : List Int) (k : Nat) : List Int := (List.range 16).map fun x => sumN k fun j => a.getD j 0 * b.getD (subC x j) 0
theorem foldK_len (a b : List Int) (k : Nat) : (foldK a b k).length = 16 := by simp [foldK]
theorem foldK_get (a b : List Int) (k x : Nat) (h : x < 16) : (foldK a b k).getD x 0 = sumN k fun j => a.getD j 0 * b.getD (subC x j) 0 := by
  unfold foldK; rw [List.getD_eq_getElem?_getD, List.getElem?_map, List.getElem?_range h]; rfl
theorem foldK_all (a b : List Int) : foldK a b 16 = foldL a b := rfl
theorem foldK_succ (a b : List Int) (k : Nat) : addS (foldK a b k) (shL b k) (a.getD k 0) = foldK a b (k + 1) := by
  refine ext16 (addS_len _ _ _) (foldK_len _ _ _) fun x hx => ?_
  rw [addS_get _ _ _ _ hx, foldK_get _ _ _ _ hx, foldK_get _ _ _ _ hx, shL_get _ _ _ hx, sumN_succ]
theorem foldK_zero (a b : List Int) : List.replicate 16 (Value.int .i64 0) = (foldK a b 0).map (Value.int .i64) := by
  have : foldK a b 0 = List.replicate 16 0 := ext16 (foldK_len _ _ _) (by simp) fun x hx => by
    rw [foldK_get _ _ _ _ hx]; exact (zeros16_get x).symm
  rw [this, List.map_replicate]
theorem foldK_bd {a b : List Int} (ha : iLe 100000 a) (hb : iLe 100000 b) (k : Nat) (hk : k ≤ 16) : iLe 1000000000000 (foldK a b k) := fun x => by
  by_cases hx : x < 16
  · rw [foldK_get _ _ _ _ hx]
    have : ∀ n : Nat, n ≤ 16 → -((n : Int) * 10000000000) ≤ (sumN n fun j => a.getD j 0 * b.getD (subC x j) 0) ∧ (sumN n fun j => a.getD j 0 * b.getD (subC x j) 0) ≤ (n : Int) * 10000000000 := fun n => by
      induction n with
      | zero => intro _; simp [sumN]
      | succ n ih =>
        intro hn
        rw [sumN_succ]
        have := ih (by omega)
        have m := mul_bd _ _ 100000 100000 (ha n) (hb (subC x n))
        simp only [Int.reduceMul] at m
        omega
    have := this k hk
    omega
  · rw [List.getD_eq_getElem?_getD, List.getElem?_eq_none (by rw [foldK_len]; omega)]; simp
theorem iLe_shL {M : Int} {s : List Int} (h : iLe M s) (hM : 0 ≤ M) (d : Nat) : iLe M (shL s d) := fun x => by
  by_cases hx : x < 16
  · rw [shL_get _ _ _ hx]; exact h _
  · rw [List.getD_eq_getElem?_getD, List.getElem?_eq_none (by rw [shL_len]; omega)]; simp; omega
theorem iLe_mono {M N : Int} {s : List Int} (h : iLe M s) (hMN : M ≤ N) : iLe N s := fun x => by have := h x; omega

theorem l_inRange5 (n : Int) (w : World) : Calls Tryd.prog 47 #[.int .i64 n, .int .i64 100000] w fun e w' => e = .returned (.bool (inR n (-100000) 100000)) ∧ w = w' := inRange_any n 100000 w (by omega) (by omega)

/-- What a sky function hands on: the sky, if it is one. -/
theorem okS_own {w : World} {base g : Nat} {s : List Int} (h : Row w g 3 (s.map (Value.int .i64))) (hg : base ≤ g) (hl : s.length = 16) (ok : Bool) :
    w.ownsRow base 3 1 (okS ok (.slice (some ⟨g, 0, none⟩) 16 16)) (if ok then 16 else 0) ((if ok then s else []).map (Value.int .i64)) := by
  cases ok
  · exact World.ownsRow_nil _ _ _ _
  · exact h.own hg (by rw [List.length_map, hl]) (by decide)

def addR (a b : List Int) (m : Int) : Option (List Int) := if (skyV a && skyV b) = true ∧ -100000 ≤ m ∧ m ≤ 100000 ∧ skyV (addS a b m) = true then some (addS a b m) else none
set_option maxHeartbeats 1000000 in
theorem skyAdd_any (A B : Option Addr) (na nb ca cb : Nat) (a b : List Int) (m : Int) (w : World) (hla : a.length = na) (hlb : b.length = nb) (hna : na ≤ 1000) (hnb : nb ≤ 1000)
    (hr : Rd w w.heap.size A (a.map (Value.int .i64))) (hr2 : Rd w w.heap.size B (b.map (Value.int .i64))) :
    Calls Tryd.prog 17 #[.slice A na ca, .slice B nb cb, .int .i64 m] w fun e w' => ∃ v, e = .returned (.tuple #[v, .bool (addR a b m).isSome]) ∧ w'.ownsRow w.heap.size 3 1 v ((addR a b m).getD []).length (((addR a b m).getD []).map (Value.int .i64)) ∧ Below w.heap.size w w' := by
  have Hla := Lib.hid hla; clear hla
  have Hlb := Lib.hid hlb; clear hlb
  cases h1 : skyV a
  · have hR : addR a b m = none := by unfold addR; rw [h1]; rfl
    rw [hR]
    have H1 := Lib.hid h1; clear h1
    clear hR
    go_enter Tryd.func17, Tryd.ntmps17
    go_wp2_with fail
    refine (skyValid_any A na ca a _ Hla.out (by omega) hr).mono ?_
    rintro e w1 ⟨rfl, rfl⟩
    rw [H1.out]
    go_wp2_with fail
    refine bodyPost_ret (v := .tuple #[.slice none 0 0, .bool false]) (by simp [results, Tryd.results17, go_sem]) rfl ⟨_, rfl, World.ownsRow_nil _ _ _ _, Below.refl _ _⟩
  · cases h2 : skyV b
    · have hR : addR a b m = none := by unfold addR; rw [h1, h2]; rfl
      rw [hR]
      have H1 := Lib.hid h1; clear h1
      have H2 := Lib.hid h2; clear h2
      clear hR
      go_enter Tryd.func17, Tryd.ntmps17
      go_wp2_with fail
      refine (skyValid_any A na ca a _ Hla.out (by omega) hr).mono ?_
      rintro e w1 ⟨rfl, rfl⟩
      rw [H1.out]
      go_wp2_with fail
      refine (skyValid_any B nb cb b _ Hlb.out (by omega) hr2).mono ?_
      rintro e w1 ⟨rfl, rfl⟩
      rw [H2.out]
      go_wp2_with fail
      refine bodyPost_ret (v := .tuple #[.slice none 0 0, .bool false]) (by simp [results, Tryd.results17, go_sem]) rfl ⟨_, rfl, World.ownsRow_nil _ _ _ _, Below.refl _ _⟩
    · obtain rfl : na = 16 := by rw [← Hla.out]; exact skyV_len h1
      obtain rfl : nb = 16 := by rw [← Hlb.out]; exact skyV_len h2
      cases h3 : inR m (-100000) 100000
      · have hR : addR a b m = none := by
          unfold addR; rw [if_neg]; rintro ⟨_, h4, h5, _⟩; exact (inR_no.1 h3) ⟨h4, h5⟩
        rw [hR]
        have H1 := Lib.hid h1; clear h1
        have H2 := Lib.hid h2; clear h2
        have H3 := Lib.hid h3; clear h3
        clear hR
        go_enter Tryd.func17, Tryd.ntmps17
        go_wp2_with fail
        refine (skyValid_any A 16 ca a _ Hla.out (by omega) hr).mono ?_
        rintro e w1 ⟨rfl, rfl⟩
        rw [H1.out]
        go_wp2_with fail
        refine (skyValid_any B 16 cb b _ Hlb.out (by omega) hr2).mono ?_
        rintro e w1 ⟨rfl, rfl⟩
        rw [H2.out]
        go_wp2_with fail
        refine (l_inRange5 m _).mono ?_
        rintro e w1 ⟨rfl, rfl⟩
        rw [H3.out]
        go_wp2_with fail
        refine bodyPost_ret (v := .tuple #[.slice none 0 0, .bool false]) (by simp [results, Tryd.results17, go_sem]) rfl ⟨_, rfl, World.ownsRow_nil _ _ _ _, Below.refl _ _⟩
      · have hm := inR_iff.1 h3
        have hR : addR a b m = if skyV (addS a b m) then some (addS a b m) else none := by
          unfold addR
          cases hc : skyV (addS a b m)
          · rw [if_neg (by rintro ⟨_, _, _, h⟩; cases h)]; rfl
          · rw [if_pos ⟨by rw [h1, h2]; rfl, hm.1, hm.2, rfl⟩]; rfl
        have hba := iLe_mono (iLe_sky h1) (N := 1000000000000) (by omega)
        have hbb := iLe_mono (iLe_sky h2) (N := 1000000) (by omega)
        have H1 := Lib.hid h1; clear h1
        have H2 := Lib.hid h2; clear h2
        have H3 := Lib.hid h3; clear h3
        have Hba := Lib.hid hba; clear hba
        have Hbb := Lib.hid hbb; clear hbb
        have HR := Lib.hid hR; clear hR
        go_enter Tryd.func17, Tryd.ntmps17
        go_wp2_with fail
        refine (skyValid_any A 16 ca a _ Hla.out (by omega) hr).mono ?_
        rintro e w1 ⟨rfl, rfl⟩
        rw [H1.out]
        go_wp2_with fail
        refine (skyValid_any B 16 cb b _ Hlb.out (by omega) hr2).mono ?_
        rintro e w1 ⟨rfl, rfl⟩
        rw [H2.out]
        go_wp2_with fail
        refine (l_inRange5 m _).mono ?_
        rintro e w1 ⟨rfl, rfl⟩
        rw [H3.out]
        go_wp2_with fail
        refine (addTimes_any A B ca cb a b m _ Hla.out Hlb.out Hba.out Hbb.out (by omega) hr hr2).mono ?_
        rintro e w2 ⟨rfl, r2, b2⟩
        go_wp2_with fail
        refine (skyChecked_any _ 16 16 (addS a b m) _ (addS_len _ _ _) (by omega) r2.rd).mono ?_
        rintro e w3 ⟨rfl, rfl⟩
        have r2' := okS_own r2 (Nat.le_refl _) (addS_len a b m) (skyV (addS a b m))
        have hR2 : (addR a b m).isSome = skyV (addS a b m) := by rw [HR.out]; cases skyV (addS a b m) <;> rfl
        have hR3 : (addR a b m).getD [] = if skyV (addS a b m) then addS a b m else [] := by rw [HR.out]; cases skyV (addS a b m) <;> rfl
        have hR4 : ((addR a b m).getD []).length = if skyV (addS a b m) then 16 else 0 := by rw [hR3]; cases skyV (addS a b m) <;> simp [addS_len]
        have R2' := Lib.hid r2'; clear r2'
        have HR2 := Lib.hid hR2; clear hR2
        have HR3 := Lib.hid hR3; clear hR3
        have HR4 := Lib.hid hR4; clear hR4
        clear r2
        go_wp2_with fail
        refine bodyPost_ret (by simp [results, Tryd.results17, go_sem]; rfl) rfl ⟨_, by rw [HR2.out], ?_, b2⟩
        rw [HR4.out, HR3.out]
        exact R2'.out
end Go.Proofs.YtbadeopjfmafcaaDoor
