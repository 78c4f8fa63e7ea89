/- 'slices.Equal' on Gaussian integers. · Skies added, shifted and folded. · The draws' reader: l6Open and pick. · The draws' reader as a whole, and the first draws. · The draws of a coverage. · 'impl.BeamOf' and what it calls. · 'impl.BeamOf' and 'spec.BeamOf' at every coverage; 'CoverMany'. · 'SkyFold', 'SkySum', 'CoverHoles' and the laws' 'spot'. · 'impl.DirtyOf', 'impl.masked', 'impl.SkySum'. -/
import Derived.Test.YtipgpafgampfbaaGreatDoorA3
import Derived.Test.YtipgpafgampfbaaGreatDoorA4
import Derived.Test.YtipgpafgampfbaaGreatDoorA5
import Derived.Test.YtipgpafgampfbaaGreatDoorA1
namespace Go.Proofs.YtipgpafgampfbaaGreatDoor
open Go.RowKit

end Go.Proofs.YtipgpafgampfbaaGreatDoor

namespace Go.Proofs.YtipgpafgampfbaaGreatDoor
open Go.RowKit

theorem part_zero16 (L : List Int) (hl : L.length = 16) : (List.replicate 16 (Value.int .i64 0)) = (part 0 L 0).map (Value.int .i64) := by
  unfold part; rw [hl, List.take_zero, List.nil_append, List.map_replicate]
/-- All numbers of a list lie within M. -/
def iLe (M : Int) (s : List Int) : Prop := ∀ k, -M ≤ s.getD k 0 ∧ s.getD k 0 ≤ M
theorem iLe_of {M : Int} {s : List Int} (hM : 0 ≤ M) (h : ∀ x ∈ s, -M ≤ x ∧ x ≤ M) : iLe M s := fun k => by
  by_cases hk : k < s.length
  · exact h _ (getD_mem hk)
  · rw [List.getD_eq_getElem?_getD, List.getElem?_eq_none (by omega)]; simp; omega
theorem iLe_sky {s : List Int} (h : skyV s = true) : iLe 100000 s := iLe_of (by omega) (skyV_iff.1 h).2
theorem skyV_len {s : List Int} (h : skyV s = true) : s.length = 16 := (skyV_iff.1 h).1

set_option maxRecDepth 100000 in
set_option maxHeartbeats 1000000 in
theorem addTimes_any (A B : Option Addr) (ca cb : Nat) (a b : List Int) (m : Int) (w : World) (hla : a.length = 16) (hlb : b.length = 16) (hba : iLe 1000000000000 a) (hbb : iLe 1000000 b) (hm : -1000000 ≤ m ∧ m ≤ 1000000)
    (hr : Rd w w.heap.size A (a.map (Value.int .i64))) (hr2 : Rd w w.heap.size B (b.map (Value.int .i64))) :
    Calls Tryz.prog 115 #[.slice A 16 ca, .slice B 16 cb, .int .i64 m] w fun e w' => e = .returned (.slice (some ⟨w.heap.size, 0, none⟩) 16 16) ∧ Row w' w.heap.size 3 ((addS a b m).map (Value.int .i64)) ∧ Below w.heap.size w w' := by
  obtain ⟨Z, hZ⟩ : ∃ Z, List.replicate 16 (Value.int .i64 0) = Z := ⟨_, rfl⟩
  have hmk : ∀ W : World, (Instr.makeSlice 32 (.int .i64 16) (.int .i64 16)).run Tryz.prog W = .ok (.slice (some ⟨W.heap.size, 0, none⟩) 16 16) (W.alloc (.cells Z.toArray 3)) := fun W => by
    rw [← hZ]; exact run_make1 (P := Tryz.prog) 32 3 (.int .i64 0) 8 Tryz.underlying32 (by kernel_rfl) rfl 16 (by omega) (by omega) W
  have hz2 := hZ.symm.trans (part_zero16 (addS a b m) (addS_len a b m))
  have r0 := Row.new w 3 Z
  have Hz2 := Lib.hid hz2
  clear hZ hz2
  have Hla := Lib.hid hla; clear hla
  have Hlb := Lib.hid hlb; clear hlb
  have Hba := Lib.hid hba; clear hba
  have Hbb := Lib.hid hbb; clear hbb
  go_enter Tryz.func115, Tryz.ntmps115
  go_wp2_with fail
  clear hmk
  go_loopw [14] (fun i wr => ∃ k : Nat, k ≤ 16 ∧ i = .int .i64 k ∧ Row wr w.heap.size 3 ((part 0 (addS a b m) k).map (Value.int .i64)) ∧ Below w.heap.size w wr) (fun i _ => 16 - (intOf i).toNat)
  case atStart => exact ⟨0, by omega, rfl, by rw [← Hz2.out]; exact r0, (Below.refl _ _).alloc (Nat.le_refl _) _⟩
  case round =>
    clear r0
    obtain ⟨k, hk, rfl, hrow, hbel⟩ := hrel
    by_cases hlt : k < 16
    · have hk16 : (k : Int) < 16 := by omega
      have hrA := (hr.below hbel).more hbel.size
      have hrB := (hr2.below hbel).more hbel.size
      obtain ⟨ba, oa, rfl, L1⟩ := ld_int hrA (k := k) (by rw [Hla.out]; exact hlt)
      obtain ⟨bb, ob, rfl, L2⟩ := ld_int hrB (k := k) (by rw [Hlb.out]; exact hlt)
      have h1 := Hba.out k
      have h2 := Hbb.out k
      have hget := addS_get a b m k hlt
      have hg? : (addS a b m)[k]? = some ((addS a b m).getD k 0) := by
        rw [List.getD_eq_getElem?_getD, List.getElem?_eq_getElem (by rw [addS_len]; exact hlt)]; rfl
      have hps := part_succ 0 (addS a b m) k _ hg?
      have hpg := part_get 0 (addS a b m) k (by rw [addS_len]; exact hlt)
      rw [hget] at hps
      generalize a.getD k 0 = x at *
      generalize b.getD k 0 = y at *
      have hmy := mul_bd m y 1000000 1000000 hm h2
      simp only [Int.reduceMul, Int.reduceNeg] at hmy
      have i1 : IntKind.i64.wrap (m * y) = m * y := IntWalk.i64_in _ (by omega)
      have i2 : IntKind.i64.wrap (x + m * y) = x + m * y := IntWalk.i64_in _ (by omega)
      generalize part 0 (addS a b m) k = Pk at *
      have hrk : (Pk.map (Value.int .i64))[k]? = some (.int .i64 0) := by rw [List.getElem?_map, hpg]; rfl
      have hbs := hbel.size
      have Hget := Lib.hid hget; clear hget
      have Hg? := Lib.hid hg?; clear hg?
      have Hps := Lib.hid hps; clear hps
      have Hpg := Lib.hid hpg; clear hpg
      have I1 := Lib.hid i1; clear i1
      have I2 := Lib.hid i2; clear i2
      have Hrk := Lib.hid hrk; clear hrk
      go_wp2_with fail
      refine wp_region_N [14] [14] (by kernel_rfl) (by kernel_rfl) ?_
      refine wpStill_go (v := .slice (some ⟨w.heap.size, 0, none⟩) 16 16) rfl rfl (stays_run fun w' h => ex_move rfl rfl) ?_
      simp only [Act.put, List.setIfInBounds_toArray, List.set_cons_succ, List.set_cons_zero]
      refine wpStill_go (v := .int .i64 k) rfl rfl (stays_run fun w' h => ex_move rfl rfl) ?_
      simp only [Act.put, List.setIfInBounds_toArray, List.set_cons_succ, List.set_cons_zero]
      refine wpStill_go (v := .slice (some ⟨ba, oa, none⟩) 16 ca) rfl rfl (stays_run fun w' h => ex_move rfl rfl) ?_
      simp only [Act.put, List.setIfInBounds_toArray, List.set_cons_succ, List.set_cons_zero]
      refine wpStill_go (v := .int .i64 k) rfl rfl (stays_run fun w' h => ex_move rfl rfl) ?_
      simp only [Act.put, List.setIfInBounds_toArray, List.set_cons_succ, List.set_cons_zero]
      refine wpStill_go (v := .pointer (some ⟨ba, oa + k * 1, none⟩)) rfl rfl (stays_run fun w' h => ex_index rfl (by kernel_rfl) (by kernel_rfl) rfl rfl (hlt)) ?_
      simp only [Act.put, List.setIfInBounds_toArray, List.set_cons_succ, List.set_cons_zero]
      refine wpStill_go (v := .int .i64 x) rfl rfl (stays_run fun w' h => ex_load rfl rfl (L1 w' h)) ?_
      simp only [Act.put, List.setIfInBounds_toArray, List.set_cons_succ, List.set_cons_zero]
      refine wpStill_go (v := .int .i64 m) rfl rfl (stays_run fun w' h => ex_move rfl rfl) ?_
      simp only [Act.put, List.setIfInBounds_toArray, List.set_cons_succ, List.set_cons_zero]
      refine wpStill_go (v := .slice (some ⟨bb, ob, none⟩) 16 cb) rfl rfl (stays_run fun w' h => ex_move rfl rfl) ?_
      simp only [Act.put, List.setIfInBounds_toArray, List.set_cons_succ, List.set_cons_zero]
      refine wpStill_go (v := .int .i64 k) rfl rfl (stays_run fun w' h => ex_move rfl rfl) ?_
      simp only [Act.put, List.setIfInBounds_toArray, List.set_cons_succ, List.set_cons_zero]
      refine wpStill_go (v := .pointer (some ⟨bb, ob + k * 1, none⟩)) rfl rfl (stays_run fun w' h => ex_index rfl (by kernel_rfl) (by kernel_rfl) rfl rfl (hlt)) ?_
      simp only [Act.put, List.setIfInBounds_toArray, List.set_cons_succ, List.set_cons_zero]
      refine wpStill_go (v := .int .i64 y) rfl rfl (stays_run fun w' h => ex_load rfl rfl (L2 w' h)) ?_
      simp only [Act.put, List.setIfInBounds_toArray, List.set_cons_succ, List.set_cons_zero]
      refine wpStill_go (v := .int .i64 (m * y)) rfl rfl (stays_run fun w' h => by simp [go_sem, I1.out]) ?_
      simp only [Act.put, List.setIfInBounds_toArray, List.set_cons_succ, List.set_cons_zero]
      refine wpStill_go (v := .int .i64 (x + m * y)) rfl rfl (stays_run fun w' h => by simp [go_sem, I2.out]) ?_
      simp only [Act.put, List.setIfInBounds_toArray, List.set_cons_succ, List.set_cons_zero]
      refine wpStill_go (v := .pointer (some ⟨w.heap.size, 0 + k * 1, none⟩)) rfl rfl (stays_run fun w' h => ex_index rfl (by kernel_rfl) (by kernel_rfl) rfl rfl (hlt)) ?_
      simp only [Act.put, List.setIfInBounds_toArray, List.set_cons_succ, List.set_cons_zero]
      refine wpStill_skip rfl ?_
      refine wpStill_nil ?_
      repeat (refine wpMark_skip rfl ?_)
      refine wpMark_go rfl (fun m1 hm1 K hK => ?_)
      have E1 := (Below.refl wr.heap.size wr).drew.trans hm1
      have rm := hrow.kept E1
      have d0 := rm.cell k
      rw [Hrk.out] at d0
      have f0 := rm.frozen k
      go_wp2_with fail
      refine hK _ _ (fun h => absurd h (by decide)) (wpMark_nil fun m6 hm6 => ?_)
      simp only [onlyN]
      have r6 := (rm.set_ k (.int .i64 (x + m * y))).kept hm6
      rw [← List.map_set, Hps.out] at r6
      have B1 := hbel.trans (E1.mono hbel.size)
      have B2 := B1.setCell (p := ⟨w.heap.size, k, none⟩) (Nat.le_refl _) (.int .i64 (x + m * y))
      have B3 := B2.trans (hm6.mono B2.size)
      clear L1 L2 d0 f0 rm E1 hK
      have R6 := Lib.hid r6
      clear r6
      go_wp2_with fail
      go_roundw
      case measure => simp [intOf]; omega
      case rel => exact ⟨k + 1, by omega, by go_num, R6.out, B3⟩
    · obtain rfl : k = 16 := by omega
      rw [show part 0 (addS a b m) 16 = addS a b m from by have := part_all 0 (addS a b m); rwa [addS_len] at this] at hrow
      have Hrow := Lib.hid hrow; clear hrow
      go_wp2_with fail
      go_ret
      exact ⟨rfl, Hrow.out, hbel⟩

/-- A shifted sky of which k cells are laid. -/
def shK (s : List Int) (d k : Nat) : List Int := (List.range 16).map fun x => if subC x d < k then s.getD (subC x d) 0 else 0
theorem shK_len (s : List Int) (d k : Nat) : (shK s d k).length = 16 := by simp [shK]
theorem shK_get (s : List Int) (d k x : Nat) (h : x < 16) : (shK s d k).getD x 0 = if subC x d < k then s.getD (subC x d) 0 else 0 := by
  unfold shK; rw [List.getD_eq_getElem?_getD, List.getElem?_map, List.getElem?_range h]; rfl
theorem shK_zero (s : List Int) (d : Nat) : List.replicate 16 (Value.int .i64 0) = (shK s d 0).map (Value.int .i64) := by
  have : shK s d 0 = List.replicate 16 0 := ext16 (shK_len _ _ _) (by simp) fun x hx => by
    rw [shK_get _ _ _ _ hx, if_neg (by omega)]; exact (zeros16_get x).symm
  rw [this, List.map_replicate]
theorem shK_all (s : List Int) (d : Nat) : shK s d 16 = shL s d := ext16 (shK_len _ _ _) (shL_len _ _) fun x hx => by
  rw [shK_get _ _ _ _ hx, shL_get _ _ _ hx, if_pos (subC_lt x d)]
theorem shK_set (s : List Int) (d k : Nat) (hd : d < 16) (hk : k < 16) : (shK s d k).set (addC k d) (s.getD k 0) = shK s d (k + 1) := by
  refine ext16 (by rw [List.length_set, shK_len]) (shK_len _ _ _) fun x hx => ?_
  rw [set_get _ _ _ _ (by rw [shK_len]; exact addC_lt k d), shK_get _ _ _ _ hx, shK_get _ _ _ _ hx]
  by_cases h : x = addC k d
  · subst h
    rw [if_pos rfl, addC_sub k hk d hd, if_pos (by omega)]
  · rw [if_neg h]
    have hne : subC x d ≠ k := fun e => h (by rw [← e, subC_add x hx d hd])
    by_cases h2 : subC x d < k
    · rw [if_pos h2, if_pos (by omega)]
    · rw [if_neg h2, if_neg (by omega)]

set_option maxHeartbeats 1000000 in
theorem shifted_any (A : Option Addr) (ca : Nat) (s : List Int) (d : Nat) (w : World) (hl : s.length = 16) (hd : d < 16) (hr : Rd w w.heap.size A (s.map (Value.int .i64))) :
    Calls Tryz.prog 116 #[.slice A 16 ca, .int .i64 ((d : Int) % 4), .int .i64 ((d : Int) / 4)] w fun e w' => e = .returned (.slice (some ⟨w.heap.size, 0, none⟩) 16 16) ∧ Row w' w.heap.size 3 ((shL s d).map (Value.int .i64)) ∧ Below w.heap.size w w' := by
  obtain ⟨Z, hZ⟩ : ∃ Z, List.replicate 16 (Value.int .i64 0) = Z := ⟨_, rfl⟩
  have hmk : ∀ W : World, (Instr.makeSlice 32 (.int .i64 16) (.int .i64 16)).run Tryz.prog W = .ok (.slice (some ⟨W.heap.size, 0, none⟩) 16 16) (W.alloc (.cells Z.toArray 3)) := fun W => by
    rw [← hZ]; exact run_make1 (P := Tryz.prog) 32 3 (.int .i64 0) 8 Tryz.underlying32 (by kernel_rfl) rfl 16 (by omega) (by omega) W
  have hz2 := hZ.symm.trans (shK_zero s d)
  have r0 := Row.new w 3 Z
  have Hz2 := Lib.hid hz2
  clear hZ hz2
  have Hl := Lib.hid hl; clear hl
  have hd1 : 0 ≤ (d : Int) % 4 ∧ (d : Int) % 4 ≤ 3 := by omega
  have hd2 : 0 ≤ (d : Int) / 4 ∧ (d : Int) / 4 ≤ 3 := by omega
  have hcell : ∀ k : Nat, k < 16 → ∀ w, Calls Tryz.prog 94 #[.int .i64 ((k : Int) % 4 + (d : Int) % 4), .int .i64 ((k : Int) / 4 + (d : Int) / 4)] w fun e w' => e = .returned (.int .i64 ((addC k d : Nat) : Int)) ∧ w = w' := fun k hk w => by
    have h := cellAt_any ((k : Int) % 4 + (d : Int) % 4) ((k : Int) / 4 + (d : Int) / 4) w
    have e : cellI ((k : Int) % 4 + (d : Int) % 4) ((k : Int) / 4 + (d : Int) / 4) = ((addC k d : Nat) : Int) := by unfold cellI addC; omega
    rwa [e] at h
  have Hcell := Lib.hid hcell
  clear hcell
  obtain ⟨p, hp⟩ : ∃ p : Int, (d : Int) % 4 = p := ⟨_, rfl⟩
  obtain ⟨q, hq⟩ : ∃ q : Int, (d : Int) / 4 = q := ⟨_, rfl⟩
  have Hcell := Lib.hid (show ∀ k : Nat, k < 16 → ∀ w, Calls Tryz.prog 94 #[.int .i64 ((k : Int) % 4 + p), .int .i64 ((k : Int) / 4 + q)] w fun e w' => e = .returned (.int .i64 ((addC k d : Nat) : Int)) ∧ w = w' from by rw [← hp, ← hq]; exact Hcell.out)
  rw [hp, hq]
  rw [hp] at hd1
  rw [hq] at hd2
  clear hp hq
  go_enter Tryz.func116, Tryz.ntmps116
  go_wp2_with fail
  clear hmk
  go_loopw [15] (fun i wr => ∃ k : Nat, k ≤ 16 ∧ i = .int .i64 k ∧ Row wr w.heap.size 3 ((shK s d k).map (Value.int .i64)) ∧ Below w.heap.size w wr) (fun i _ => 16 - (intOf i).toNat)
  case atStart => exact ⟨0, by omega, rfl, by rw [← Hz2.out]; exact r0, (Below.refl _ _).alloc (Nat.le_refl _) _⟩
  case round =>
    clear r0
    obtain ⟨k, hk, rfl, hrow, hbel⟩ := hrel
    by_cases hlt : k < 16
    · have hk16 : (k : Int) < 16 := by omega
      obtain ⟨b, off, rfl, hb, hc⟩ := (hr.below hbel) k _ (ints_get (by rw [Hl.out]; exact hlt))
      have hset := shK_set s d k hd hlt
      have ho := addC_lt k d
      have hlen := shK_len s d k
      have hkc := Hcell.out k hlt
      generalize s.getD k 0 = x at *
      generalize addC k d = o at *
      generalize shK s d k = S at *
      have ck := hrow.cell o
      rw [ints_get (by rw [hlen]; exact ho)] at ck
      have fk := hrow.frozen o
      have r2 := hrow.set_ o (.int .i64 x)
      rw [← List.map_set, hset] at r2
      have B2 := hbel.setCell (p := ⟨w.heap.size, o, none⟩) (Nat.le_refl _) (.int .i64 x)
      have Hset := Lib.hid hset; clear hset
      have Hlen := Lib.hid hlen; clear hlen
      have Hkc := Lib.hid hkc; clear hkc
      have R2 := Lib.hid r2; clear r2
      have hidX := Lib.hid B2; clear B2; have B2 := hidX; clear hidX
      clear hrow hbel
      go_wp2_with fail
      refine (Hkc.out _).mono ?_
      rintro e w2 ⟨rfl, rfl⟩
      go_wp2_with fail
      go_roundw
      case measure => simp [intOf]; omega
      case rel => exact ⟨k + 1, by omega, by go_num, R2.out, B2.out⟩
    · obtain rfl : k = 16 := by omega
      rw [shK_all] at hrow
      have Hrow := Lib.hid hrow; clear hrow
      go_wp2_with fail
      go_ret
      exact ⟨rfl, Hrow.out, hbel⟩

end Go.Proofs.YtipgpafgampfbaaGreatDoor

namespace Go.Proofs.YtipgpafgampfbaaGreatDoor
open Go.RowKit

theorem xor_nonneg (a b : Int) (ha : 0 ≤ a ∧ a < 1073741824) (hb : 0 ≤ b ∧ b < 1073741824) : 0 ≤ bits BinOp.xor IntKind.i64 a b := by
  show 0 ≤ IntKind.i64.wrap ((BitVec.ofInt 64 a ^^^ BitVec.ofInt 64 b).toNat : Int)
  have h : (BitVec.ofInt 64 a ^^^ BitVec.ofInt 64 b).toNat < 2 ^ 30 := by
    rw [BitVec.toNat_xor, BitVec.toNat_ofInt, BitVec.toNat_ofInt]
    exact Nat.xor_lt_two_pow (by omega) (by omega)
  rw [IntKind.wrap_i64]
  omega

set_option maxRecDepth 100000 in
set_option maxHeartbeats 2000000 in
theorem pick_any (R : Nat) (A : Option Addr) (n cap : Nat) (bs : List Int) (p m : Int) (w : World) (hn : bs.length = n) (hn2 : n ≤ 2000) (hp : 0 ≤ p ∧ p ≤ 1000000) (hm : 1 ≤ m ∧ m ≤ 1000000) (hbs : BytesOk bs)
    (hR : Row w R 113 [.slice A n cap, .int .i64 p]) (hr : Rd w R A (bs.map (Value.int .u8))) :
    Calls Tryz.prog 48 #[.pointer (some ⟨R, 0, none⟩), .int .i64 m] w fun e w' =>
      ∃ x : Int, e = .returned (.int .i64 x) ∧ 0 ≤ x ∧ x < m ∧ ∃ k, w' = (w.setCell ⟨R, 1, none⟩ (.int .i64 (p + 1))).drewN k := by
  have Hn := Lib.hid hn; clear hn
  have Hbs := Lib.hid hbs; clear hbs
  have c0 : w.cell? ⟨R, 0, none⟩ = some (.slice A n cap) := hR.cell 0
  have c1 : w.cell? ⟨R, 1, none⟩ = some (.int .i64 p) := hR.cell 1
  have z1 := hR.frozen 1
  have hm1 : ¬ m < 1 := by omega
  by_cases h0 : n = 0
  · subst h0
    go_enter Tryz.func48, Tryz.ntmps48
    go_wp2_with fail
    go_ret
    exact ⟨0, rfl, by omega, by omega, 0, rfl⟩
  · by_cases hpn : p < n
    · obtain ⟨k, rfl⟩ : ∃ k : Nat, p = k := ⟨p.toNat, by omega⟩
      obtain ⟨x, hx⟩ : ∃ x, bs[k]? = some x := ⟨_, List.getElem?_eq_getElem (by rw [Hn.out]; omega)⟩
      obtain ⟨b, off, rfl, hb, hc⟩ := hr k (.int .u8 x) (by rw [List.getElem?_map, hx]; rfl)
      have hxb := Hbs.out x (List.mem_of_getElem? hx)
      go_enter Tryz.func48, Tryz.ntmps48
      go_wp2_with fail
      go_ret
      exact ⟨x % m, rfl, Int.emod_nonneg _ (by omega), Int.emod_lt_of_pos _ (by omega), 0, rfl⟩
    · obtain ⟨k, rfl⟩ : ∃ k : Nat, p = k := ⟨p.toNat, by omega⟩
      have hk1 : k % n < n := Nat.mod_lt _ (by omega)
      have hk2 : (k * 7 + 3) % n < n := Nat.mod_lt _ (by omega)
      obtain ⟨x, hx⟩ : ∃ x, bs[k % n]? = some x := ⟨_, List.getElem?_eq_getElem (by rw [Hn.out]; exact hk1)⟩
      obtain ⟨y, hy⟩ : ∃ y, bs[(k * 7 + 3) % n]? = some y := ⟨_, List.getElem?_eq_getElem (by rw [Hn.out]; exact hk2)⟩
      obtain ⟨b, off, rfl, hb, hc⟩ := hr _ (.int .u8 x) (by rw [List.getElem?_map, hx]; rfl)
      obtain ⟨_, _, e2, _, hc'⟩ := hr _ (.int .u8 y) (by rw [List.getElem?_map, hy]; rfl)
      cases e2
      have hxb := Hbs.out x (List.mem_of_getElem? hx)
      have hyb := Hbs.out y (List.mem_of_getElem? hy)
      have Hx := Lib.hid hx; clear hx
      have Hy := Lib.hid hy; clear hy
      obtain ⟨q, hq⟩ : ∃ q : Nat, k / n = q := ⟨_, rfl⟩
      have hq2 : q ≤ 1000000 := by rw [← hq]; exact Nat.le_trans (Nat.div_le_self _ _) (by omega)
      obtain ⟨i, hi⟩ : ∃ i : Nat, k % n = i := ⟨_, rfl⟩
      obtain ⟨j, hj⟩ : ∃ j : Nat, (k * 7 + 3) % n = j := ⟨_, rfl⟩
      rw [hi] at hk1 hc
      rw [hj] at hk2 hc'
      have e1 : (k : Int) % (n : Int) = (i : Int) := by rw [← hi]; exact (Int.natCast_emod k n).symm
      have e2 : ((k : Int) * 7 + 3) % (n : Int) = (j : Int) := by rw [← hj]; exact_mod_cast (Int.natCast_emod (k * 7 + 3) n).symm
      have e3 : (k : Int) / (n : Int) = (q : Int) := by rw [← hq]; exact (Int.natCast_ediv k n).symm
      clear hi hj hq
      go_enter Tryz.func48, Tryz.ntmps48
      go_wp2_with fail
      go_quiet (fail)
      have ht : 0 ≤ x * 131 + y * 1117 + (k : Int) * 29 + (q : Int) * 53 ∧ x * 131 + y * 1117 + (k : Int) * 29 + (q : Int) * 53 ≤ 1000000000 := by omega
      generalize x * 131 + y * 1117 + (k : Int) * 29 + (q : Int) * 53 = t at ht ⊢
      obtain ⟨ht1, ht2⟩ := ht
      have ht3 : 0 ≤ t / 64 ∧ t / 64 ≤ 1000000000 := by omega
      clear e1 e2 e3 hc hc'
      go_wp2_with fail
      go_ret
      exact ⟨_, rfl, Int.tmod_nonneg _ (xor_nonneg t (t / 64) (by omega) (by omega)), Int.tmod_lt_of_pos _ (by omega), _, rfl⟩

theorem l6Open_any (A : Option Addr) (n cap : Nat) (bs : List Int) (w : World) (hn : bs.length = n) (hm : n ≤ 9223372036854775807) (hc : n ≤ cap) (hr : Rd w w.heap.size A (bs.map (Value.int .u8))) :
    Calls Tryz.prog 46 #[.slice A n cap] w fun e w' => e = .returned (.pointer (some ⟨w.heap.size, 0, none⟩)) ∧ Row w' w.heap.size 113 [.slice A (min 2000 n) cap, .int .i64 0] ∧ Below w.heap.size w w' := by
  have Hn := Lib.hid hn; clear hn
  by_cases h : 2000 < n
  · have h' : (2000 : Int) < (n : Int) := by omega
    have hne : A ≠ none := by
      rintro rfl
      obtain ⟨x, hx⟩ : ∃ x, bs[0]? = some x := ⟨_, List.getElem?_eq_getElem (by rw [Hn.out]; omega)⟩
      obtain ⟨b, off, e, _⟩ := hr 0 (.int .u8 x) (by rw [List.getElem?_map, hx]; rfl)
      cases e
    obtain ⟨a, rfl⟩ := Option.ne_none_iff_exists'.1 hne
    go_enter Tryz.func46, Tryz.ntmps46
    go_wp2_with fail
    go_ret
    refine ⟨rfl, ?_, (Below.refl _ _).alloc (Nat.le_refl _) _⟩
    rw [show min 2000 n = 2000 from by omega]
    exact Row.new w _ _
  · have h' : ¬ (2000 : Int) < (n : Int) := by omega
    go_enter Tryz.func46, Tryz.ntmps46
    go_wp2_with fail
    go_ret
    refine ⟨rfl, ?_, (Below.refl _ _).alloc (Nat.le_refl _) _⟩
    rw [show min 2000 n = n from by omega]
    exact Row.new w _ _
end Go.Proofs.YtipgpafgampfbaaGreatDoor

namespace Go.Proofs.YtipgpafgampfbaaGreatDoor
open Go.RowKit

/-- Block R is a reader over bytes that lie below it. -/
structure IsRd (w : World) (R : Nat) (p : Int) : Prop where
  ex : ∃ (A : Option Addr) (n cap : Nat) (bs : List Int), bs.length = n ∧ n ≤ 2000 ∧ BytesOk bs ∧ Row w R 113 [.slice A n cap, .int .i64 p] ∧ Rd w R A (bs.map (Value.int .u8))
theorem IsRd.lt {w : World} {R : Nat} {p : Int} (h : IsRd w R p) : R < w.heap.size := by
  obtain ⟨A, n, cap, bs, _, _, _, hr, _⟩ := h.ex
  exact hr.lt
theorem IsRd.kept {w w' : World} {R : Nat} {p : Int} (h : IsRd w R p) (hb : Below w.heap.size w w') : IsRd w' R p := by
  obtain ⟨A, n, cap, bs, h1, h2, h3, hr, hd⟩ := h.ex
  exact ⟨A, n, cap, bs, h1, h2, h3, hr.kept hb, hd.below (hb.mono (Nat.le_of_lt hr.lt))⟩

theorem pick2 (R : Nat) (p m : Int) (w : World) (hp : 0 ≤ p ∧ p ≤ 1000000) (hm : 1 ≤ m ∧ m ≤ 1000000) (h : IsRd w R p) :
    Calls Tryz.prog 48 #[.pointer (some ⟨R, 0, none⟩), .int .i64 m] w fun e w' =>
      ∃ x : Int, e = .returned (.int .i64 x) ∧ 0 ≤ x ∧ x < m ∧ IsRd w' R (p + 1) ∧ w.grownBy w' (some R) := by
  obtain ⟨A, n, cap, bs, h1, h2, h3, hr, hd⟩ := h.ex
  refine (pick_any R A n cap bs p m w h1 h2 hp hm h3 hr hd).mono ?_
  rintro e w' ⟨x, rfl, hx0, hxm, k, rfl⟩
  refine ⟨x, rfl, hx0, hxm, ⟨A, n, cap, bs, h1, h2, h3, (hr.set_ 1 _).drewN k, ?_⟩, ?_⟩
  · intro i u hu
    obtain ⟨b, off, e, hb, hc⟩ := hd i u hu
    refine ⟨b, off, e, hb, ?_⟩
    have hne : b ≠ R := by omega
    have : (w.setCell ⟨R, 1, none⟩ (.int .i64 (p + 1))).cell? ⟨b, off + i, none⟩ = w.cell? ⟨b, off + i, none⟩ := World.cell?_of_block (Below.heap_setCell _ _ _ b hne)
    exact this.trans hc
  · have g := grown_set w R 1 (.int .i64 (p + 1))
    exact ⟨g.os, g.tape, g.output, g.size, g.block⟩

theorem IsRd.over {w w' : World} {R : Nat} {p : Int} {r : Option Nat} (h : IsRd w R p) (g : w.grownBy w' r) (hr : ∀ j, r = some j → R < j) : IsRd w' R p := by
  have hlt := h.lt
  obtain ⟨A, n, cap, bs, h1, h2, h3, hrow, hd⟩ := h.ex
  refine ⟨A, n, cap, bs, h1, h2, h3, hrow.grown g (fun e => absurd (hr R e.symm) (Nat.lt_irrefl _)), fun i u hu => ?_⟩
  obtain ⟨b, off, e, hb, hc⟩ := hd i u hu
  exact ⟨b, off, e, hb, (World.cell?_of_block (a := ⟨b, off + i, none⟩) (g.block b (by omega) fun e => by have := hr b e.symm; omega)).trans hc⟩
theorem grown_far {A B C : World} {r s : Option Nat} (h : A.grownBy B r) (k : B.grownBy C s) (hs : ∀ j, s = some j → A.heap.size ≤ j) : A.grownBy C r :=
  ⟨k.os.trans h.os, k.tape.trans h.tape, k.output.trans h.output, Nat.le_trans h.size k.size, fun i hi hr => (k.block i (Nat.lt_of_lt_of_le hi h.size) fun e => by have := hs i e.symm; omega).trans (h.block i hi hr)⟩
theorem isRd_open {w w' : World} {A : Option Addr} {n cap : Nat} {bs : List Int} (hn : bs.length = n) (hb : BytesOk bs) (hr : Rd w w.heap.size A (bs.map (Value.int .u8))) (hR : Row w' w.heap.size 113 [.slice A (min 2000 n) cap, .int .i64 0]) (hbel : Below w.heap.size w w') : IsRd w' w.heap.size 0 := by
  refine ⟨A, min 2000 n, cap, bs.take 2000, by rw [List.length_take, hn], by omega, fun x hx => hb x (List.mem_of_mem_take hx), hR, fun i u hu => ?_⟩
  refine hr.below hbel i u ?_
  rw [List.getElem?_map] at hu ⊢
  rw [List.getElem?_take] at hu
  split at hu
  · exact hu
  · cases hu
/-- Rd over a step that turns one block alone. -/
theorem Rd.over {w w' : World} {A : Option Addr} {xs : List Value} {R : Nat} (h : Rd w w.heap.size A xs) (g : w.grownBy w' (some R)) (hA : ∀ b off, A = some ⟨b, off, none⟩ → b ≠ R ∨ xs = []) : Rd w' w'.heap.size A xs := by
  intro i u hu
  obtain ⟨b, off, e, hb, hc⟩ := h i u hu
  refine ⟨b, off, e, Nat.lt_of_lt_of_le hb g.size, (World.cell?_of_block (a := ⟨b, off + i, none⟩) (g.block b hb ?_)).trans hc⟩
  rintro hbR
  injection hbR with hbR
  rcases hA b off e with h | h
  · exact h hbR
  · rw [h] at hu; simp at hu
/-- A reader's block holds no numbers: what reads as ints or pairs lies elsewhere. -/
theorem Rd.apart {w : World} {A : Option Addr} {xs : List Value} {R : Nat} {p : Int} (h : Rd w w.heap.size A xs) (hR : IsRd w R p) (hi : ∀ u ∈ xs, ∃ z, u = .int .i64 z) (hl : xs.length ≠ 1) : ∀ b off, A = some ⟨b, off, none⟩ → b ≠ R ∨ xs = [] := by
  intro b off e
  by_cases hbR : b = R
  · right
    subst hbR
    obtain ⟨A', n, cap, bs, _, _, _, hrow, _⟩ := hR.ex
    cases xs with
    | nil => rfl
    | cons u r =>
      cases r with
      | nil => simp at hl
      | cons v r =>
        exfalso
        obtain ⟨b1, o1, e1, _, c1⟩ := h 0 u rfl
        obtain ⟨b2, o2, e2, _, c2⟩ := h 1 v rfl
        rw [e] at e1 e2
        cases e1; cases e2
        obtain ⟨z, rfl⟩ := hi u (by simp)
        rw [hrow.cell] at c1 c2
        cases off with
        | zero => simp at c1
        | succ o =>
          cases o with
          | zero => simp at c2
          | succ o => simp at c1
  · exact .inl hbR
end Go.Proofs.YtipgpafgampfbaaGreatDoor

namespace Go.Proofs.YtipgpafgampfbaaGreatDoor
open Go.RowKit

end Go.Proofs.YtipgpafgampfbaaGreatDoor

namespace Go.Proofs.YtipgpafgampfbaaGreatDoor
open Go.RowKit

theorem part_same {α : Type} (z : α) (l : List α) (k : Nat) (hx : l[k]? = some z) : part z l k = part z l (k + 1) := by
  rw [← part_succ z l k z hx]
  have hk : k < l.length := (List.getElem?_eq_some_iff.1 hx).1
  have h := part_get z l k hk
  refine (List.ext_getElem? fun i => ?_)
  rw [List.getElem?_set]
  split
  · rename_i e; subst e; rw [h, if_pos (List.getElem?_eq_some_iff.1 h).1]
  · rfl
theorem wts_get? (c : List Bool) (k : Nat) (h : k < c.length) : (wts c)[k]? = some (if c.getD k false then 1 else 0) := by
  unfold wts
  rw [List.getElem?_map, List.getD_eq_getElem?_getD, List.getElem?_eq_getElem h]; rfl

theorem weightUniform_yes (A : Option Addr) (cap : Nat) (c : List Bool) (w : World) (hv : covV c = true) (hr : Rd w w.heap.size A (c.map Value.bool)) :
    Calls Tryz.prog 67 #[.slice A 16 cap] w fun e w' => e = .returned (.tuple #[.slice (some ⟨w.heap.size, 0, none⟩) 16 16, .bool true]) ∧ Row w' w.heap.size 3 ((wts c).map (Value.int .i64)) ∧ Below w.heap.size w w' := by
  obtain ⟨Z, hZ⟩ : ∃ Z, List.replicate 16 (Value.int .i64 0) = Z := ⟨_, rfl⟩
  have hmk : ∀ W : World, (Instr.makeSlice 32 (.int .i64 16) (.int .i64 16)).run Tryz.prog W = .ok (.slice (some ⟨W.heap.size, 0, none⟩) 16 16) (W.alloc (.cells Z.toArray 3)) := fun W => by
    rw [← hZ]; exact run_make1 (P := Tryz.prog) 32 3 (.int .i64 0) 8 Tryz.underlying32 (by kernel_rfl) rfl 16 (by omega) (by omega) W
  have hl := covV_len hv
  have hz2 : Z = (part 0 (wts c) 0).map (Value.int .i64) := by
    rw [← hZ]; unfold part; rw [wts_len, hl]; rfl
  have r0 := Row.new w 3 Z
  have Hz2 := Lib.hid hz2
  clear hZ hz2
  have Hv := Lib.hid hv
  have Hl := Lib.hid hl; clear hl
  go_enter Tryz.func67, Tryz.ntmps67
  go_wp2_with fail
  refine (coverValid_any A 16 cap c _ w.heap.size Hl.out hr).mono ?_
  rintro e w1 ⟨rfl, rfl⟩
  rw [hv]
  clear hv
  go_wp2_with fail
  clear hmk
  go_loopw [15] (fun i wr => ∃ k : Nat, k ≤ 16 ∧ i = .int .i64 k ∧ Row wr w.heap.size 3 ((part 0 (wts c) k).map (Value.int .i64)) ∧ Below w.heap.size w wr) (fun i _ => 16 - (intOf i).toNat)
  case atStart => exact ⟨0, by omega, rfl, by rw [← Hz2.out]; exact r0, (Below.refl _ _).alloc (Nat.le_refl _) _⟩
  case round =>
    clear r0
    obtain ⟨k, hk, rfl, hrow, hbel⟩ := hrel
    by_cases hlt : k < 16
    · obtain ⟨b, off, rfl, hb, hc⟩ := (hr.below hbel) k _ (bools_get (by rw [Hl.out]; exact hlt))
      have hwk := wts_get? c k (by rw [Hl.out]; exact hlt)
      have hwl := wts_len c
      rw [Hl.out] at hwl
      have hpg := part_get 0 (wts c) k (by rw [hwl]; exact hlt)
      cases hx : c.getD k false
      · rw [hx] at hc hwk
        simp only [Bool.false_eq_true, if_false] at hwk
        rw [part_same 0 _ k hwk] at hrow
        have Hwk := Lib.hid hwk; clear hwk
        have Hwl := Lib.hid hwl; clear hwl
        have Hpg := Lib.hid hpg; clear hpg
        have Hx := Lib.hid hx; clear hx
        have Hrow := Lib.hid hrow; clear hrow
        go_wp2_with fail
        go_roundw
        case measure => simp [intOf]; omega
        case rel => exact ⟨k + 1, by omega, by go_num, Hrow.out, hbel⟩
      · rw [hx] at hc hwk
        simp only [if_true] at hwk
        have ck := hrow.cell k
        rw [List.getElem?_map, hpg] at ck
        simp only [Option.map_some] at ck
        have fk := hrow.frozen k
        have r2 := hrow.set_ k (.int .i64 1)
        rw [← List.map_set, part_succ 0 _ k 1 hwk] at r2
        have Hwk := Lib.hid hwk; clear hwk
        have Hwl := Lib.hid hwl; clear hwl
        have Hpg := Lib.hid hpg; clear hpg
        have Hx := Lib.hid hx; clear hx
        have R2 := Lib.hid r2; clear r2
        clear hrow
        go_wp2_with fail
        go_roundw
        case measure => simp [intOf]; omega
        case rel => exact ⟨k + 1, by omega, by go_num, R2.out, hbel.setCell (p := ⟨w.heap.size, k, none⟩) (Nat.le_refl _) _⟩
    · obtain rfl : k = 16 := by omega
      rw [show part 0 (wts c) 16 = wts c from by have := part_all 0 (wts c); rwa [wts_len, Hl.out] at this] at hrow
      have Hrow := Lib.hid hrow
      clear hrow
      go_wp2_with fail
      refine bodyPost_ret (v := .tuple #[.slice (some ⟨w.heap.size, 0, none⟩) 16 16, .bool true]) (by simp [results, Tryz.results67, go_sem]) rfl ⟨rfl, Hrow.out, hbel⟩

theorem weightValid_any (A : Option Addr) (n cap : Nat) (s : List Int) (w : World) (hn : s.length = n) (hr : Rd w w.heap.size A (s.map (Value.int .i64))) :
    Calls Tryz.prog 109 #[.slice A n cap] w fun e w' => e = .returned (.bool (wtV s)) ∧ w = w' := by
  by_cases h : n = 16
  · subst h
    have Hn := Lib.hid hn; clear hn
    go_enter Tryz.func109, Tryz.ntmps109
    go_wp2_with fail
    go_loop [10] (fun i => ∃ k : Nat, k ≤ 16 ∧ i = .int .i64 k ∧ ∀ j, j < k → (0 ≤ s.getD j 0 ∧ s.getD j 0 ≤ 100) ∧ s.getD (oppN j) 0 = s.getD j 0) (fun i => 16 - (intOf i).toNat)
    case atStart => exact ⟨0, by omega, rfl, fun j hj => absurd hj (by omega)⟩
    case round =>
      obtain ⟨k, hk, rfl, hall⟩ := hrel
      have Hall := Lib.hid hall; clear hall
      by_cases hlt : k < 16
      · have ho := oppN_lt k
        have hoi := oppI_nat k hlt
        obtain ⟨b, off, rfl, hb, hc⟩ := hr k _ (ints_get (by rw [Hn.out]; exact hlt))
        obtain ⟨_, _, e2, hb2, hc2⟩ := hr (oppN k) _ (ints_get (by rw [Hn.out]; exact ho))
        cases e2
        have hop : ∀ w, Calls Tryz.prog 110 #[.int .i64 (k : Int)] w fun e w' => e = .returned (.int .i64 (oppN k)) ∧ w = w' := fun w => by
          have := opposite_any (k : Int) w (by omega) (by omega); rwa [hoi] at this
        have Hop := Lib.hid hop
        clear hop hoi
        generalize hxx : s.getD k 0 = x at *
        generalize hyy : s.getD (oppN k) 0 = y at *
        generalize hoo : oppN k = o at *
        have Hxx := Lib.hid hxx; clear hxx
        have Hyy := Lib.hid hyy; clear hyy
        have Hoo := Lib.hid hoo; clear hoo
        have bad : ¬ ((0 ≤ x ∧ x ≤ 100) ∧ y = x) → wtV s = false := fun hne => by
          cases hw : wtV s
          · rfl
          · have := (wtV_iff.1 hw).2 k hlt
            rw [Hoo.out, Hxx.out, Hyy.out] at this
            exact absurd this hne
        have Bad := Lib.hid bad
        clear bad
        by_cases h1 : x < 0
        · go_wp2_with fail
          go_ret
          exact ⟨ret_bool (Bad.out (by omega)).symm, rfl⟩
        · by_cases h2 : 100 < x
          · go_wp2_with fail
            go_ret
            exact ⟨ret_bool (Bad.out (by omega)).symm, rfl⟩
          · by_cases h3 : y = x
            · have hyx : (y != x) = false := by simp [h3]
              have H3 := Lib.hid h3; clear h3
              go_wp2_with fail
              refine (Hop.out _).mono ?_
              rintro e w' ⟨rfl, rfl⟩
              go_wp2_with fail
              go_round
              case measure => simp [intOf]; omega
              case rel =>
                refine ⟨k + 1, by omega, by go_num, fun j hj => ?_⟩
                by_cases hjk : j = k
                · rw [hjk, Hoo.out, Hxx.out, Hyy.out]; exact ⟨by omega, H3.out⟩
                · exact Hall.out j (by omega)
            · have hyx : (y != x) = true := by simp [h3]
              have H3 := Lib.hid h3; clear h3
              go_wp2_with fail
              refine (Hop.out _).mono ?_
              rintro e w' ⟨rfl, rfl⟩
              go_wp2_with fail
              go_ret
              exact ⟨ret_bool (Bad.out fun h => H3.out h.2).symm, rfl⟩
      · obtain rfl : k = 16 := by omega
        go_wp2_with fail
        go_ret
        exact ⟨ret_bool (wtV_iff.2 ⟨Hn.out, Hall.out⟩).symm, rfl⟩
  · have hb : ((n : Int) != 16) = true := by rw [bne_iff_ne]; omega
    go_enter Tryz.func109, Tryz.ntmps109
    go_wp2_with fail
    go_ret
    refine ⟨ret_bool ?_, rfl⟩
    unfold wtV; rw [beq_eq_false_iff_ne.2 (by omega)]; rfl

theorem weightBeam_yes (A : Option Addr) (cap : Nat) (s : List Int) (w : World) (hv : wtV s = true) (hr : Rd w w.heap.size A (s.map (Value.int .i64))) :
    Calls Tryz.prog 68 #[.slice A 16 cap] w fun e w' => ∃ v, e = .returned (.tuple #[v, .bool true]) ∧ w'.ownsRow w.heap.size 3 1 v 16 ((wbeam s).map (Value.int .i64)) ∧ Below w.heap.size w w' := by
  have hl := (wtV_iff.1 hv).1
  have hle : gLe 100 (reG s) := gLe_reG (M := 100) (by omega) fun x hx => by have := wtV_mem hv x hx; omega
  have hsv := skyV_wbeam hv
  have hgl : (reG s).length = 16 := by unfold reG; rw [List.length_map]; exact hl
  have hwl := wbeam_len s
  have Hv := Lib.hid hv
  have Hle := Lib.hid (gLe_mono hle (N := 1000000000) (by omega))
  clear hle
  have Hl := Lib.hid hl; clear hl
  have Hsv := Lib.hid hsv; clear hsv
  have Hgl := Lib.hid hgl; clear hgl
  have Hwl := Lib.hid hwl; clear hwl
  go_enter Tryz.func68, Tryz.ntmps68
  go_wp2_with fail
  refine (weightValid_any A 16 cap s _ Hl.out hr).mono ?_
  rintro e w1 ⟨rfl, rfl⟩
  rw [hv]
  clear hv
  go_wp2_with fail
  refine (realGrid_any A 16 cap s _ Hl.out (by omega) hr).mono ?_
  rintro e w1 ⟨v, rfl, o1, b1⟩
  obtain ⟨A1, c1, rfl⟩ := own_form o1
  have hr1 := Rd.of_own o1
  clear o1
  go_wp2_with fail
  refine (transform_any A1 c1 (reG s) 1 _ Hgl.out (.inl rfl) Hle.out hr1).mono ?_
  rintro e w2 ⟨rfl, r2, b2⟩
  have b2' := b1.trans (b2.mono b1.size)
  have hrt := r2.rd
  clear r2 hr1 b1 b2
  go_wp2_with fail
  refine (realParts_any _ 16 16 (trf (reG s) 1) _ (trf_len _ _) (by omega) hrt).mono ?_
  rintro e w3 ⟨v, rfl, o3, b3⟩
  have b3' := b2'.trans (b3.mono b2'.size)
  obtain ⟨A3, c3, rfl⟩ := own_form o3
  have hr3 := Rd.of_own o3
  have o3 := o3.mono b2'.size
  clear b3 b2' hrt
  have O3 := Lib.hid o3
  clear o3
  go_wp2_with fail
  refine (skyChecked_any A3 16 c3 (wbeam s) _ Hwl.out (by omega) hr3).mono ?_
  rintro e w4 ⟨rfl, rfl⟩
  rw [Hsv.out]
  simp only [okS, if_true]
  go_wp2_with fail
  refine bodyPost_ret (v := .tuple #[.slice A3 16 c3, .bool true]) (by simp [results, Tryz.results68, go_sem]) rfl ⟨_, rfl, O3.out, b3'⟩

theorem beamOf_yes (A : Option Addr) (cap : Nat) (c : List Bool) (w : World) (hv : covV c = true) (hr : Rd w w.heap.size A (c.map Value.bool)) :
    Calls Tryz.prog 31 #[.slice A 16 cap] w fun e w' => ∃ v, e = .returned (.tuple #[v, .bool true]) ∧ w'.ownsRow w.heap.size 3 1 v 16 ((beamL c).map (Value.int .i64)) ∧ Below w.heap.size w w' := by
  have Hv := Lib.hid hv
  clear hv
  go_enter Tryz.func31, Tryz.ntmps31
  go_wp2_with fail
  refine (weightUniform_yes A cap c _ Hv.out hr).mono ?_
  rintro e w1 ⟨rfl, r1, b1⟩
  have hr1 := r1.rd
  clear r1
  go_wp2_with fail
  refine (weightBeam_yes _ 16 (wts c) _ (wtV_wts Hv.out) hr1).mono ?_
  rintro e w2 ⟨v, rfl, o2, b2⟩
  rw [beamL_eq] at o2
  have O2 := Lib.hid (o2.mono b1.size)
  clear o2
  have b3 := b1.trans (b2.mono b1.size)
  go_wp2_with fail
  refine bodyPost_ret (v := .tuple #[v, .bool true]) (by simp [results, Tryz.results31, go_sem]) rfl ⟨_, rfl, O2.out, b3⟩
end Go.Proofs.YtipgpafgampfbaaGreatDoor

namespace Go.Proofs.YtipgpafgampfbaaGreatDoor
open Go.RowKit

def beamR (c : List Bool) : List Int := if covV c then beamL c else []
theorem beamR_yes {c : List Bool} (h : covV c = true) : beamR c = beamL c := by unfold beamR; rw [h]; rfl
theorem beamR_no {c : List Bool} (h : covV c = false) : beamR c = [] := by unfold beamR; rw [h]; rfl

theorem beamOf_any (A : Option Addr) (n cap : Nat) (c : List Bool) (w : World) (hn : c.length = n) (hr : Rd w w.heap.size A (c.map Value.bool)) :
    Calls Tryz.prog 31 #[.slice A n cap] w fun e w' => ∃ v, e = .returned (.tuple #[v, .bool (covV c)]) ∧ w'.ownsRow w.heap.size 3 1 v (beamR c).length ((beamR c).map (Value.int .i64)) ∧ Below w.heap.size w w' := by
  cases hv : covV c
  · rw [beamR_no hv]
    have Hv := Lib.hid hv
    have no : ∀ w, Rd w w.heap.size A (c.map Value.bool) → Calls Tryz.prog 67 #[.slice A n cap] w fun e w' => e = .returned (.tuple #[.slice none 0 0, .bool false]) ∧ w = w' := fun w hr => by
      clear hv
      go_enter Tryz.func67, Tryz.ntmps67
      go_wp2_with fail
      refine (coverValid_any A n cap c _ w.heap.size hn hr).mono ?_
      rintro e w' ⟨rfl, rfl⟩
      rw [Hv.out]
      clear hn
      go_wp2_with fail
      refine bodyPost_ret (v := .tuple #[.slice none 0 0, .bool false]) (by simp [results, Tryz.results67, go_sem]) rfl ⟨rfl, rfl⟩
    clear hv hn
    go_enter Tryz.func31, Tryz.ntmps31
    go_wp2_with fail
    refine (no _ hr).mono ?_
    rintro e w1 ⟨rfl, rfl⟩
    go_wp2_with fail
    refine bodyPost_ret (v := .tuple #[.slice none 0 0, .bool false]) (by simp [results, Tryz.results31, go_sem]) rfl ⟨_, rfl, World.ownsRow_nil _ _ _ _, Below.refl _ _⟩
  · have hl := covV_len hv
    obtain rfl : n = 16 := by omega
    rw [beamR_yes hv, beamL_len]
    exact beamOf_yes A cap c w hv hr

theorem field_re (x y : Int) (w : World) : (Instr.field 132 (.agg #[.int .i64 x, .int .i64 y]) 0).run Tryz.prog w = .ok (.int .i64 x) w := by
  simp [Instr.field, go_sem, asAgg]
theorem ph_cast (k l : Nat) : ((k : Int) % 4 * ((l : Int) % 4) + (k : Int) / 4 * ((l : Int) / 4)) = ph k l := by
  unfold ph
  push_cast
  rfl
theorem prod4 (a b : Nat) (ha : a < 16) (hb : b < 16) : (0 ≤ (a : Int) % 4 * ((b : Int) % 4) ∧ (a : Int) % 4 * ((b : Int) % 4) ≤ 9) ∧ 0 ≤ (a : Int) / 4 * ((b : Int) / 4) ∧ (a : Int) / 4 * ((b : Int) / 4) ≤ 9 := by
  have h1 : a % 4 * (b % 4) ≤ 3 * 3 := Nat.mul_le_mul (by omega) (by omega)
  have h2 : a / 4 * (b / 4) ≤ 3 * 3 := Nat.mul_le_mul (by omega) (by omega)
  have e1 : (a : Int) % 4 * ((b : Int) % 4) = ((a % 4 * (b % 4) : Nat) : Int) := by push_cast; rfl
  have e2 : (a : Int) / 4 * ((b : Int) / 4) = ((a / 4 * (b / 4) : Nat) : Int) := by push_cast; rfl
  rw [e1, e2]
  omega

set_option maxRecDepth 100000 in
set_option maxHeartbeats 2000000 in
theorem sBeamOf_any (A : Option Addr) (n cap : Nat) (c : List Bool) (w : World) (hn : c.length = n) (hr : Rd w w.heap.size A (c.map Value.bool)) :
    Calls Tryz.prog 137 #[.slice A n cap] w fun e w' => ∃ v, e = .returned (.tuple #[v, .bool (covV c)]) ∧ w'.ownsRow w.heap.size 3 1 v (beamR c).length ((beamR c).map (Value.int .i64)) ∧ Below w.heap.size w w' := by
  obtain ⟨i0, hi, hz0, hz1, hz2⟩ := info_parts intInfo
  have r0 := Row.new w 3 []
  have hr' := hr.ext (bA1 (o := .cells #[] 3))
  cases hv : covV c
  · rw [beamR_no hv]
    have Hv := Lib.hid hv
    have Hn := Lib.hid hn; clear hn
    clear hv
    go_enter Tryz.func137, Tryz.ntmps137
    go_wp2_with fail
    refine (sCoverValid_any A n cap c _ Hn.out hr').mono ?_
    rintro e w1 ⟨rfl, b1⟩
    rw [Hv.out]
    have r1 := r0.kept b1
    have b2 := (bA1 (w := w)).trans (b1.mono bA1.size)
    clear b1 r0 hr'
    go_wp2_with fail
    refine bodyPost_ret (v := .tuple #[.slice (some ⟨w.heap.size, 0, none⟩) 0 0, .bool false]) (by simp [results, Tryz.results137, go_sem]) rfl ⟨_, rfl, r1.own (Nat.le_refl _) rfl (by decide), b2⟩
  · have hl := covV_len hv
    obtain rfl : n = 16 := by omega
    rw [beamR_yes hv, beamL_len]
    have Hv := Lib.hid hv
    have Hn := Lib.hid hn; clear hn
    have Hl := Lib.hid hl; clear hl
    clear hv
    go_enter Tryz.func137, Tryz.ntmps137
    go_wp2_with fail
    refine (sCoverValid_any A 16 cap c _ Hn.out hr').mono ?_
    rintro e w1 ⟨rfl, b1⟩
    rw [Hv.out]
    have r1 := r0.kept b1
    have b2 := (bA1 (w := w)).trans (b1.mono bA1.size)
    have o1 := r1.own (base := w.heap.size) (n := 0) (size := 1) (Nat.le_refl _) rfl (by decide)
    clear b1 r0 hr'
    go_wp2_with fail
    go_loopw [4, 5] (fun v i wr => ∃ k : Nat, k ≤ 16 ∧ i = .int .i64 k ∧ wr.ownsRow w.heap.size 3 1 v k (((beamL c).take k).map (Value.int .i64)) ∧ Below w.heap.size w wr) (fun _ i _ => 16 - (intOf i).toNat)
    case atStart => exact ⟨0, by omega, rfl, o1, b2⟩
    case round =>
      clear o1 b2 r1
      obtain ⟨k, hk, rfl, hrow, hbel⟩ := hrel
      have hr2 := (hr.below hbel)
      by_cases hlt : k < 16
      · have hk16 : (k : Int) < 16 := by omega
        go_wp2_with fail
        refine (l21Cells_any _).mono ?_
        rintro e w' ⟨rfl, rfl⟩
        go_wp2_with fail
        go_loopw [6, 7] (fun m i wr2 => ∃ l : Nat, l ≤ 16 ∧ i = .int .i64 l ∧ m = .int .i64 (beamSum c k l) ∧ wr2.ownsRow w.heap.size 3 1 u4 k (((beamL c).take k).map (Value.int .i64)) ∧ Below w.heap.size w wr2) (fun _ i _ => 16 - (intOf i).toNat)
        case atStart => exact ⟨0, by omega, rfl, rfl, hrow, hbel⟩
        case round =>
          clear hrow hbel hr2
          obtain ⟨l, hll, rfl, rfl, hrow, hbel⟩ := hrel
          have hr2 := (hr.below hbel)
          have hbs := hbel.size
          have Hrow := Lib.hid hrow; clear hrow
          have Hbel := Lib.hid hbel; clear hbel
          have hbd := beamSum_bd c k l
          by_cases hlt2 : l < 16
          · have hl16 : (l : Int) < 16 := by omega
            go_wp2_with fail
            refine (l21Cells_any _).mono ?_
            rintro e w' ⟨rfl, rfl⟩
            obtain ⟨b, off, rfl, hb, hc⟩ := hr2 l _ (bools_get (by rw [Hn.out]; exact hlt2))
            have hs := beamSum_succ c k l
            unfold beamTerm at hs
            generalize beamSum c k l = m at *
            cases hx : c.getD l false
            · rw [hx] at hc hs
              simp only [Bool.false_eq_true, if_false, Int.add_zero] at hs
              have Hx := Lib.hid hx; clear hx
              have Hs := Lib.hid hs; clear hs
              go_wp2_with fail
              go_roundw
              case measure => simp [intOf]; omega
              case rel => exact ⟨l + 1, by omega, by go_num, by rw [Hs.out], Hrow.out, Hbel.out⟩
            · rw [hx] at hc hs
              simp only [if_true] at hs
              have hp := prod4 k l hlt hlt2
              have hpc := ph_cast k l
              have hub := unit_bd (ph k l)
              unfold GB at hub
              obtain ⟨⟨ua, ub⟩, uc, ud⟩ := hub
              generalize hux : (unit (ph k l)).1 = ux at *
              generalize huy : (unit (ph k l)).2 = uy at *
              have Hx := Lib.hid hx; clear hx
              have Hs := Lib.hid hs; clear hs
              have Hpc := Lib.hid hpc; clear hpc
              have Hux := Lib.hid hux; clear hux
              have Huy := Lib.hid huy; clear huy
              go_wp2_with fail
              refine (sGaussUnit_any _ _).mono ?_
              rw [Hpc.out, Hux.out, Huy.out]
              rintro e w3 ⟨rfl, b3⟩
              have Hrow := Lib.hid (own_ext Hrow.out b3)
              have Hbel := Lib.hid (Hbel.out.trans (b3.mono hbs))
              clear b3
              have hfl := fun w => field_re ux uy w
              go_wp2_with fail
              go_roundw
              case measure => simp [intOf]; omega
              case rel => exact ⟨l + 1, by omega, by go_num, by rw [Hs.out], Hrow.out, Hbel.out⟩
          · obtain rfl : l = 16 := by omega
            go_wp2_with fail
            refine (l21Cells_any _).mono ?_
            rintro e w' ⟨rfl, rfl⟩
            have hts := take_succ_getD (l := beamL c) (d := 0) (k := k) (by rw [beamL_len]; exact hlt)
            rw [beamL_get c k hlt] at hts
            generalize beamSum c k 16 = m at *
            have Hts := Lib.hid hts; clear hts
            go_wp2_with (at_builtin; refine wpList_append_own _ rfl _ _ 32 rfl w.heap.size 3 i0 (.int .i64 0) 1 8 (by kernel_rfl) hi hz0 hz1 hz2 rfl (by decide) _ k _ rfl (Hrow.out.alloc _) ⟨wr.heap.size, 0, none⟩ 1 1 [.int .i64 (m)] rfl rfl (cell_one_new _ _ _) (by simp [Value.oneCell']) (by unfold maxLen; omega) (by omega) (by simp; omega) ?_; intro v' w7 hown' hgrow _; obtain ⟨g', cap', rfl⟩ := ownsRow_succ hown')
            have hb7 := (Hbel.out.alloc hbs _).grown hgrow (by simp; omega) fun j hj => (own_lt Hrow.out hj).1
            have Hb7 := Lib.hid hb7; clear hb7
            have Hown' := Lib.hid hown'; clear hown'
            clear hgrow
            go_wp2_with fail
            go_roundw
            case measure => simp [intOf]; omega
            case rel =>
              refine ⟨k + 1, by omega, by go_num, ?_, Hb7.out⟩
              rw [Hts.out, List.map_append]
              exact Hown'.out
      · go_wp2_with fail
        refine (l21Cells_any _).mono ?_
        rintro e w' ⟨rfl, rfl⟩
        obtain rfl : k = 16 := by omega
        rw [List.take_of_length_le (by rw [beamL_len]; exact Nat.le_refl _)] at hrow
        have Hrow := Lib.hid hrow; clear hrow
        go_wp2_with fail
        refine bodyPost_ret (v := .tuple #[u4, .bool true]) (by simp [results, Tryz.results137, go_sem]) rfl ⟨_, rfl, Hrow.out, hbel⟩
end Go.Proofs.YtipgpafgampfbaaGreatDoor

namespace Go.Proofs.YtipgpafgampfbaaGreatDoor
open Go.RowKit

end Go.Proofs.YtipgpafgampfbaaGreatDoor

namespace Go.Proofs.YtipgpafgampfbaaGreatDoor
open Go.RowKit

theorem zeroG16 (L : List (Int × Int)) (hl : L.length = 16) : List.replicate (16 * 2) (Value.int .i64 0) = (part (0, 0) L 0).flatMap pairCells := by
  unfold part; rw [hl]; rfl

set_option maxRecDepth 100000 in
set_option maxHeartbeats 1000000 in
theorem masked_any (A B : Option Addr) (ca cb : Nat) (g : List (Int × Int)) (c : List Bool) (w : World) (hg : g.length = 16) (hc : c.length = 16) (hr : Rd w w.heap.size A (g.flatMap pairCells)) (hr2 : Rd w w.heap.size B (c.map Value.bool)) :
    Calls Tryz.prog 74 #[.slice A 16 ca, .slice B 16 cb] w fun e w' => e = .returned (.slice (some ⟨w.heap.size, 0, none⟩) 16 16) ∧ Row w' w.heap.size 132 ((maskG g c).flatMap pairCells) ∧ Below w.heap.size w w' := by
  obtain ⟨Z, hZ⟩ : ∃ Z, List.replicate (16 * 2) (Value.int .i64 0) = Z := ⟨_, rfl⟩
  have hmk : ∀ W : World, (Instr.makeSlice 97 (.int .i64 16) (.int .i64 16)).run Tryz.prog W = .ok (.slice (some ⟨W.heap.size, 0, none⟩) 16 16) (W.alloc (.cells Z.toArray 132)) := fun W => by
    rw [← hZ]; exact run_make2 (P := Tryz.prog) 97 132 (.int .i64 0) (.agg #[.int .i64 0, .int .i64 0]) 16 Tryz.underlying97 (by kernel_rfl) rfl 16 (by omega) (by omega) W
  have hz2 := hZ.symm.trans (zeroG16 (maskG g c) (maskG_len g c))
  have r0 := Row.new w 132 Z
  have Hz2 := Lib.hid hz2
  clear hZ hz2
  have Hg := Lib.hid hg; clear hg
  have Hc := Lib.hid hc; clear hc
  go_enter Tryz.func74, Tryz.ntmps74
  go_wp2_with fail
  clear hmk
  go_loopw [13] (fun i wr => ∃ k : Nat, k ≤ 16 ∧ i = .int .i64 k ∧ Row wr w.heap.size 132 ((part (0, 0) (maskG g c) k).flatMap pairCells) ∧ Below w.heap.size w wr) (fun i _ => 16 - (intOf i).toNat)
  case atStart => exact ⟨0, by omega, rfl, by rw [← Hz2.out]; exact r0, (Below.refl _ _).alloc (Nat.le_refl _) _⟩
  case round =>
    clear r0
    obtain ⟨k, hk, rfl, hrow, hbel⟩ := hrel
    by_cases hlt : k < 16
    · have hk16 : (k : Int) < 16 := by omega
      obtain ⟨b, off, rfl, hb, hcc⟩ := (hr2.below hbel) k _ (bools_get (by rw [Hc.out]; exact hlt))
      obtain ⟨b', off', rfl, hb', hg1, hg2⟩ := rd_pair (hr.below hbel) (getD_of (gs := g) (k := k) (by rw [Hg.out]; exact hlt))
      have hm? := getD_of (gs := maskG g c) (k := k) (by rw [maskG_len]; exact hlt)
      rw [maskG_get g c k hlt] at hm?
      have hpl := part_len (0, 0) (maskG g c) k (by rw [maskG_len]; exact hk)
      rw [maskG_len] at hpl
      cases hx : c.getD k false
      · rw [hx] at hcc hm?
        simp only [Bool.false_eq_true, if_false] at hm?
        rw [part_same (0, 0) _ k hm?] at hrow
        have Hm? := Lib.hid hm?; clear hm?
        have Hpl := Lib.hid hpl; clear hpl
        have Hx := Lib.hid hx; clear hx
        have Hrow := Lib.hid hrow; clear hrow
        go_wp2_with fail
        go_roundw
        case measure => simp [intOf]; omega
        case rel => exact ⟨k + 1, by omega, by go_num, Hrow.out, hbel⟩
      · rw [hx] at hcc hm?
        simp only [if_true] at hm?
        have hpg := part_get (0, 0) (maskG g c) k (by rw [maskG_len]; exact hlt)
        have hps := part_succ (0, 0) (maskG g c) k _ hm?
        generalize g.getD k (0, 0) = gz at *
        generalize part (0, 0) (maskG g c) k = Pk at *
        have c0 := hrow.cell (k * 2)
        have c1 := hrow.cell (k * 2 + 1)
        rw [(pairCells_get Pk k (0, 0) hpg).1] at c0
        rw [(pairCells_get Pk k (0, 0) hpg).2] at c1
        have f0 := hrow.frozen (k * 2)
        have f1 := hrow.frozen (k * 2 + 1)
        have r2 := (hrow.set_ (k * 2) (.int .i64 gz.1)).set_ (k * 2 + 1) (.int .i64 gz.2)
        rw [pairs_set Pk k gz (by rw [hpl]; omega), hps] at r2
        have B2 := (hbel.setCell (p := ⟨w.heap.size, k * 2, none⟩) (Nat.le_refl _) (.int .i64 gz.1)).setCell (p := ⟨w.heap.size, k * 2 + 1, none⟩) (Nat.le_refl _) (.int .i64 gz.2)
        have Hm? := Lib.hid hm?; clear hm?
        have Hpl := Lib.hid hpl; clear hpl
        have Hx := Lib.hid hx; clear hx
        have Hpg := Lib.hid hpg; clear hpg
        have Hps := Lib.hid hps; clear hps
        have R2 := Lib.hid r2; clear r2
        have hidX := Lib.hid B2; clear B2; have B2 := hidX; clear hidX
        clear hrow hbel
        go_wp2_with fail
        go_roundw
        case measure => simp [intOf]; omega
        case rel => exact ⟨k + 1, by omega, by go_num, R2.out, B2.out⟩
    · obtain rfl : k = 16 := by omega
      rw [show part (0, 0) (maskG g c) 16 = maskG g c from by have := part_all (0, 0) (maskG g c); rwa [maskG_len] at this] at hrow
      have Hrow := Lib.hid hrow; clear hrow
      go_wp2_with fail
      go_ret
      exact ⟨rfl, Hrow.out, hbel⟩

theorem gLe_mask {M : Int} {g : List (Int × Int)} (hM : 0 ≤ M) (h : gLe M g) (c : List Bool) : gLe M (maskG g c) := fun x hx => by
  unfold maskG at hx
  obtain ⟨k, _, rfl⟩ := List.mem_map.1 hx
  split
  · exact gLe_get h hM k
  · dsimp only; omega
theorem gLe_skyT {s : List Int} (h : skyV s = true) : gLe 1600000 (skyT s) := trf_le (gLe_reG (M := 100000) (by omega) (skyV_iff.1 h).2) (by omega) 1

def dirtyR (s : List Int) (c : List Bool) : Option (List Int) := if (skyV s && covV c) = true ∧ skyV (dirtyL s c) = true then some (dirtyL s c) else none
theorem dirtyR_eq {s : List Int} {c : List Bool} (h1 : skyV s = true) (h2 : covV c = true) : dirtyR s c = if skyV (dirtyL s c) then some (dirtyL s c) else none := by
  unfold dirtyR
  cases hc : skyV (dirtyL s c)
  · rw [if_neg (by rintro ⟨_, h⟩; cases h)]; rfl
  · rw [if_pos ⟨by rw [h1, h2]; rfl, rfl⟩]; rfl
/-- What 'skyChecked' hands on of an own row. -/
theorem okS_own2 {w : World} {base : Nat} {A : Option Addr} {c : Nat} {s : List Int} (h : w.ownsRow base 3 1 (.slice A 16 c) 16 (s.map (Value.int .i64))) (ok : Bool) :
    w.ownsRow base 3 1 (okS ok (.slice A 16 c)) (if ok then 16 else 0) ((if ok then s else []).map (Value.int .i64)) := by
  cases ok
  · exact World.ownsRow_nil _ _ _ _
  · exact h
set_option maxHeartbeats 1000000 in
theorem dirtyOf_any (A B : Option Addr) (na nb ca cb : Nat) (s : List Int) (c : List Bool) (w : World) (hs : s.length = na) (hc : c.length = nb) (hna : na ≤ 1000)
    (hr : Rd w w.heap.size A (s.map (Value.int .i64))) (hr2 : Rd w w.heap.size B (c.map Value.bool)) :
    Calls Tryz.prog 34 #[.slice A na ca, .slice B nb cb] w fun e w' => ∃ v, e = .returned (.tuple #[v, .bool (dirtyR s c).isSome]) ∧ w'.ownsRow w.heap.size 3 1 v ((dirtyR s c).getD []).length (((dirtyR s c).getD []).map (Value.int .i64)) ∧ Below w.heap.size w w' := by
  have Hs := Lib.hid hs; clear hs
  have Hc := Lib.hid hc; clear hc
  cases h1 : skyV s
  · have hR : dirtyR s c = none := by unfold dirtyR; rw [h1]; rfl
    rw [hR]
    have H1 := Lib.hid h1; clear h1
    clear hR
    go_enter Tryz.func34, Tryz.ntmps34
    go_wp2_with fail
    refine (skyValid_any A na ca s _ Hs.out (by omega) hr).mono ?_
    rintro e w1 ⟨rfl, rfl⟩
    rw [H1.out]
    go_wp2_with fail
    refine bodyPost_ret (v := .tuple #[.slice none 0 0, .bool false]) (by simp [results, Tryz.results34, go_sem]) rfl ⟨_, rfl, World.ownsRow_nil _ _ _ _, Below.refl _ _⟩
  · cases h2 : covV c
    · have hR : dirtyR s c = none := by unfold dirtyR; rw [h1, h2]; rfl
      rw [hR]
      have H1 := Lib.hid h1; clear h1
      have H2 := Lib.hid h2; clear h2
      clear hR
      go_enter Tryz.func34, Tryz.ntmps34
      go_wp2_with fail
      refine (skyValid_any A na ca s _ Hs.out (by omega) hr).mono ?_
      rintro e w1 ⟨rfl, rfl⟩
      rw [H1.out]
      go_wp2_with fail
      refine (coverValid_any B nb cb c _ w.heap.size Hc.out hr2).mono ?_
      rintro e w1 ⟨rfl, rfl⟩
      rw [H2.out]
      go_wp2_with fail
      refine bodyPost_ret (v := .tuple #[.slice none 0 0, .bool false]) (by simp [results, Tryz.results34, go_sem]) rfl ⟨_, rfl, World.ownsRow_nil _ _ _ _, Below.refl _ _⟩
    · obtain rfl : na = 16 := by rw [← Hs.out]; exact skyV_len h1
      obtain rfl : nb = 16 := by rw [← Hc.out]; exact covV_len h2
      have hR := dirtyR_eq h1 h2
      have hle := gLe_skyT h1
      have hle0 := gLe_mono (gLe_reG (M := 100000) (by omega) (skyV_iff.1 h1).2) (N := 1000000000) (by omega)
      have hrl : (reG s).length = 16 := by unfold reG; rw [List.length_map]; exact Hs.out
      have hle2 := gLe_mono (gLe_mask (by omega) hle c) (N := 1000000000) (by omega)
      have H1 := Lib.hid h1; clear h1
      have H2 := Lib.hid h2; clear h2
      have HR := Lib.hid hR; clear hR
      have Hle := Lib.hid hle; clear hle
      have Hle0 := Lib.hid hle0; clear hle0
      have Hrl := Lib.hid hrl; clear hrl
      have Hle2 := Lib.hid hle2; clear hle2
      go_enter Tryz.func34, Tryz.ntmps34
      go_wp2_with fail
      refine (skyValid_any A 16 ca s _ Hs.out (by omega) hr).mono ?_
      rintro e w1 ⟨rfl, rfl⟩
      rw [H1.out]
      go_wp2_with fail
      refine (coverValid_any B 16 cb c _ w.heap.size Hc.out hr2).mono ?_
      rintro e w1 ⟨rfl, rfl⟩
      rw [H2.out]
      go_wp2_with fail
      refine (realGrid_any A 16 ca s _ Hs.out (by omega) hr).mono ?_
      rintro e w1 ⟨v, rfl, o1, b1⟩
      obtain ⟨A1, c1, rfl⟩ := own_form o1
      have hr1 := Rd.of_own o1
      have extX := (hr2.below b1).more b1.size; clear hr2; have hr2 := extX; clear extX
      clear o1
      go_wp2_with fail
      refine (transform_any A1 c1 (reG s) 1 _ Hrl.out (.inl rfl) Hle0.out hr1).mono ?_
      rintro e w2 ⟨rfl, r2, b2⟩
      have hrt := r2.rd
      have b12 := b1.trans (b2.mono b1.size)
      have extX := (hr2.below b2).more b2.size; clear hr2; have hr2 := extX; clear extX
      clear r2 hr1 b1 b2
      go_wp2_with fail
      refine (masked_any _ B 16 cb (skyT s) c _ (skyT_len s) Hc.out hrt hr2).mono ?_
      rintro e w3 ⟨rfl, r3, b3⟩
      have hrm := r3.rd
      have b13 := b12.trans (b3.mono b12.size)
      clear r3 hrt hr2 b3 b12
      go_wp2_with fail
      refine (transform_any _ 16 (maskG (skyT s) c) (-1) _ (maskG_len _ _) (.inr rfl) Hle2.out hrm).mono ?_
      rintro e w4 ⟨rfl, r4, b4⟩
      have hrt := r4.rd
      have b14 := b13.trans (b4.mono b13.size)
      clear r4 hrm b4 b13
      go_wp2_with fail
      refine (realParts_any _ 16 16 (trf (maskG (skyT s) c) (-1)) _ (trf_len _ _) (by omega) hrt).mono ?_
      rintro e w5 ⟨v, rfl, o5, b5⟩
      have b15 := b14.trans (b5.mono b14.size)
      obtain ⟨A5, c5, rfl⟩ := own_form o5
      have hr5 := Rd.of_own o5
      have o5 := o5.mono b14.size
      clear b5 b14 hrt
      have O5 := Lib.hid (show w5.ownsRow w.heap.size 3 1 (.slice A5 16 c5) 16 ((dirtyL s c).map (Value.int .i64)) from o5)
      clear o5
      go_wp2_with fail
      refine (skyChecked_any A5 16 c5 (dirtyL s c) _ (dirtyL_len _ _) (by omega) hr5).mono ?_
      rintro e w6 ⟨rfl, rfl⟩
      have r2' := okS_own2 O5.out (skyV (dirtyL s c))
      have hR2 : (dirtyR s c).isSome = skyV (dirtyL s c) := by rw [HR.out]; cases skyV (dirtyL s c) <;> rfl
      have hR3 : (dirtyR s c).getD [] = if skyV (dirtyL s c) then dirtyL s c else [] := by rw [HR.out]; cases skyV (dirtyL s c) <;> rfl
      have hR4 : ((dirtyR s c).getD []).length = if skyV (dirtyL s c) then 16 else 0 := by rw [hR3]; cases skyV (dirtyL s c) <;> simp [dirtyL_len]
      have R2' := Lib.hid r2'; clear r2'
      have HR2 := Lib.hid hR2; clear hR2
      have HR3 := Lib.hid hR3; clear hR3
      have HR4 := Lib.hid hR4; clear hR4
      clear hr5
      go_wp2_with fail
      refine bodyPost_ret (by simp [results, Tryz.results34, go_sem]; rfl) rfl ⟨_, by rw [HR2.out], ?_, b15⟩
      rw [HR4.out, HR3.out]
      exact R2'.out

end Go.Proofs.YtipgpafgampfbaaGreatDoor
