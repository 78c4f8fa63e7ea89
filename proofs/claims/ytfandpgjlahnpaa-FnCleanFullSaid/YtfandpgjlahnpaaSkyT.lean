/- 'spec.SkyTransform'. -/
import Derived.Test.YtfandpgjlahnpaaDirtyS
namespace Go.Proofs.Ytfandpgjlahnpaa
open Go.RowKit

def skyTR (s : List Int) : List (Int × Int) := if skyV s then skyT s else []
theorem skyTR_no {s : List Int} (h : skyV s = false) : skyTR s = [] := by unfold skyTR; rw [h]; rfl
theorem skyTR_yes {s : List Int} (h : skyV s = true) : skyTR s = skyT s := by unfold skyTR; rw [h]; rfl
theorem ph_uv (u v k : Nat) (hu : u < 4) : ((u : Int) * ((k : Int) % 4) + (v : Int) * ((k : Int) / 4)) = ph (v * 4 + u) k := by
  unfold ph
  have h1 : (v * 4 + u) % 4 = u := by omega
  have h2 : (v * 4 + u) / 4 = v := by omega
  rw [h1, h2]
  push_cast
  rfl
theorem skyP_unit (s : List Int) (t n : Nat) : skyP s t (n + 1) = ((skyP s t n).1 + s.getD n 0 * (unit (ph t n)).1, (skyP s t n).2 + s.getD n 0 * (unit (ph t n)).2) := skyP_succ s t n
theorem prodUV (u b : Nat) (ha : u < 4) (hb : b < 16) : (0 ≤ (u : Int) * ((b : Int) % 4) ∧ (u : Int) * ((b : Int) % 4) ≤ 9) ∧ 0 ≤ (u : Int) * ((b : Int) / 4) ∧ (u : Int) * ((b : Int) / 4) ≤ 9 := by
  have h1 : u * (b % 4) ≤ 3 * 3 := Nat.mul_le_mul (by omega) (by omega)
  have h2 : u * (b / 4) ≤ 3 * 3 := Nat.mul_le_mul (by omega) (by omega)
  have e1 : (u : Int) * ((b : Int) % 4) = ((u * (b % 4) : Nat) : Int) := by push_cast; rfl
  have e2 : (u : Int) * ((b : Int) / 4) = ((u * (b / 4) : Nat) : Int) := by push_cast; rfl
  rw [e1, e2]
  omega

set_option maxRecDepth 100000 in
set_option maxHeartbeats 2000000 in
theorem sSkyTransform_any (A : Option Addr) (n cap : Nat) (s : List Int) (w : World) (hn : s.length = n) (hm : n ≤ 1000000000) (hr : Rd w w.heap.size A (s.map (Value.int .i64))) :
    Calls Try.prog 107 #[.slice A n cap] w fun e w' => ∃ v, e = .returned (.tuple #[v, .bool (skyV s)]) ∧ w'.ownsRow w.heap.size 31 2 v (skyTR s).length ((skyTR s).flatMap pairCells) ∧ Below w.heap.size w w' := by
  obtain ⟨i1, hj, hy0, hy1, hy2⟩ := info_parts gaussInfo
  have r0 := Row.new w 31 []
  have hr' := hr.ext (bA1 (o := .cells #[] 31))
  cases hv : skyV s
  · rw [skyTR_no hv]
    have Hv := Lib.hid hv
    have Hn := Lib.hid hn; clear hn
    clear hv
    go_enter Try.func107, Try.ntmps107
    go_wp2_with fail
    refine (sSkyValid_any A n cap s _ Hn.out hm hr').mono ?_
    rintro e w1 ⟨rfl, rfl⟩
    rw [Hv.out]
    go_wp2_with fail
    refine bodyPost_ret (v := .tuple #[.slice (some ⟨w.heap.size, 0, none⟩) 0 0, .bool false]) (by simp [results, Try.results107, go_sem]) rfl ⟨_, rfl, r0.own (Nat.le_refl _) rfl (by decide), bA1⟩
  · have hl := skyV_len hv
    obtain rfl : n = 16 := by omega
    rw [skyTR_yes hv, skyT_len]
    have hile := iLe_sky hv
    have Hv := Lib.hid hv
    have Hn := Lib.hid hn; clear hn
    have Hl := Lib.hid hl; clear hl
    have Hile := Lib.hid hile; clear hile
    clear hv
    go_enter Try.func107, Try.ntmps107
    go_wp2_with fail
    refine (sSkyValid_any A 16 cap s _ Hn.out (by omega) hr').mono ?_
    rintro e w1 ⟨rfl, rfl⟩
    rw [Hv.out]
    have o1 := r0.own (base := w.heap.size) (n := 0) (size := 2) (Nat.le_refl _) rfl (by decide)
    have b2 := bA1 (w := w) (o := .cells #[] 31)
    clear r0 hr'
    go_wp2_with fail
    go_loopw [4, 5] (fun x i wr => ∃ v : Nat, v ≤ 4 ∧ i = .int .i64 v ∧ wr.ownsRow w.heap.size 31 2 x (v * 4) (((skyT s).take (v * 4)).flatMap pairCells) ∧ Below w.heap.size w wr) (fun _ i _ => 4 - (intOf i).toNat)
    case atStart => exact ⟨0, by omega, rfl, o1, b2⟩
    case round =>
      clear o1 b2
      obtain ⟨v, hv, rfl, hrow, hbel⟩ := hrel
      by_cases hlt : v < 4
      · have hv4 : (v : Int) < 4 := by omega
        go_wp2_with fail
        go_loopw [4, 6] (fun x i wr => ∃ u : Nat, u ≤ 4 ∧ i = .int .i64 u ∧ wr.ownsRow w.heap.size 31 2 x (v * 4 + u) (((skyT s).take (v * 4 + u)).flatMap pairCells) ∧ Below w.heap.size w wr) (fun _ i _ => 4 - (intOf i).toNat)
        case atStart => exact ⟨0, by omega, rfl, hrow, hbel⟩
        case round =>
          clear hrow hbel
          obtain ⟨u, hu, rfl, hrow, hbel⟩ := hrel
          by_cases hlt2 : u < 4
          · have hu4 : (u : Int) < 4 := by omega
            have hbs := hbel.size
            obtain ⟨G, hG⟩ : ∃ G, wr.heap.size = G := ⟨_, rfl⟩
            have rs := Row.new wr 31 [.int .i64 0, .int .i64 0]
            have hrow1 := own_ext hrow (bA1 (w := wr) (o := .cells #[.int .i64 0, .int .i64 0] 31))
            have hbel1 := hbel.alloc hbs (.cells #[.int .i64 0, .int .i64 0] 31)
            have hap : ∀ j, u4.ownBlock = some j → some G ≠ some j := fun j hj e => by
              have := (own_lt hrow hj).2.1
              injection e with e; omega
            have hGb : w.heap.size ≤ G := by rw [← hG]; exact hbs
            have Hap := Lib.hid hap
            clear hap
            obtain ⟨t, ht⟩ : ∃ t, v * 4 + u = t := ⟨_, rfl⟩
            have ht16 : t < 16 := by omega
            have hph := fun k => ph_uv u v k hlt2
            have hab := skyP_all s t ht16
            rw [ht] at hrow1
            rw [ht] at hph
            rw [hG] at rs hbs
            have Hrow1 := Lib.hid hrow1; clear hrow1
            have Hbel1 := Lib.hid hbel1; clear hbel1
            have Hph := Lib.hid hph; clear hph
            have Hab := Lib.hid hab; clear hab
            clear hrow hbel
            go_wp2_with fail
            have HG := Lib.hid hG; clear hG
            go_loopw [8] (fun i wr2 => ∃ k : Nat, k ≤ 16 ∧ i = .int .i64 k ∧ Row wr2 G 31 [.int .i64 (skyP s t k).1, .int .i64 (skyP s t k).2] ∧ wr2.ownsRow w.heap.size 31 2 u4 t (((skyT s).take t).flatMap pairCells) ∧ Below w.heap.size w wr2) (fun i _ => 16 - (intOf i).toNat)
            case atStart => exact ⟨0, by omega, rfl, rs, Hrow1.out, Hbel1.out⟩
            case round =>
              clear rs Hrow1 Hbel1
              obtain ⟨k, hk, rfl, rs, hrow, hbel⟩ := hrel
              have hbs2 := hbel.size
              have hr2 := (hr.below hbel)
              have Hrow := Lib.hid hrow; clear hrow
              have Hbel := Lib.hid hbel; clear hbel
              by_cases hlt3 : k < 16
              · have hk16 : (k : Int) < 16 := by omega
                go_wp2_with fail
                refine (l21Cells_any _).mono ?_
                rintro e w' ⟨rfl, rfl⟩
                obtain ⟨b, off, rfl, hb, hc⟩ := hr2 k _ (ints_get (by rw [Hn.out]; exact hlt3))
                have hs := skyP_unit s t k
                have hbd := skyP_bd Hile.out t k
                have hx := Hile.out k
                have hp := prodUV u k hlt2 hlt3
                have hp2 := prodUV v k hlt hlt3
                have hpc := Hph.out k
                generalize skyP s t k = P at *
                generalize s.getD k 0 = x at *
                have Hs := Lib.hid hs; clear hs
                have Hpc := Lib.hid hpc; clear hpc
                go_wp2_with fail
                refine (l21Term_any x _ _ (by omega)).mono ?_
                rw [Hpc.out]
                rintro e w3 ⟨rfl, b3⟩
                have r3 := rs.kept b3
                have Hrow := Lib.hid (own_ext Hrow.out b3)
                have Hbel := Lib.hid (Hbel.out.trans (b3.mono hbs2))
                have hu1 := unit_1 (ph t k)
                have m1 := mul_bd x (unit (ph t k)).1 100000 1 hx hu1.1
                have m2 := mul_bd x (unit (ph t k)).2 100000 1 hx hu1.2
                simp only [Int.reduceNeg, Int.mul_one] at m1 m2
                generalize hp1 : x * (unit (ph t k)).1 = p at *
                generalize hq1 : x * (unit (ph t k)).2 = q at *
                obtain ⟨c0, c1, f0, f1⟩ := r3.two
                have hlt4 := r3.lt
                have hne : G ≠ w3.heap.size := by omega
                have hB3 := Hbel.out.size
                have Hp1 := Lib.hid hp1; clear hp1
                have Hq1 := Lib.hid hq1; clear hq1
                clear b3 rs hc
                go_wp2_with fail
                have r4 := ((r3.set_ 0 (.int .i64 (P.1 + p))).set_ 1 (.int .i64 (P.2 + q))).alloc (.cells #[.int .i64 p, .int .i64 q] 31)
                have hg2 := grown_trans (grown_set w3 G 0 (.int .i64 (P.1 + p))) (grown_set _ G 1 (.int .i64 (P.2 + q)))
                have o4 := (own_over Hrow.out hg2 Hap.out).alloc (.cells #[.int .i64 p, .int .i64 q] 31)
                have b4 := (set2 Hbel.out hGb (u := .int .i64 (P.1 + p)) (v := .int .i64 (P.2 + q)))
                have b4 := b4.alloc b4.size (.cells #[.int .i64 p, .int .i64 q] 31)
                go_roundw
                case measure => simp [intOf]; omega
                case rel =>
                  refine ⟨k + 1, by omega, by go_num, ?_, o4, b4⟩
                  rw [Hs.out]
                  exact r4
              · obtain rfl : k = 16 := by omega
                go_wp2_with fail
                refine (l21Cells_any _).mono ?_
                rintro e w' ⟨rfl, rfl⟩
                rw [Hab.out] at rs
                have hts := take_succ_getD (l := skyT s) (d := (0, 0)) (k := t) (by rw [skyT_len]; exact ht16)
                generalize (skyT s).getD t (0, 0) = P at *
                obtain ⟨c0, c1, f0, f1⟩ := rs.two
                have hlt4 := rs.lt
                have Hts := Lib.hid hts; clear hts
                go_wp2_with (at_builtin; refine wpList_append_own _ rfl _ _ 55 rfl w.heap.size 31 i1 (.agg #[.int .i64 0, .int .i64 0]) 2 16 (by kernel_rfl) hj hy0 hy1 hy2 rfl (by decide) _ t _ rfl (Hrow.out.alloc _) ⟨wr.heap.size, 0, none⟩ 1 1 [.int .i64 (P.1), .int .i64 (P.2)] rfl rfl (cell_two_new _ _ _ _) (by simp [Value.oneCell']) (by unfold maxLen; omega) (by omega) (by simp; omega) ?_; intro v' w7 hown' hgrow _; obtain ⟨g', cap', rfl⟩ := ownsRow_succ hown')
                have hb7 := (Hbel.out.alloc hbs2 _).grown hgrow (by simp; omega) fun j hj => (own_lt Hrow.out hj).1
                have Hb7 := Lib.hid hb7; clear hb7
                have Hown' := Lib.hid hown'; clear hown'
                clear hgrow
                go_wp2_with fail
                go_roundw
                case measure => simp [intOf]; omega
                case rel =>
                  refine ⟨u + 1, by omega, by go_num, ?_, Hb7.out⟩
                  rw [← Nat.add_assoc, ht, Hts.out, List.flatMap_append]
                  exact Hown'.out
          · obtain rfl : u = 4 := by omega
            rw [show v * 4 + 4 = (v + 1) * 4 from by omega] at hrow
            have Hrow := Lib.hid hrow; clear hrow
            go_wp2_with fail
            go_roundw
            case measure => simp [intOf]; omega
            case rel => exact ⟨v + 1, by omega, by go_num, Hrow.out, hbel⟩
      · obtain rfl : v = 4 := by omega
        rw [List.take_of_length_le (by rw [skyT_len]; omega)] at hrow
        have Hrow := Lib.hid hrow; clear hrow
        go_wp2_with fail
        refine bodyPost_ret (v := .tuple #[u4, .bool true]) (by simp [results, Try.results107, go_sem]) rfl ⟨_, rfl, Hrow.out, hbel⟩
end Go.Proofs.Ytfandpgjlahnpaa
