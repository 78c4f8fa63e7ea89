/- 'spec.l51Point': the line that tells phases. -/
import Derived.Test.YtipgpafgampfbaaGreatDoorRunV
namespace Go.Proofs.YtipgpafgampfbaaGreatDoor
open Go.RowKit

set_option maxRecDepth 100000 in
set_option maxHeartbeats 1000000 in
theorem l51Point_any (A : Option Addr) (n cap : Nat) (xs : List (Int × Int)) (x y : Int) (w : World) (hn : xs.length = n) (hk : n ≤ cap) (hb : n ≤ 1000) (hr : Rd w w.heap.size A (xs.flatMap pairCells)) :
    Calls Tryz.prog 139 #[.slice A n cap, .int .i64 x, .int .i64 y] w fun e w' => e = .returned (.string ⟨(pointB xs x y).toArray⟩) ∧ Below w.heap.size w w' := by
  cases hpt : ptV xs (x, y) 1
  · have hP : pointB xs x y = oNo := by unfold pointB; rw [hpt]; rfl
    rw [hP]
    have Hn := Lib.hid hn; clear hn
    have Hpt := Lib.hid hpt; clear hpt
    go_enter Tryz.func139, Tryz.ntmps139
    go_wp2_with fail
    refine (sVisPoint_no A n cap xs (x, y) 1 _ Hn.out (by omega) Hpt.out hr).mono ?_
    rintro e w1 ⟨v, rfl, o1, b1⟩
    clear o1
    go_wp2_with fail
    go_ret
    exact ⟨rfl, b1⟩
  · have hP : pointB xs x y = phasesB ((ptL xs (x, y) 1 (pairsN xs.length)).map (·.2)) := by unfold pointB; rw [hpt]; rfl
    have hvis := pt_vis hpt
    have hvl := ptL_len xs (x, y) 1 (pairsN xs.length)
    have hl2 := arrV_len (xs := xs) (by unfold ptV at hpt; rw [Bool.and_eq_true] at hpt; exact hpt.1)
    have hpl := bm_pairs xs.length (by omega) (by omega)
    have hpl21 := bm_le (xs.length : Int)
    have hps : ∀ p ∈ (ptL xs (x, y) 1 (pairsN xs.length)).map (·.2), 0 ≤ p ∧ p ≤ 1000000 := fun p hp => by
      obtain ⟨g, hg, rfl⟩ := List.mem_map.1 hp
      have := (visOk_iff.1 ((visV_iff.1 hvis).2.2 g hg)).2
      omega
    rw [hn] at hP hvis hvl hpl hpl21 hps
    rw [hP]
    obtain ⟨m, hm⟩ : ∃ m, (pairsN n).length = m := ⟨_, rfl⟩
    obtain ⟨vs, hvs⟩ : ∃ vs, ptL xs (x, y) 1 (pairsN n) = vs := ⟨_, rfl⟩
    have hpoint := fun w' (h : Rd w' w'.heap.size A (xs.flatMap pairCells)) => sVisPoint_yes A n cap xs (x, y) 1 w' hn hk hpt h
    rw [hm] at hvl hpl hpoint
    rw [hvs] at hvl hvis hps hpoint ⊢
    have hm21 : m ≤ 21 := by omega
    clear hpl hpl21
    have hlen := fun k => phases_len ((vs.map (·.2)).take k) fun x hx => by have := hps x (List.mem_of_mem_take hx); omega
    have hpm : (vs.map (·.2)).length = m := by rw [List.length_map]; exact hvl
    have Hpoint := Lib.hid (hpoint w hr)
    clear hpoint hP
    have Hn := Lib.hid hn; clear hn
    have Hpt := Lib.hid hpt; clear hpt
    have Hvis := Lib.hid hvis; clear hvis
    have Hvl := Lib.hid hvl; clear hvl
    have Hm := Lib.hid hm; clear hm
    have Hvs := Lib.hid hvs; clear hvs
    have Hpm := Lib.hid hpm; clear hpm
    have Hps := Lib.hid hps; clear hps
    go_enter Tryz.func139, Tryz.ntmps139
    go_wp2_with fail
    refine Hpoint.out.mono ?_
    rintro e w1 ⟨v, rfl, o1, b1⟩
    obtain ⟨A1, c1, rfl⟩ := own_form o1
    have B1 := b1
    have O1 := Lib.hid o1; clear o1
    clear b1
    go_wp2_with fail
    refine (sVisPhases_yes n A1 m c1 vs _ Hvis.out Hvl.out (Rd.of_own O1.out)).mono ?_
    rintro e w2 ⟨v, rfl, o2, b2⟩
    obtain ⟨A2, c2, rfl⟩ := own_form o2
    have B2 := B1.trans (b2.mono B1.size)
    have rP := Rd.of_own o2
    obtain ⟨ps, hpse⟩ : ∃ ps, vs.map (·.2) = ps := ⟨_, rfl⟩
    rw [hpse] at rP hlen
    have hpm := Hpm.out
    have hps := Hps.out
    rw [hpse] at hpm hps
    have Rd2 := Lib.hid rP
    have Hpm := Lib.hid hpm; clear hpm
    have Hps := Lib.hid hps; clear hps
    have Hpse := Lib.hid hpse; clear hpse
    clear b2 o2 rP
    go_wp2_with fail
    go_loopw [9, 11] (fun o i wr => ∃ k : Nat, k ≤ m ∧ i = .int .i64 k ∧ o = .string ⟨(oPhases ++ (ps.take k).flatMap (fun p => 32 :: Lib.itoa p)).toArray⟩ ∧ Below w2.heap.size w2 wr) (fun _ i _ => m - (intOf i).toNat)
    case atStart => exact ⟨0, by omega, rfl, rfl, Below.refl _ _⟩
    case round =>
      obtain ⟨k, hk, rfl, rfl, hbel⟩ := hrel
      have hr' := Rd2.out.below hbel
      have hl := hlen k
      rw [List.length_take] at hl
      obtain ⟨o, ho⟩ : ∃ o, oPhases ++ (ps.take k).flatMap (fun p => 32 :: Lib.itoa p) = o := ⟨_, rfl⟩
      have hol : o.length ≤ 6 + 22 * 1000 := by rw [← ho, List.length_append]; simp [oPhases] at *; omega
      have hs1 : ¬ 9223372036854775807 < o.length + 1 := by omega
      by_cases hlt : k < m
      · obtain ⟨x, hg⟩ : ∃ x, ps[k]? = some x := ⟨_, List.getElem?_eq_getElem (by rw [Hpm.out]; exact hlt)⟩
        obtain ⟨b, off, rfl, hb, hc1⟩ := hr' k _ (by rw [List.getElem?_map, hg]; rfl)
        have hpt := phases_part ps k _ hg
        have hx := Hps.out x (List.mem_of_getElem? hg)
        have hit := itoa_small (n := x) (by omega)
        rw [ho] at hpt ⊢
        have hs2 : ¬ 9223372036854775807 < o.length + 1 + (Lib.itoa x).length := by omega
        have Hpt := Lib.hid hpt; clear hpt
        have Hg := Lib.hid hg; clear hg
        clear hl ho
        go_wp2_with fail
        refine (sDec_any x (by omega) _).mono ?_
        rintro e w3 ⟨rfl, b3⟩
        go_wp2_with fail
        go_roundw
        case measure => simp [intOf]; omega
        case rel =>
          refine ⟨k + 1, by omega, by go_num, ?_, hbel.trans (b3.mono hbel.size)⟩
          rw [Hpt.out, ← str_app o, ← str_app [32], ByteArray.append_assoc]
      · obtain rfl : k = m := by omega
        have hall : phasesB ps = o ++ [10] := by rw [← ho, List.take_of_length_le (by rw [Hpm.out]; exact Nat.le_refl _)]; simp [phasesB]
        rw [ho]
        have Hall := Lib.hid hall; clear hall
        clear hl ho
        have B3 := B2.trans (hbel.mono B2.size)
        go_wp2_with fail
        go_ret
        exact ⟨by rw [Hpse.out, Hall.out, ← str_app]; rfl, B3⟩
end Go.Proofs.YtipgpafgampfbaaGreatDoor
