/- Every line of the script. -/
import Derived.Test.YtipgpafgampfbaaGreatDoorRunY
import Derived.Test.YtipgpafgampfbaaGreatDoorRunZ
import Derived.Test.YtipgpafgampfbaaGreatDoorRunK
import Derived.Test.YtipgpafgampfbaaGreatDoorRunQ
import Derived.Test.YtipgpafgampfbaaGreatDoorRunU
import Derived.Test.YtipgpafgampfbaaGreatDoorRunV
import Derived.Test.YtipgpafgampfbaaGreatDoorRunW
namespace Go.Proofs.YtipgpafgampfbaaGreatDoor
open Go.RowKit

theorem wantL_cases {h : Word} {m : Nat} (hw : wantL h = some m) : (h = wAnt ∧ m = 2) ∨ (h = wCell ∧ m = 3) ∨ (h = wBases ∧ m = 0) ∨ (h = wCover ∧ m = 0) ∨ (h = wBeam ∧ m = 0) ∨ (h = wPoint ∧ m = 2) ∨ (h = wDirty ∧ m = 0) ∨ (h = wClean ∧ m = 1) := by
  unfold wantL at hw
  split at hw
  · rename_i e; exact .inl ⟨e, by injection hw with hw; exact hw.symm⟩
  split at hw
  · rename_i e; exact .inr (.inl ⟨e, by injection hw with hw; exact hw.symm⟩)
  split at hw
  · rename_i e; exact .inr (.inr (.inl ⟨e, by injection hw with hw; exact hw.symm⟩))
  split at hw
  · rename_i e; exact .inr (.inr (.inr (.inl ⟨e, by injection hw with hw; exact hw.symm⟩)))
  split at hw
  · rename_i e; exact .inr (.inr (.inr (.inr (.inl ⟨e, by injection hw with hw; exact hw.symm⟩))))
  split at hw
  · rename_i e; exact .inr (.inr (.inr (.inr (.inr (.inl ⟨e, by injection hw with hw; exact hw.symm⟩)))))
  split at hw
  · rename_i e; exact .inr (.inr (.inr (.inr (.inr (.inr (.inl ⟨e, by injection hw with hw; exact hw.symm⟩))))))
  split at hw
  · rename_i e; exact .inr (.inr (.inr (.inr (.inr (.inr (.inr ⟨e, by injection hw with hw; exact hw.symm⟩))))))
  · cases hw
theorem lineR_ask {s : St} {h : Word} {t : List Word} (hw : wantL h = some t.length) (h1 : h ≠ wAnt) (h2 : h ≠ wCell) : lineR s h t = (s, if arrV s.1 then askB s h t else oNo) := by
  unfold lineR; rw [if_pos hw, if_neg h1, if_neg h2]
theorem execute_any (B0 S n cap : Nat) (A : Option Addr) (ws : List Word) (s : St) (w : World) (hn : n = ws.length) (hc : n ≤ cap) (hb : n ≤ 1000) (hne : ws ≠ []) (hl : ∀ x ∈ ws, x.length ≤ 1000) (hI : IsS B0 S s w) (hO : StOk s) (ht : Tab w) (hr : Rd w w.heap.size A (strs ws)) :
    Calls Tryz.prog 53 #[.pointer (some ⟨S, 0, none⟩), .slice A n cap] w fun e w' => LineOf B0 S (lineW s ws) w e w' := by
  cases ws with
  | nil => exact absurd rfl hne
  | cons h t =>
    show Calls Tryz.prog 53 #[.pointer (some ⟨S, 0, none⟩), .slice A n cap] w fun e w' => LineOf B0 S (lineR s h t) w e w'
    have hlh := hl h (by simp)
    have hn' : n = t.length + 1 := hn
    by_cases hw : wantL h = some t.length
    · have key : h ≠ wAnt → h ≠ wCell → t.length ≤ 7 → (arrV s.1 = true → Calls Tryz.prog 53 #[.pointer (some ⟨S, 0, none⟩), .slice A n cap] w fun e w' => LineOf B0 S (s, askB s h t) w e w') →
          Calls Tryz.prog 53 #[.pointer (some ⟨S, 0, none⟩), .slice A n cap] w fun e w' => LineOf B0 S (lineR s h t) w e w' := fun h1 h2 h7 hyes => by
        rw [lineR_ask hw h1 h2]
        cases hv : arrV s.1
        · exact execute_none B0 S n t.length cap A h t s w hn' rfl hw h7 (by rw [beq_eq_false_iff_ne]; exact h1) (by rw [beq_eq_false_iff_ne]; exact h2) hc hlh hI hO hv hr
        · exact hyes hv
      rcases wantL_cases hw with ⟨rfl, hm⟩ | ⟨rfl, hm⟩ | ⟨rfl, hm⟩ | ⟨rfl, hm⟩ | ⟨rfl, hm⟩ | ⟨rfl, hm⟩ | ⟨rfl, hm⟩ | ⟨rfl, hm⟩
      · match t, hm with
        | [t0, t1], _ => exact execute_ant B0 S n cap A t0 t1 s w hn' hc hI hO hr
      · match t, hm with
        | [t0, t1, t2], _ => exact execute_cell B0 S n cap A t0 t1 t2 s w hn' hc hI hO hr
      · exact key (by decide) (by decide) (by omega) fun hv => execute_bases B0 S n t.length cap A wBases t s w hn' rfl rfl hw (by omega) hc hlh hI hO hv hr ht
      · exact key (by decide) (by decide) (by omega) fun hv => execute_cover B0 S n t.length cap A wCover t s w hn' rfl rfl hw (by omega) hc hlh hI hO hv hr
      · exact key (by decide) (by decide) (by omega) fun hv => execute_beam B0 S n t.length cap A wBeam t s w hn' rfl rfl hw (by omega) hc hlh hI hO hv hr ht
      · match t, hm with
        | [t0, t1], _ => exact key (by decide) (by decide) (by simp) fun hv => execute_point B0 S n 2 cap A wPoint t0 t1 [t0, t1] s w hn' rfl rfl rfl rfl hw (by omega) hc hlh hI hO hv hr ht
      · exact key (by decide) (by decide) (by omega) fun hv => execute_dirty B0 S n t.length cap A wDirty t s w hn' rfl rfl hw (by omega) hc hlh hI hO hv hr ht
      · match t, hm with
        | [t0], _ => exact key (by decide) (by decide) (by simp) fun hv => execute_clean B0 S n 1 cap A wClean t0 [t0] s w hn' rfl rfl rfl rfl hw (by omega) hc hlh hI hO hv hr ht
    · have e : lineR s h t = (s, oWhat) := by unfold lineR; rw [if_neg hw]
      rw [e]
      refine (execute_what S n cap A h t w hn' hb hlh hw hr).mono ?_
      rintro e w' ⟨rfl, b⟩
      exact ⟨oWhat, true, rfl, rfl, hI.ext b, .of_below b⟩
end Go.Proofs.YtipgpafgampfbaaGreatDoor
