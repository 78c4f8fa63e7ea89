/- A region that draws its order and whose marked operations may come in several orders: each order is walked. -/
import Derived.Test.YtfandpgjlahnpaaA2
namespace Go.Proofs.Ytfandpgjlahnpaa
open Go.RowKit
section
variable {P : Program} {ops : Array Oper} {C : World → Prop} {Q : Exit → Act → World → Prop} {sp nk : Nat → Bool} {f : Nat} {listed : Array Bool} {a : Act} {w : World}
structure wpTree (P : Program) (ops : Array Oper) (C : World → Prop) (Q : Exit → Act → World → Prop) (sp nk : Nat → Bool) (f : Nat) (listed : Array Bool) (a : Act) (w : World) : Prop where
  out : wpAnyS P ops C Q sp nk f listed a w
theorem wpTree_nil (hr : Region.ready .any ops listed = []) (h : ∀ w', Ext w w' → Q .normal a w') : wpTree P ops C Q sp nk 0 listed a w := ⟨hr, h⟩
theorem wpTree_one {i : Nat} {o : Oper} (hr : Region.ready .any ops listed = [i]) (ho : ops[i]? = some o) (hs : sp i = true)
    (h : ∀ w', Ext w w' → ∀ K : Act → World → Prop, (∀ a'' w'', (nk i = false → C w'') → wpTree P ops C Q sp nk f (listed.setIfInBounds i true) a'' w'' → K a'' w'') → wpList P ops (Exit.then K Q) [o] a w') :
    wpTree P ops C Q sp nk (f + 1) listed a w := by
  refine ⟨fun h0 => (by rw [hr] at h0; cases h0), fun j hj => ?_⟩
  rw [hr] at hj
  obtain rfl : j = i := by simpa using hj
  rw [if_pos hs]
  exact fun w' hw' => wpOp_of_list ho (h w' hw' _ fun _ _ h1 h2 => ⟨h1, h2.out⟩)
theorem wpTree_two {i j : Nat} {o o' : Oper} (hr : Region.ready .any ops listed = [i, j]) (ho : ops[i]? = some o) (ho' : ops[j]? = some o') (hs : sp i = true) (hs' : sp j = true)
    (h : ∀ w', Ext w w' → ∀ K : Act → World → Prop, (∀ a'' w'', (nk i = false → C w'') → wpTree P ops C Q sp nk f (listed.setIfInBounds i true) a'' w'' → K a'' w'') → wpList P ops (Exit.then K Q) [o] a w')
    (h' : ∀ w', Ext w w' → ∀ K : Act → World → Prop, (∀ a'' w'', (nk j = false → C w'') → wpTree P ops C Q sp nk f (listed.setIfInBounds j true) a'' w'' → K a'' w'') → wpList P ops (Exit.then K Q) [o'] a w') :
    wpTree P ops C Q sp nk (f + 1) listed a w := by
  refine ⟨fun h0 => (by rw [hr] at h0; cases h0), fun l hl => ?_⟩
  rw [hr] at hl
  rcases List.mem_cons.1 hl with rfl | hl
  · rw [if_pos hs]
    exact fun w' hw' => wpOp_of_list ho (h w' hw' _ fun _ _ h1 h2 => ⟨h1, h2.out⟩)
  · obtain rfl : l = j := by simpa using hl
    rw [if_pos hs']
    exact fun w' hw' => wpOp_of_list ho' (h' w' hw' _ fun _ _ h1 h2 => ⟨h1, h2.out⟩)

def chkT (ops : Array Oper) (sp nk : Nat → Bool) (L : Array Bool) (m : Nat) : Bool :=
  Region.noSelect ops && chkN ops sp nk && (chkS ops sp 0 ops.size (Array.replicate ops.size false) == some L) && (cntM sp 0 ops.size == m)
theorem wpAny_T {l : List Oper} {L : Array Bool} {m : Nat} (hB : chkT l.toArray sp nk L m = true) (hC : ∀ w w', C w → Ext w w' → C w') (hQ : ∀ c a d v w, Q (.panic c) (a.put d v) w → Q (.panic c) a w)
    {a : Act} {w : World} (h0 : C w) (h : stillF P l.toArray C sp (fun a' => wpAnyS P l.toArray C Q sp nk m L a' w) 0 l a) :
    wpAny P .any l.toArray Q l.toArray.size (Array.replicate l.toArray.size false) a w := by
  unfold chkT at hB
  simp only [Bool.and_eq_true, beq_iff_eq] at hB
  obtain ⟨⟨⟨hsel, hN⟩, hS⟩, hm⟩ := hB
  refine wpAny_of_S (sp := sp) (nk := nk) hC _ _ _ _ ?_
  have hcl : Closed l.toArray (Array.replicate l.toArray.size false) := fun j o _ hj => by
    rcases Nat.lt_or_ge j l.length with hh | hh
    · simp [hh] at hj
    · simp [hh] at hj
  have := lexS (P := P) (Q := Q) hC hsel hN hQ m l 0 _ L a w (by simp) (by simpa using hS) hcl h0 h
  have e := cnt_add sp l.length 0
  simp only [List.size_toArray] at hm
  rw [hm] at e
  rw [e] at this
  simpa using this
theorem wp_region_T {l : List Oper} (spL nkL : List Nat) (L : List Bool) (m : Nat) {id : Nat} {a : Act} {w : World} (C : World → Prop) (R : Act → World → Prop) (hm : P.follows .mixedOrders = true)
    (hB : chkT l.toArray (fun i => spL.contains i) (fun i => nkL.contains i) L.toArray m = true) (hC : ∀ w w', C w → Ext w w' → C w') (h0 : C w.drew) (hR : ∀ a w, R a w → Q .normal a w)
    (h : wpStill P l.toArray C (fun i => spL.contains i) (fun a' => wpTree P l.toArray C (onlyN R) (fun i => spL.contains i) (fun i => nkL.contains i) m L.toArray a' w.drew) 0 l a) : (Code.region id l.toArray true).wp P Q a w :=
  wp_mono (wp_region_any hm (wpAny_T (Q := onlyN R) hB hC (fun _ _ _ _ _ h => h.elim) h0 (stillF_mono (fun _ h => h.out) _ _ _ h.out))) fun e a w h => by cases e <;> first | exact hR a w h | exact h.elim
theorem wpIn_region_T {l : List Oper} (spL nkL : List Nat) (L : List Bool) (m : Nat) {id n r : Nat} {a : Act} {w : World} (C : World → Prop) (R : Act → World → Prop) (hm : P.follows .mixedOrders = true) (hd : noDefer l.toArray = true)
    (hB : chkT l.toArray (fun i => spL.contains i) (fun i => nkL.contains i) L.toArray m = true) (hC : ∀ w w', C w → Ext w w' → C w') (h0 : C w.drew) (hR : ∀ a w, R a w → Q .normal a w)
    (h : wpStill P l.toArray C (fun i => spL.contains i) (fun a' => wpTree P l.toArray C (onlyN R) (fun i => spL.contains i) (fun i => nkL.contains i) m L.toArray a' w.drew) 0 l a) : (Code.region id l.toArray true).wpIn (Fence.wide.inRound r) n P Q a w :=
  wpIn_mono (wpIn_region_any hm (wpAnyIn_of (noDefer_spec hd) (fun ⟨_, _, h⟩ => h) _ _ _ _ (wpAny_T (Q := onlyN R) hB hC (fun _ _ _ _ _ h => h.elim) h0 (stillF_mono (fun _ h => h.out) _ _ _ h.out)))) fun e a w h => by cases e <;> first | exact hR a w h | exact h.elim
theorem wpIn_region_C {l : List Oper} (spL nkL : List Nat) {id n r : Nat} {a : Act} {w : World} (C : World → Prop) (hm : P.follows .mixedOrders = true) (hd : noDefer l.toArray = true) (hB : chkR l.toArray (fun i => spL.contains i) (fun i => nkL.contains i) = true)
    (hC : ∀ w w', C w → Ext w w' → C w') (h0 : C w.drew)
    (h : wpStill P l.toArray C (fun i => spL.contains i) (fun a' => wpMark P l.toArray C (onlyN (Q .normal)) (fun i => spL.contains i) (fun i => nkL.contains i) 0 l a' w.drew) 0 l a) : (Code.region id l.toArray true).wpIn (Fence.wide.inRound r) n P Q a w :=
  wpIn_mono (wpIn_region_R spL nkL C hm hd hB (fun ⟨_, _, h⟩ => h) hC (fun _ _ _ _ _ h => h.elim) h0 h) onlyN_imp
end
end Go.Proofs.Ytfandpgjlahnpaa
