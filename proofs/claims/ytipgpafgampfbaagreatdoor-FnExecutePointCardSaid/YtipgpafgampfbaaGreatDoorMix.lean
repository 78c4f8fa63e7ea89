/- A region that draws its order and in which operations that write stand between others: those that write each wait alone. -/
import Derived.Test.YtipgpafgampfbaaGreatDoorA2
namespace Go.Proofs.YtipgpafgampfbaaGreatDoor
open Go.RowKit
section
variable {P : Program} {ops : Array Oper} {C : World → Prop} {Q : Exit → Act → World → Prop} {sp : Nat → Bool}
def mixF (P : Program) (ops : Array Oper) (C : World → Prop) (Q : Exit → Act → World → Prop) (sp : Nat → Bool) : Nat → List Oper → Act → World → Prop
  | _, [], a, w => ∀ w', Ext w w' → Q .normal a w'
  | k, o :: rest, a, w => if sp k = true then ∀ w', Ext w w' → wpList P ops (Exit.then (fun a'' w'' => C w'' ∧ mixF P ops C Q sp (k + 1) rest a'' w'') Q) [o] a w'
      else if Region.wanted o (yielded ops a.tmps) then ∃ v, Oper.stays P C o a v ∧ mixF P ops C Q sp (k + 1) rest (a.put o.dst v) w
      else mixF P ops C Q sp (k + 1) rest (a.put o.dst undef) w
def chkX (ops : Array Oper) (sp : Nat → Bool) : Nat → Nat → Array Bool → Bool
  | _, 0, listed => Region.ready .any ops listed == []
  | k, n + 1, listed => if sp k then (Region.ready .any ops listed == [k]) && chkX ops sp (k + 1) n (listed.setIfInBounds k true)
      else (Region.ready .any ops listed).contains k && Region.free .any ops listed k && chkX ops sp (k + 1) n (listed.setIfInBounds k true)
theorem lexX (hC : ∀ w w', C w → Ext w w' → C w') (hsel : Region.noSelect ops = true) (hQ : ∀ c a d v w, Q (.panic c) (a.put d v) w → Q (.panic c) a w) :
    ∀ (l : List Oper) (k : Nat) (listed : Array Bool) (a : Act) (w : World), (∀ j, l[j]? = ops[k + j]?) → chkX ops sp k l.length listed = true → Closed ops listed → C w →
      mixF P ops C Q sp k l a w → wpAnyS P ops C Q sp (fun _ => false) l.length listed a w
  | [], _, _, _, _, _, hB, _, _, h => ⟨by simpa [chkX] using hB, h⟩
  | o :: l, k, listed, a, w, hl, hB, hcl, hCw, h => by
    have h0 : ops[k]? = some o := by simpa using (hl 0).symm
    have hl' : ∀ j, l[j]? = ops[k + 1 + j]? := fun j => by have := hl (j + 1); simpa [Nat.add_assoc, Nat.add_comm 1 j] using this
    simp only [List.length_cons] at hB ⊢
    unfold chkX at hB
    unfold mixF at h
    by_cases hs : sp k = true
    · rw [if_pos hs] at hB h
      simp only [Bool.and_eq_true, beq_iff_eq] at hB
      obtain ⟨hr, hB'⟩ := hB
      refine ⟨fun h0 => (by rw [hr] at h0; cases h0), fun i hi => ?_⟩
      have hi' := hi
      rw [hr] at hi
      obtain rfl : i = k := by simpa using hi
      rw [if_pos hs]
      intro w' hw'
      exact wpOp_mono (fun a'' w'' h3 => ⟨fun _ => h3.1, lexX hC hsel hQ l (i + 1) _ a'' w'' hl' hB' (hcl.set hi') h3.1 h3.2⟩) (wpOp_of_list h0 (h w' hw'))
    · rw [if_neg hs] at hB h
      simp only [Bool.and_eq_true] at hB
      obtain ⟨⟨hr, hf⟩, hB'⟩ := hB
      have hr' : k ∈ Region.ready .any ops listed := by simpa using hr
      have hst : ∃ v, StaysAt P ops C o v a ∧ mixF P ops C Q sp (k + 1) l (a.put o.dst v) w := by
        split at h
        · rename_i hw; obtain ⟨v, h1, h2⟩ := h; exact ⟨v, .inl ⟨hw, h1⟩, h2⟩
        · rename_i hw; exact ⟨undef, .inr ⟨by simpa using hw, rfl⟩, h⟩
      obtain ⟨v, hy, hK⟩ := hst
      exact wpAnyS_first h0 (Region.noSelect_spec hsel) (by simpa using hs) (fun j L hn _ _ _ _ => by cases hn) (fun c a w => hQ c a _ _ w)
        _ listed a w (Region.free_spec h0 hf) hcl hr' hy hCw (lexX hC hsel hQ l (k + 1) _ _ w hl' hB' (hcl.set hr') hCw hK)

def chkMix (ops : Array Oper) (sp : Nat → Bool) : Bool := Region.noSelect ops && chkX ops sp 0 ops.size (Array.replicate ops.size false)
theorem wpAny_M {l : List Oper} (hB : chkMix l.toArray sp = true) (hC : ∀ w w', C w → Ext w w' → C w') (hQ : ∀ c a d v w, Q (.panic c) (a.put d v) w → Q (.panic c) a w)
    {a : Act} {w : World} (h0 : C w) (h : mixF P l.toArray C Q sp 0 l a w) : wpAny P .any l.toArray Q l.toArray.size (Array.replicate l.toArray.size false) a w := by
  unfold chkMix at hB
  simp only [Bool.and_eq_true] at hB
  obtain ⟨hsel, hB⟩ := hB
  have hcl : Closed l.toArray (Array.replicate l.toArray.size false) := fun j o _ hj => by
    rcases Nat.lt_or_ge j l.length with hh | hh
    · simp [hh] at hj
    · simp [hh] at hj
  refine wpAny_of_S (sp := sp) (nk := fun _ => false) hC _ _ _ _ ?_
  have := lexX (P := P) (Q := Q) hC hsel hQ l 0 (Array.replicate l.toArray.size false) a w (by simp) (by simpa using hB) hcl h0 h
  simpa using this

structure wpMix (P : Program) (ops : Array Oper) (C : World → Prop) (Q : Exit → Act → World → Prop) (sp : Nat → Bool) (k : Nat) (l : List Oper) (a : Act) (w : World) : Prop where
  out : mixF P ops C Q sp k l a w
theorem wp_region_M {l : List Oper} (spL : List Nat) {id : Nat} {a : Act} {w : World} (C : World → Prop) (hm : P.follows .mixedOrders = true)
    (hB : chkMix l.toArray (fun i => spL.contains i) = true) (hC : ∀ w w', C w → Ext w w' → C w') (h0 : C w.drew)
    (h : wpMix P l.toArray C (onlyN (Q .normal)) (fun i => spL.contains i) 0 l a w.drew) : (Code.region id l.toArray true).wp P Q a w :=
  wp_mono (wp_region_any hm (wpAny_M hB hC (fun _ _ _ _ _ h => h.elim) h0 h.out)) onlyN_imp
theorem wpIn_region_M {l : List Oper} (spL : List Nat) {id n r : Nat} {a : Act} {w : World} (C : World → Prop) (hm : P.follows .mixedOrders = true) (hd : noDefer l.toArray = true)
    (hB : chkMix l.toArray (fun i => spL.contains i) = true) (hC : ∀ w w', C w → Ext w w' → C w') (h0 : C w.drew)
    (h : wpMix P l.toArray C (onlyN (Q .normal)) (fun i => spL.contains i) 0 l a w.drew) : (Code.region id l.toArray true).wpIn (Fence.wide.inRound r) n P Q a w :=
  wpIn_mono (wpIn_region_any hm (wpAnyIn_of (noDefer_spec hd) (fun ⟨_, _, h⟩ => h) _ _ _ _ (wpAny_M hB hC (fun _ _ _ _ _ h => h.elim) h0 h.out))) onlyN_imp

variable {k : Nat} {o : Oper} {rest : List Oper} {a : Act} {w : World} {v : Value}
theorem wpMix_nil (h : ∀ w', Ext w w' → Q .normal a w') : wpMix P ops C Q sp k [] a w := ⟨h⟩
theorem wpMix_go (hs : sp k = false) (hw : Region.wanted o (yielded ops a.tmps) = true) (hv : Oper.stays P C o a v) (h : wpMix P ops C Q sp (k + 1) rest (a.put o.dst v) w) : wpMix P ops C Q sp k (o :: rest) a w := by
  constructor; unfold mixF; rw [if_neg (by rw [hs]; simp), if_pos hw]; exact ⟨v, hv, h.out⟩
theorem wpMix_off (hs : sp k = false) (hw : Region.wanted o (yielded ops a.tmps) = false) (h : wpMix P ops C Q sp (k + 1) rest (a.put o.dst undef) w) : wpMix P ops C Q sp k (o :: rest) a w := by
  constructor; unfold mixF; rw [if_neg (by rw [hs]; simp), if_neg (by rw [hw]; simp)]; exact h.out
theorem wpMix_mark (hs : sp k = true) (h : ∀ w', Ext w w' → ∀ K : Act → World → Prop, (∀ a'' w'', C w'' → wpMix P ops C Q sp (k + 1) rest a'' w'' → K a'' w'') → wpList P ops (Exit.then K Q) [o] a w') : wpMix P ops C Q sp k (o :: rest) a w := by
  constructor; unfold mixF; rw [if_pos hs]
  exact fun w' hw' => h w' hw' _ fun _ _ h1 h2 => ⟨h1, h2.out⟩
end
end Go.Proofs.YtipgpafgampfbaaGreatDoor
