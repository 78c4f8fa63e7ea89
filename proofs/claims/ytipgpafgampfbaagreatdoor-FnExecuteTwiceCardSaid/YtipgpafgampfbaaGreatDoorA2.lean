/- Regions that draw their order of evaluation, walked once in the order of the text. A region's operations are of two makes: the still ones (reads, arithmetic, calls that leave all that was there and return one value whatever the world) and the marked ones (stores, appends, new blocks), which follow one another. · What single operations yield, for the walk of a region that draws and writes. · A boxed slice that owns its row, over an append and a store that other steps may lie between. -/
import Derived.Test.YtipgpafgampfbaaGreatDoorA1
import Derived.Still
import Derived.Deep.Quiet
import Derived.RangeFuncCalls
import Derived.TacticsIn
import Derived.OrdersIn
import Derived.Shelf.Abstract
import Derived.RangeFuncBox
import Derived.RangeFuncNested
namespace Go.Proofs.YtipgpafgampfbaaGreatDoor
open Go.RowKit

/-- All that was there stands. -/
def Ext (w w' : World) : Prop := Below w.heap.size w w'
theorem Ext.refl (w : World) : Ext w w := Below.refl _ _
theorem Ext.trans {a b c : World} (h : Ext a b) (k : Ext b c) : Ext a c := Below.trans h (Below.mono k h.size)
theorem Ext.of_below {w w' : World} (h : Below w.heap.size w w') : Ext w w' := h
theorem Ext.drew (w : World) : Ext w w.drew := (Below.refl _ _).drew

section
variable {P : Program} {ops : Array Oper} {C : World → Prop} {Q : Exit → Act → World → Prop} {sp nk : Nat → Bool}

/-- One value in every world of the class; a call leaves all that was there. -/
def Oper.stays (P : Program) (C : World → Prop) (o : Oper) (a : Act) (v : Value) : Prop := ∀ w, C w → o.quietAt P a (Ext w) w v

def sOp (P : Program) (ops : Array Oper) (C : World → Prop) (i : Nat) (K : Act → Prop) (a : Act) : Prop :=
  match ops[i]? with
  | none => K a
  | some o => if Region.wanted o (yielded ops a.tmps) then ∃ v, Oper.stays P C o a v ∧ K (a.put o.dst v) else K (a.put o.dst undef)

theorem sOp_mono {i : Nat} {a : Act} {K K' : Act → Prop} (h : ∀ a, K a → K' a) (hh : sOp P ops C i K a) : sOp P ops C i K' a := by
  unfold sOp at *
  split
  · rename_i ho; simp only [ho] at hh; exact h _ hh
  · rename_i o ho
    simp only [ho] at hh
    split
    · rename_i hw; simp only [hw, if_true] at hh; obtain ⟨v, h1, h2⟩ := hh; exact ⟨v, h1, h _ h2⟩
    · rename_i hw; simp only [hw] at hh; exact h _ hh

/-- Whatever order is picked from here on; between two operations the world may have grown. -/
def wpAnyS (P : Program) (ops : Array Oper) (C : World → Prop) (Q : Exit → Act → World → Prop) (sp nk : Nat → Bool) : Nat → Array Bool → Act → World → Prop
  | 0, listed, a, w => Region.ready .any ops listed = [] ∧ ∀ w', Ext w w' → Q .normal a w'
  | f + 1, listed, a, w => (Region.ready .any ops listed = [] → ∀ w', Ext w w' → Q .normal a w') ∧
      ∀ i ∈ Region.ready .any ops listed,
        if sp i = true then ∀ w', Ext w w' → wpOp P ops Q i (fun a'' w'' => (nk i = false → C w'') ∧ wpAnyS P ops C Q sp nk f (listed.setIfInBounds i true) a'' w'') a w'
        else C w ∧ sOp P ops C i (fun a'' => wpAnyS P ops C Q sp nk f (listed.setIfInBounds i true) a'' w) a

theorem wpAnyS_ext (hC : ∀ w w', C w → Ext w w' → C w') : ∀ (f : Nat) (listed : Array Bool) (a : Act) (w w1 : World), Ext w w1 → wpAnyS P ops C Q sp nk f listed a w → wpAnyS P ops C Q sp nk f listed a w1
  | 0, _, _, _, _, hx, h => ⟨h.1, fun w' hw' => h.2 w' (hx.trans hw')⟩
  | f + 1, listed, a, w, w1, hx, h => by
    refine ⟨fun h0 w' hw' => h.1 h0 w' (hx.trans hw'), fun i hi => ?_⟩
    have h2 := h.2 i hi
    split
    · rename_i hs
      rw [if_pos hs] at h2
      exact fun w' hw' => h2 w' (hx.trans hw')
    · rename_i hs
      rw [if_neg hs] at h2
      exact ⟨hC _ _ h2.1 hx, sOp_mono (fun a'' => wpAnyS_ext hC f _ a'' w w1 hx) h2.2⟩

theorem wpOp_of_sOp {i : Nat} {a : Act} {K : Act → Prop} {K' : Act → World → Prop} {w : World} (hw : C w) (h : ∀ a' w', Ext w w' → K a' → K' a' w') (hh : sOp P ops C i K a) : wpOp P ops Q i K' a w := by
  unfold sOp at hh
  unfold wpOp
  split
  · rename_i ho; simp only [ho] at hh; exact h _ _ (Ext.refl w) hh
  · rename_i o ho
    simp only [ho] at hh
    split
    · rename_i hwd
      simp only [hwd, if_true] at hh
      obtain ⟨v, h1, h2⟩ := hh
      have h3 := h1 w hw
      refine .inl ?_
      unfold Oper.quietAt at h3
      unfold Oper.wp
      generalize (execOp a.eval o).run P w = r at *
      cases r with
      | ok n w' =>
        cases n <;> simp only [Oper.quietUpon] at h3 <;> simp only [Oper.upon]
        case value u =>
          obtain ⟨e1, e2⟩ := h3
          rw [e1, e2]
          exact h _ _ (Ext.refl w) h2
        case skip =>
          obtain ⟨e1, e2⟩ := h3
          rw [e1, ← e2]
          exact h _ _ (Ext.refl w) h2
        case enter f args =>
          obtain ⟨e1, hc⟩ := h3
          rw [e1]
          exact hc.mono fun e w'' ⟨he, hw''⟩ => by subst he; exact h _ _ hw'' h2
      | halt x w' => simp only [Oper.quietUpon] at h3
    · rename_i hwd; simp only [hwd] at hh; exact h _ _ (Ext.refl w) hh

theorem wpAny_of_S (hC : ∀ w w', C w → Ext w w' → C w') : ∀ (f : Nat) (listed : Array Bool) (a : Act) (w : World), wpAnyS P ops C Q sp nk f listed a w → wpAny P .any ops Q f listed a w
  | 0, _, _, w, h => ⟨h.1, h.2 w (Ext.refl w)⟩
  | f + 1, listed, a, w, h => by
    refine ⟨fun h0 => h.1 h0 w (Ext.refl w), fun i hi => ?_⟩
    have h2 := h.2 i hi
    split at h2
    · exact wpOp_mono (fun a' w' h3 => wpAny_of_S hC f _ a' w' h3.2) (h2 w (Ext.refl w))
    · exact wpOp_of_sOp h2.1 (fun a' w' hx h3 => wpAny_of_S hC f _ a' w' (wpAnyS_ext hC f _ a' w w' hx h3)) h2.2

/-- What is listed has all that it waits for listed, too. -/
def Closed (ops : Array Oper) (listed : Array Bool) : Prop := ∀ (j : Nat) (o : Oper), ops[j]? = some o → listed.getD j false = true → ∀ e ∈ o.after, Region.binds .any e = true → listed.getD e.on false = true

theorem Closed.set {listed : Array Bool} (h : Closed ops listed) {i : Nat} (hi : i ∈ Region.ready .any ops listed) : Closed ops (listed.setIfInBounds i true) := by
  intro j o hj hl e he hb
  by_cases hij : i = j
  · subst hij
    obtain ⟨_, o', ho', hall⟩ := mem_ready.1 hi
    have : o = o' := Option.some.inj (hj.symm.trans ho')
    subst this
    exact getD_set_true (hall e he hb)
  · rw [getD_set_ne false hij] at hl
    exact getD_set_true (h j o hj hl e he hb)

/-- In state a operation o stays so, at v. -/
def StaysAt (P : Program) (ops : Array Oper) (C : World → Prop) (o : Oper) (v : Value) (a : Act) : Prop :=
  (Region.wanted o (yielded ops a.tmps) = true ∧ Oper.stays P C o a v) ∨ (Region.wanted o (yielded ops a.tmps) = false ∧ v = undef)

theorem StaysAt.sOp {i : Nat} {o : Oper} {v : Value} {a : Act} (hi : ops[i]? = some o) (hy : StaysAt P ops C o v a) {K : Act → Prop} (h : K (a.put o.dst v)) : sOp P ops C i K a := by
  unfold _root_.Go.Proofs.YtipgpafgampfbaaGreatDoor.sOp
  simp only [hi]
  rcases hy with ⟨hw, hv⟩ | ⟨hw, rfl⟩
  · simp only [hw, if_true]; exact ⟨v, hv, h⟩
  · simp only [hw, Bool.false_eq_true, if_false]; exact h

theorem StaysAt.of_same {o : Oper} {v : Value} {a a' : Act} (hy : StaysAt P ops C o v a) (he : execOp a'.eval o = execOp a.eval o)
    (hw : Region.wanted o (yielded ops a'.tmps) = Region.wanted o (yielded ops a.tmps)) : StaysAt P ops C o v a' := by
  unfold StaysAt Oper.stays Oper.quietAt at *
  rw [he, hw]
  exact hy

theorem sOp_put {j : Nat} {oi oj : Oper} {v : Value} (hj : ops[j]? = some oj) (hap : oi.apart ops oj = true)
    (hsi : ∀ cs b, oi.op ≠ .select cs b) (hsj : ∀ cs b, oj.op ≠ .select cs b) {K : Act → Prop} {a : Act}
    (hy : StaysAt P ops C oi v a) (h : sOp P ops C j K (a.put oi.dst v)) :
    sOp P ops C j (fun a' => StaysAt P ops C oi v a' ∧ K (a'.put oi.dst v)) a := by
  obtain ⟨h1, h2, h3⟩ := Oper.apart_spec hap
  have keep : ∀ (a : Act), StaysAt P ops C oi v a → ∀ u, StaysAt P ops C oi v (a.put oj.dst u) := fun a hy u =>
    hy.of_same (execOp_put oi hsi a oj.dst u h3) (wanted_put oi a oj.dst u h3)
  unfold sOp at *
  simp only [hj] at *
  rw [wanted_put oj a oi.dst v h1] at h
  split
  · rename_i hw
    simp only [hw, if_true] at h
    obtain ⟨u, hu, hn⟩ := h
    refine ⟨u, fun w hw' => ?_, keep a hy u, by rw [← Act.put_comm a v u h2]; exact hn⟩
    have := hu w hw'
    unfold Oper.quietAt at *
    rwa [execOp_put oj hsj a oi.dst v h1] at this
  · rename_i hw
    simp only [hw] at h
    exact ⟨keep a hy _, by rw [← Act.put_comm a v undef h2]; exact h⟩

/-- One operation of whatever make, apart from oi. -/
theorem wpOp_putS {j : Nat} {oi oj : Oper} {v : Value} (hj : ops[j]? = some oj) (hap : oi.apart ops oj = true)
    (hsi : ∀ cs b, oi.op ≠ .select cs b) (hsj : ∀ cs b, oj.op ≠ .select cs b)
    (hQ : ∀ c a w, Q (.panic c) (a.put oi.dst v) w → Q (.panic c) a w) {K : Act → World → Prop} {a : Act} {w : World}
    (hy : StaysAt P ops C oi v a) (h : wpOp P ops Q j K (a.put oi.dst v) w) :
    wpOp P ops Q j (fun a' w' => StaysAt P ops C oi v a' ∧ K (a'.put oi.dst v) w') a w := by
  obtain ⟨h1, h2, h3⟩ := Oper.apart_spec hap
  have keep : ∀ (a : Act), StaysAt P ops C oi v a → ∀ u, StaysAt P ops C oi v (a.put oj.dst u) := fun a hy u =>
    hy.of_same (execOp_put oi hsi a oj.dst u h3) (wanted_put oi a oj.dst u h3)
  have keepD : ∀ d, StaysAt P ops C oi v { a with defers := d :: a.defers } := fun d => hy.of_same rfl rfl
  unfold wpOp at *
  simp only [hj] at *
  rw [wanted_put oj a oi.dst v h1] at h
  split
  · rename_i hw
    simp only [hw, if_true] at h
    rcases h with h | ⟨hasks, hlets⟩
    case inr => exact .inr ⟨by unfold Oper.asks at *; rw [execOp_put oj hsj a oi.dst v h1] at hasks; exact hasks, hlets⟩
    refine .inl ?_
    unfold Oper.wp at *
    rw [execOp_put oj hsj a oi.dst v h1] at h
    generalize (execOp a.eval oj).run P w = r at *
    cases r with
    | ok n w' =>
      cases n <;> simp only [Oper.upon] at h ⊢
      case value u => exact ⟨keep a hy u, by rw [← Act.put_comm a v u h2]; exact h⟩
      case skip => exact ⟨keep a hy _, by rw [← Act.put_comm a v undef h2]; exact h⟩
      case defer d =>
        refine ⟨keep _ (keepD d) _, ?_⟩
        rw [← Act.put_comm _ v undef h2, ← Act.put_defers]
        exact h
      case enter f args =>
        refine Calls.mono h fun e w'' he => ?_
        cases e with
        | returned u => exact ⟨keep a hy u, by rw [← Act.put_comm a v u h2]; exact he⟩
        | panicked c => exact hQ _ _ _ he
        | outgrown => exact he
      case row row args => exact Rows.mono h fun u w'' he => ⟨keep a hy u, by rw [← Act.put_comm a v u h2]; exact he⟩
    | halt x w' =>
      cases x <;> simp only [Oper.upon] at h ⊢
      case panic u => exact hQ _ _ _ h
  · rename_i hw
    simp only [hw] at h
    exact ⟨keep a hy _, by rw [← Act.put_comm a v undef h2]; exact h⟩

/-- **A still operation that may come up now may be taken first.** -/
theorem wpAnyS_first {i : Nat} {oi : Oper} {v : Value} (hi : ops[i]? = some oi) (hsel : ∀ (j : Nat) (o : Oper) cs b, ops[j]? = some o → o.op ≠ .select cs b)
    (hspi : sp i = false) (hnk : ∀ (j : Nat) (listed : Array Bool), nk j = true → sp j = true → Closed ops listed → j ∈ Region.ready .any ops listed → listed.getD i true = false → False)
    (hQ : ∀ c a w, Q (.panic c) (a.put oi.dst v) w → Q (.panic c) a w) :
    ∀ (f : Nat) (listed : Array Bool) (a : Act) (w : World),
      (∀ j oj, ops[j]? = some oj → j ≠ i → listed.getD j true = false → (∀ e ∈ oj.after, Region.binds .any e = true → e.on ≠ i) → oi.apart ops oj = true) →
      Closed ops listed → i ∈ Region.ready .any ops listed → StaysAt P ops C oi v a → C w →
      wpAnyS P ops C Q sp nk f (listed.setIfInBounds i true) (a.put oi.dst v) w → wpAnyS P ops C Q sp nk (f + 1) listed a w := by
  intro f
  induction f with
  | zero =>
    intro listed a w _ _ hr hy hCw H
    refine ⟨fun h => (by rw [h] at hr; cases hr), fun j hj => ?_⟩
    by_cases hji : j = i
    · subst hji
      rw [if_neg (by rw [hspi]; simp)]
      exact ⟨hCw, hy.sOp hi H⟩
    · have := ready_mono hj hji
      rw [H.1] at this
      cases this
  | succ f ih =>
    intro listed a w hfree hcl hr hy hCw H
    refine ⟨fun h => (by rw [h] at hr; cases hr), fun j hj => ?_⟩
    by_cases hji : j = i
    · subst hji
      rw [if_neg (by rw [hspi]; simp)]
      exact ⟨hCw, hy.sOp hi H⟩
    · have h1 := H.2 j (ready_mono hj hji)
      obtain ⟨hjun, oj, hoj, hall⟩ := mem_ready.1 hj
      have hnot : ∀ e ∈ oj.after, Region.binds .any e = true → e.on ≠ i := fun e he hb heq => by
        have h1 := hall e he hb
        have h0 := (mem_ready.1 hr).1
        rw [heq] at h1
        rcases Nat.lt_or_ge i listed.size with h' | h'
        · simp [h'] at h0 h1; rw [h0] at h1; cases h1
        · simp [Array.getElem?_eq_none h'] at h1
      have hap := hfree j oj hoj hji hjun hnot
      have hfree' : ∀ k ok, ops[k]? = some ok → k ≠ i → (listed.setIfInBounds j true).getD k true = false →
          (∀ e ∈ ok.after, Region.binds .any e = true → e.on ≠ i) → oi.apart ops ok = true := fun k ok hk hki hun hno => by
        refine hfree k ok hk hki ?_ hno
        by_cases hjk : j = k
        · subst hjk; exact hjun
        · rw [getD_set_ne true hjk] at hun; exact hun
      have hcl' := hcl.set hj
      by_cases hsj : sp j = true
      · rw [if_pos hsj] at h1 ⊢
        intro w' hw'
        refine wpOp_mono (fun a' w'' h3 => ?_) (wpOp_putS hoj hap (fun cs b => hsel i oi cs b hi) (fun cs b => hsel j oj cs b hoj) hQ hy (h1 w' hw'))
        obtain ⟨hy', hC', h4⟩ := h3
        have hnkj : nk j = false := by
          cases hb : nk j with
          | false => rfl
          | true => exact (hnk j listed hb hsj hcl hj (mem_ready.1 hr).1).elim
        refine ⟨fun _ => hC' hnkj, ih (listed.setIfInBounds j true) a' w'' hfree' hcl' (ready_mono hr (Ne.symm hji)) hy' (hC' hnkj) ?_⟩
        rw [Array.setIfInBounds_comm _ _ hji]
        exact h4
      · rw [if_neg hsj] at h1 ⊢
        refine ⟨hCw, sOp_mono (fun a' h3 => ih (listed.setIfInBounds j true) a' w hfree' hcl' (ready_mono hr (Ne.symm hji)) h3.1 hCw ?_)
          (sOp_put hoj hap (fun cs b => hsel i oi cs b hi) (fun cs b => hsel j oj cs b hoj) hy h1.2)⟩
        rw [Array.setIfInBounds_comm _ _ hji]
        exact h3.2

/-! ### The order of the text: the still ones first, then the marked ones, one behind the other -/
def stillF (P : Program) (ops : Array Oper) (C : World → Prop) (sp : Nat → Bool) (R : Act → Prop) : Nat → List Oper → Act → Prop
  | _, [], a => R a
  | k, o :: rest, a => if sp k = true then stillF P ops C sp R (k + 1) rest a
      else if Region.wanted o (yielded ops a.tmps) then ∃ v, Oper.stays P C o a v ∧ stillF P ops C sp R (k + 1) rest (a.put o.dst v)
      else stillF P ops C sp R (k + 1) rest (a.put o.dst undef)

def markF (P : Program) (ops : Array Oper) (C : World → Prop) (Q : Exit → Act → World → Prop) (sp nk : Nat → Bool) : Nat → List Oper → Act → World → Prop
  | _, [], a, w => ∀ w', Ext w w' → Q .normal a w'
  | k, o :: rest, a, w => if sp k = true then ∀ w', Ext w w' → wpList P ops (Exit.then (fun a'' w'' => (nk k = false → C w'') ∧ markF P ops C Q sp nk (k + 1) rest a'' w'') Q) [o] a w'
      else markF P ops C Q sp nk (k + 1) rest a w

def cntS (sp : Nat → Bool) : Nat → Nat → Nat
  | _, 0 => 0
  | k, n + 1 => if sp k = true then cntS sp (k + 1) n else cntS sp (k + 1) n + 1
def cntM (sp : Nat → Bool) : Nat → Nat → Nat
  | _, 0 => 0
  | k, n + 1 => if sp k = true then cntM sp (k + 1) n + 1 else cntM sp (k + 1) n
theorem cnt_add (sp : Nat → Bool) : ∀ n k, cntS sp k n + cntM sp k n = n
  | 0, _ => rfl
  | n + 1, k => by
    have := cnt_add sp n (k + 1)
    unfold cntS cntM
    split <;> omega

def chkS (ops : Array Oper) (sp : Nat → Bool) : Nat → Nat → Array Bool → Option (Array Bool)
  | _, 0, listed => some listed
  | k, n + 1, listed => if sp k then chkS ops sp (k + 1) n listed
      else if (Region.ready .any ops listed).contains k && Region.free .any ops listed k then chkS ops sp (k + 1) n (listed.setIfInBounds k true) else none
def chkM (ops : Array Oper) (sp : Nat → Bool) : Nat → Nat → Array Bool → Bool
  | _, 0, listed => Region.ready .any ops listed == []
  | k, n + 1, listed => if sp k then (Region.ready .any ops listed == [k]) && chkM ops sp (k + 1) n (listed.setIfInBounds k true) else chkM ops sp (k + 1) n listed

/-- What an operation waits for, at whatever distance: the marks of one pass from the last operation to the first. -/
def preds (ops : Array Oper) (i : Nat) : List Nat :=
  match ops[i]? with
  | none => []
  | some o => (o.after.toList.filter (Region.binds .any)).map (·.on)
def marks (ops : Array Oper) (j : Nat) : Nat → List Nat → List Nat
  | 0, m => m
  | i + 1, m => marks ops j i (if i == j || m.contains i then m ++ preds ops i else m)
def chkN (ops : Array Oper) (sp nk : Nat → Bool) : Bool :=
  (List.range ops.size).all fun j => !(sp j && nk j) || (List.range ops.size).all fun i => sp i || (marks ops j ops.size []).contains i

theorem marks_listed {listed : Array Bool} (hcl : Closed ops listed) {j : Nat} (hj : j ∈ Region.ready .any ops listed) :
    ∀ (n : Nat) (m : List Nat), (∀ i ∈ m, listed.getD i false = true) → ∀ i ∈ marks ops j n m, listed.getD i false = true
  | 0, _, hm => hm
  | n + 1, m, hm => by
    unfold marks
    refine marks_listed hcl hj n _ ?_
    split
    · rename_i hn
      intro i hi
      rcases List.mem_append.1 hi with hi | hi
      · exact hm i hi
      · unfold preds at hi
        split at hi
        · cases hi
        · rename_i o ho
          obtain ⟨e, he, rfl⟩ := List.mem_map.1 hi
          obtain ⟨he, hb⟩ := List.mem_filter.1 he
          have he' : e ∈ o.after := by simpa using he
          simp only [Bool.or_eq_true, beq_iff_eq, List.contains_iff_mem] at hn
          rcases hn with rfl | hn
          · obtain ⟨_, o', ho', hall⟩ := mem_ready.1 hj
            have : o = o' := Option.some.inj (ho.symm.trans ho')
            subst this
            exact hall e he' hb
          · exact hcl n o ho (hm n hn) e he' hb
    · exact hm

theorem getD_both' {listed : Array Bool} {i : Nat} (h : listed.getD i true = false) : listed.getD i false = false := by
  rcases Nat.lt_or_ge i listed.size with h' | h'
  · simp [h'] at h ⊢; exact h
  · simp [Array.getElem?_eq_none h'] at h

theorem chkN_spec (h : chkN ops sp nk = true) {i : Nat} (hi : i < ops.size) (hspi : sp i = false) (j : Nat) (listed : Array Bool) (hn : nk j = true) (hs : sp j = true) (hcl : Closed ops listed)
    (hj : j ∈ Region.ready .any ops listed) (hun : listed.getD i true = false) : False := by
  obtain ⟨_, oj, hoj, _⟩ := mem_ready.1 hj
  have hjlt := (Array.getElem?_eq_some_iff.1 hoj).1
  have h1 := List.all_eq_true.1 h j (List.mem_range.2 hjlt)
  simp only [hs, hn, Bool.and_self, Bool.not_true, Bool.false_or] at h1
  have h2 := List.all_eq_true.1 h1 i (List.mem_range.2 hi)
  simp only [hspi, Bool.false_or, List.contains_iff_mem] at h2
  have := marks_listed hcl hj ops.size [] (by simp) i h2
  rw [getD_both' hun] at this
  cases this

theorem wpOp_of_list {i : Nat} {o : Oper} {K : Act → World → Prop} {a : Act} {w : World} (ho : ops[i]? = some o) (h : wpList P ops (Exit.then K Q) [o] a w) : wpOp P ops Q i K a w := by
  unfold wpList at h
  unfold wpOp
  simp only [ho]
  split
  · rename_i hw
    rw [if_pos hw] at h
    rcases h with h | ⟨h1, h2⟩
    · refine .inl ?_
      unfold Oper.wp at *
      generalize (execOp a.eval o).run P w = r at *
      cases r with
      | ok n w' =>
        cases n <;> simp only [Oper.upon] at h ⊢
        case value u => exact h
        case skip => exact h
        case defer d => exact h
        case enter f args =>
          refine Calls.mono h fun e w'' he => ?_
          cases e with
          | returned u => exact he
          | panicked c => exact he
          | outgrown => obtain ⟨a0, w0, hq⟩ := he; exact ⟨a0, w0, hq⟩
        case row row args => exact Rows.mono h fun u w'' he => he
      | halt x w' => cases x <;> simp only [Oper.upon] at h ⊢; exact h
    · obtain ⟨a0, w0, hq⟩ := h2
      exact .inr ⟨h1, a0, w0, hq⟩
  · rename_i hw
    rw [if_neg hw] at h
    exact h

theorem lexM (hC : ∀ w w', C w → Ext w w' → C w') : ∀ (l : List Oper) (k : Nat) (listed : Array Bool) (a : Act) (w : World), (∀ j, l[j]? = ops[k + j]?) →
    chkM ops sp k l.length listed = true → markF P ops C Q sp nk k l a w → wpAnyS P ops C Q sp nk (cntM sp k l.length) listed a w
  | [], _, _, _, _, _, hB, h => ⟨by simpa [chkM] using hB, h⟩
  | o :: l, k, listed, a, w, hl, hB, h => by
    have h0 : ops[k]? = some o := by simpa using (hl 0).symm
    have hl' : ∀ j, l[j]? = ops[k + 1 + j]? := fun j => by have := hl (j + 1); simpa [Nat.add_assoc, Nat.add_comm 1 j] using this
    simp only [List.length_cons] at hB ⊢
    unfold chkM at hB
    unfold markF at h
    unfold cntM
    by_cases hs : sp k = true
    · rw [if_pos hs] at hB h ⊢
      simp only [Bool.and_eq_true, beq_iff_eq] at hB
      obtain ⟨hr, hB'⟩ := hB
      refine ⟨fun h0 => (by rw [hr] at h0; cases h0), fun i hi => ?_⟩
      rw [hr] at hi
      obtain rfl : i = k := by simpa using hi
      rw [if_pos hs]
      intro w' hw'
      exact wpOp_mono (fun a'' w'' h3 => ⟨h3.1, lexM hC l (i + 1) _ a'' w'' hl' hB' h3.2⟩) (wpOp_of_list h0 (h w' hw'))
    · rw [if_neg hs] at hB h ⊢
      exact lexM hC l (k + 1) listed a w hl' hB h

theorem lexS (hC : ∀ w w', C w → Ext w w' → C w') (hsel : Region.noSelect ops = true) (hN : chkN ops sp nk = true) (hQ : ∀ c a d v w, Q (.panic c) (a.put d v) w → Q (.panic c) a w) (m : Nat) :
    ∀ (l : List Oper) (k : Nat) (listed listed' : Array Bool) (a : Act) (w : World), (∀ j, l[j]? = ops[k + j]?) →
      chkS ops sp k l.length listed = some listed' → Closed ops listed → C w → stillF P ops C sp (fun a' => wpAnyS P ops C Q sp nk m listed' a' w) k l a →
      wpAnyS P ops C Q sp nk (cntS sp k l.length + m) listed a w
  | [], _, _, _, _, _, _, hB, _, _, h => by
    simp only [List.length_nil, chkS, Option.some.injEq] at hB
    subst hB
    simpa [cntS, stillF] using h
  | o :: l, k, listed, listed', a, w, hl, hB, hcl, hCw, h => by
    have h0 : ops[k]? = some o := by simpa using (hl 0).symm
    have hl' : ∀ j, l[j]? = ops[k + 1 + j]? := fun j => by have := hl (j + 1); simpa [Nat.add_assoc, Nat.add_comm 1 j] using this
    simp only [List.length_cons] at hB ⊢
    unfold chkS at hB
    unfold stillF at h
    unfold cntS
    by_cases hs : sp k = true
    · rw [if_pos hs] at hB h ⊢
      exact lexS hC hsel hN hQ m l (k + 1) listed listed' a w hl' hB hcl hCw h
    · rw [if_neg hs] at hB h ⊢
      split at hB
      · rename_i hrf
        simp only [Bool.and_eq_true] at hrf
        obtain ⟨hr, hf⟩ := hrf
        have hr' : k ∈ Region.ready .any ops listed := by simpa using hr
        have hst : ∃ v, StaysAt P ops C o v a ∧ stillF P ops C sp (fun a' => wpAnyS P ops C Q sp nk m listed' a' w) (k + 1) l (a.put o.dst v) := by
          split at h
          · rename_i hw; obtain ⟨v, h1, h2⟩ := h; exact ⟨v, .inl ⟨hw, h1⟩, h2⟩
          · rename_i hw; exact ⟨undef, .inr ⟨by simpa using hw, rfl⟩, h⟩
        obtain ⟨v, hy, hK⟩ := hst
        rw [show cntS sp (k + 1) l.length + 1 + m = (cntS sp (k + 1) l.length + m) + 1 by omega]
        exact wpAnyS_first h0 (Region.noSelect_spec hsel) (by simpa using hs) (fun j L hn hsj hc hj hun => chkN_spec hN (Array.getElem?_eq_some_iff.1 h0).1 (by simpa using hs) j L hn hsj hc hj hun) (fun c a w => hQ c a _ _ w)
          _ listed a w (Region.free_spec h0 hf) hcl hr' hy hCw
          (lexS hC hsel hN hQ m l (k + 1) _ listed' _ w hl' hB (hcl.set hr') hCw hK)
      · cases hB

/-- The three checks on a region's text in one. -/
def chkR (ops : Array Oper) (sp nk : Nat → Bool) : Bool :=
  Region.noSelect ops && chkN ops sp nk && (match chkS ops sp 0 ops.size (Array.replicate ops.size false) with | some l => chkM ops sp 0 ops.size l | none => false)

theorem wpAny_R {l : List Oper} (hB : chkR l.toArray sp nk = true) (hC : ∀ w w', C w → Ext w w' → C w') (hQ : ∀ c a d v w, Q (.panic c) (a.put d v) w → Q (.panic c) a w)
    {a : Act} {w : World} (h0 : C w) (h : stillF P l.toArray C sp (fun a' => markF P l.toArray C Q sp nk 0 l a' w) 0 l a) :
    wpAny P .any l.toArray Q l.toArray.size (Array.replicate l.toArray.size false) a w := by
  unfold chkR at hB
  simp only [Bool.and_eq_true] at hB
  obtain ⟨⟨hsel, hN⟩, hB⟩ := hB
  split at hB
  · rename_i listed' hS
    refine wpAny_of_S (sp := sp) (nk := nk) hC _ _ _ _ ?_
    have hcl : Closed l.toArray (Array.replicate l.toArray.size false) := fun j o _ hj => by
      rcases Nat.lt_or_ge j l.length with hh | hh
      · simp [hh] at hj
      · simp [hh] at hj
    have := lexS (P := P) (Q := Q) hC hsel hN hQ (cntM sp 0 l.length) l 0 _ listed' a w (by simp) (by simpa using hS) hcl h0 ?_
    · rw [cnt_add] at this
      simpa using this
    · have conv : ∀ (l2 : List Oper) (k : Nat) (a : Act), stillF P l.toArray C sp (fun a' => markF P l.toArray C Q sp nk 0 l a' w) k l2 a →
          stillF P l.toArray C sp (fun a' => wpAnyS P l.toArray C Q sp nk (cntM sp 0 l.length) listed' a' w) k l2 a := by
        intro l2
        induction l2 with
        | nil => exact fun k a h => lexM hC l 0 listed' a w (by simp) (by simpa using hB) h
        | cons o l2 ih =>
          intro k a h
          unfold stillF at h ⊢
          split
          · rename_i hs; rw [if_pos hs] at h; exact ih _ _ h
          · rename_i hs
            rw [if_neg hs] at h
            split
            · rename_i hw
              rw [if_pos hw] at h
              obtain ⟨v, h1, h2⟩ := h
              exact ⟨v, h1, ih _ _ h2⟩
            · rename_i hw
              rw [if_neg hw] at h
              exact ih _ _ h
      exact conv l 0 a h
  · cases hB

/-- The order of the text, sealed: what is not to be opened by evaluation. -/
structure wpStill (P : Program) (ops : Array Oper) (C : World → Prop) (sp : Nat → Bool) (R : Act → Prop) (k : Nat) (l : List Oper) (a : Act) : Prop where
  out : stillF P ops C sp R k l a
structure wpMark (P : Program) (ops : Array Oper) (C : World → Prop) (Q : Exit → Act → World → Prop) (sp nk : Nat → Bool) (k : Nat) (l : List Oper) (a : Act) (w : World) : Prop where
  out : markF P ops C Q sp nk k l a w
theorem stillF_mono {R R' : Act → Prop} (h : ∀ a, R a → R' a) : ∀ (l : List Oper) (k : Nat) (a : Act), stillF P ops C sp R k l a → stillF P ops C sp R' k l a
  | [], _, _, hh => h _ hh
  | o :: l, k, a, hh => by
    unfold stillF at hh ⊢
    split
    · rename_i hs; rw [if_pos hs] at hh; exact stillF_mono h l _ _ hh
    · rename_i hs
      rw [if_neg hs] at hh
      split
      · rename_i hw
        rw [if_pos hw] at hh
        obtain ⟨v, h1, h2⟩ := hh
        exact ⟨v, h1, stillF_mono h l _ _ h2⟩
      · rename_i hw
        rw [if_neg hw] at hh
        exact stillF_mono h l _ _ hh

/-- **A region that draws its order**, the marked operations named by their numbers: C is what the still ones lean on. -/
theorem wp_region_R {l : List Oper} (spL nkL : List Nat) {id : Nat} {a : Act} {w : World} (C : World → Prop) (hm : P.follows .mixedOrders = true)
    (hB : chkR l.toArray (fun i => spL.contains i) (fun i => nkL.contains i) = true) (hC : ∀ w w', C w → Ext w w' → C w') (hQ : ∀ c a d v w, Q (.panic c) (a.put d v) w → Q (.panic c) a w) (h0 : C w.drew)
    (h : wpStill P l.toArray C (fun i => spL.contains i) (fun a' => wpMark P l.toArray C Q (fun i => spL.contains i) (fun i => nkL.contains i) 0 l a' w.drew) 0 l a) : (Code.region id l.toArray true).wp P Q a w :=
  wp_region_any hm (wpAny_R hB hC hQ h0 (stillF_mono (fun _ h => h.out) _ _ _ h.out))

/-! ### The steps of the walk -/
variable {R : Act → Prop} {k : Nat} {o : Oper} {rest : List Oper} {a : Act} {w : World} {v : Value}
theorem wpStill_nil (h : R a) : wpStill P ops C sp R k [] a := ⟨h⟩
theorem wpStill_skip (hs : sp k = true) (h : wpStill P ops C sp R (k + 1) rest a) : wpStill P ops C sp R k (o :: rest) a := by
  constructor; unfold stillF; rw [if_pos hs]; exact h.out
theorem wpStill_go (hs : sp k = false) (hw : Region.wanted o (yielded ops a.tmps) = true) (hv : Oper.stays P C o a v) (h : wpStill P ops C sp R (k + 1) rest (a.put o.dst v)) : wpStill P ops C sp R k (o :: rest) a := by
  constructor; unfold stillF; rw [if_neg (by rw [hs]; simp), if_pos hw]; exact ⟨v, hv, h.out⟩
theorem wpStill_off (hs : sp k = false) (hw : Region.wanted o (yielded ops a.tmps) = false) (h : wpStill P ops C sp R (k + 1) rest (a.put o.dst undef)) : wpStill P ops C sp R k (o :: rest) a := by
  constructor; unfold stillF; rw [if_neg (by rw [hs]; simp), if_neg (by rw [hw]; simp)]; exact h.out
theorem wpMark_nil (h : ∀ w', Ext w w' → Q .normal a w') : wpMark P ops C Q sp nk k [] a w := ⟨h⟩
theorem wpMark_skip (hs : sp k = false) (h : wpMark P ops C Q sp nk (k + 1) rest a w) : wpMark P ops C Q sp nk k (o :: rest) a w := by
  constructor; unfold markF; rw [if_neg (by rw [hs]; simp)]; exact h.out
theorem wpMark_go (hs : sp k = true) (h : ∀ w', Ext w w' → ∀ K : Act → World → Prop, (∀ a'' w'', (nk k = false → C w'') → wpMark P ops C Q sp nk (k + 1) rest a'' w'' → K a'' w'') → wpList P ops (Exit.then K Q) [o] a w') : wpMark P ops C Q sp nk k (o :: rest) a w := by
  constructor; unfold markF; rw [if_pos hs]
  exact fun w' hw' => h w' hw' _ fun _ _ h1 h2 => ⟨h1, h2.out⟩
theorem stays_run (h : ∀ w, C w → (execOp a.eval o).run P w = .ok (.value v) w) : Oper.stays P C o a v := fun w hw => by
  unfold Oper.quietAt; rw [h w hw]; exact ⟨rfl, rfl⟩
theorem stays_call {f : FuncId} {args : Array Value} (h : ∀ w, C w → (execOp a.eval o).run P w = .ok (.enter f args) w) (hc : ∀ w, C w → Calls P f args w fun e w' => e = .returned v ∧ Below w.heap.size w w') : Oper.stays P C o a v := fun w hw => by
  unfold Oper.quietAt; rw [h w hw]; exact ⟨rfl, hc w hw⟩
/-! ### The same within a round of a loop over a function -/
theorem rowsIn_of {row : String} {args : Array Value} {R : Value → World → Prop} {n l : Nat} (h : Rows P row args w R) : RowsIn (Fence.wide.inRound l) n P row args w R :=
  fun c cs _ => let ⟨v, w', r, s⟩ := h c cs; ⟨v, w', r, stepsIn_wide.2 s⟩

theorem wpOpIn_of {i n l : Nat} {K K' : Act → World → Prop} (hnd : ∀ (i : Nat) (o : Oper) c, ops[i]? = some o → o.op ≠ .defer c) (hout : ¬ LetsOut Q) (hK : ∀ a w, K a w → K' a w)
    (h : wpOp P ops Q i K a w) : wpOpIn (Fence.wide.inRound l) n P ops Q i K' a w := by
  unfold wpOp at h
  unfold wpOpIn
  split
  · rename_i ho; simp only [ho] at h; exact hK _ _ h
  · rename_i o ho
    simp only [ho] at h
    split
    · rename_i hw
      rw [if_pos hw] at h
      rcases h with h | ⟨_, h⟩
      · refine ⟨fun _ _ => trivial, ?_⟩
        unfold Oper.wp at h
        rw [show (Fence.wide.inRound l).round = some l from rfl, Oper.semAt_some l _ _ (hnd i o · ho)]
        generalize (execOp a.eval o).run P w = r at *
        cases r with
        | ok x w' =>
          cases x <;> simp only [Oper.upon] at h <;> simp only [Oper.uponIn]
          case value u => exact hK _ _ h
          case skip => exact hK _ _ h
          case defer d => exact hK _ _ h
          case enter f args =>
            refine ⟨fun hd => by simp [Fence.wide] at hd, CallsIn.inRound l (callsIn_wide.2 (Calls.mono h fun e w'' he => ?_))⟩
            cases e with
            | returned u => exact hK _ _ he
            | panicked c => exact he
            | outgrown => exact he
          case row row args => exact ⟨fun hd => by simp [Fence.wide] at hd, rowsIn_of (h.mono fun u w'' he => hK _ _ he)⟩
        | halt x w' => cases x <;> simp only [Oper.upon] at h <;> simp only [Oper.uponIn]; exact h
      · exact absurd h hout
    · rename_i hw
      rw [if_neg hw] at h
      exact ⟨fun _ _ => trivial, hK _ _ h⟩

theorem wpAnyIn_of {n l : Nat} (hnd : ∀ (i : Nat) (o : Oper) c, ops[i]? = some o → o.op ≠ .defer c) (hout : ¬ LetsOut Q) :
    ∀ (f : Nat) (listed : Array Bool) (a : Act) (w : World), wpAny P .any ops Q f listed a w → wpAnyIn (Fence.wide.inRound l) n P .any ops Q f listed a w
  | 0, _, _, _, h => h
  | f + 1, _, _, _, h => ⟨h.1, fun i hi => wpOpIn_of hnd hout (fun a' w' h' => wpAnyIn_of hnd hout f _ a' w' h') (h.2 i hi)⟩

def noDefer (ops : Array Oper) : Bool := ops.all fun o => match o.op with | .defer _ => false | _ => true
theorem noDefer_spec (h : noDefer ops = true) (i : Nat) (o : Oper) (c) (ho : ops[i]? = some o) : o.op ≠ .defer c := by
  intro heq
  have := Array.all_eq_true_iff_forall_mem.1 h o (Array.mem_of_getElem? ho)
  simp [heq] at this

theorem wpIn_region_R {l : List Oper} (spL nkL : List Nat) {id n r : Nat} {a : Act} {w : World} (C : World → Prop) (hm : P.follows .mixedOrders = true) (hd : noDefer l.toArray = true)
    (hB : chkR l.toArray (fun i => spL.contains i) (fun i => nkL.contains i) = true) (hout : ¬ LetsOut Q) (hC : ∀ w w', C w → Ext w w' → C w') (hQ : ∀ c a d v w, Q (.panic c) (a.put d v) w → Q (.panic c) a w) (h0 : C w.drew)
    (h : wpStill P l.toArray C (fun i => spL.contains i) (fun a' => wpMark P l.toArray C Q (fun i => spL.contains i) (fun i => nkL.contains i) 0 l a' w.drew) 0 l a) :
    (Code.region id l.toArray true).wpIn (Fence.wide.inRound r) n P Q a w :=
  wpIn_region_any hm (wpAnyIn_of (noDefer_spec hd) hout _ _ _ _ (wpAny_R hB hC hQ h0 (stillF_mono (fun _ h => h.out) _ _ _ h.out)))

end
end Go.Proofs.YtipgpafgampfbaaGreatDoor

namespace Go.Proofs.YtipgpafgampfbaaGreatDoor
open Go.RowKit
theorem addr_add (b j : Nat) : (⟨b, 0, none⟩ : Addr).add j = ⟨b, j, none⟩ := by
  by_cases h : j = 0
  · subst h; simp [Addr.add]
  · simp [Addr.add, h]
section
variable {P : Program} {ρ : Operand → Value} {o : Oper} {w : World}
theorem ex_move {x : Operand} {v : Value} (ho : o.op = .move x) (hx : ρ x = v) : (execOp ρ o).run P w = .ok (.value v) w := by
  subst hx; simp [execOp, ho]
theorem ex_load {t : TypeId} {x : Operand} {V v : Value} (ho : o.op = .load t x) (hx : ρ x = V) (hl : (Instr.loadAt t V).run P w = .ok v w) : (execOp ρ o).run P w = .ok (.value v) w := by
  subst hx; simp [execOp, ho, hl]
theorem size_of {t : TypeId} {s : Nat} (hs : (P.info? t).map (·.size) = some s) (w : World) : (sizeOf t).run P w = .ok s w := by
  obtain ⟨i, hi, rfl⟩ := Option.map_eq_some_iff.1 hs
  simp [sizeOf, typeInfo, hi]
def plainT (P : Program) (t : TypeId) : Bool := match P.underlying t with | none => false | some (.struct _) => false | some (.array _ _) => false | _ => true
theorem isAgg_plainT {t : TypeId} (h : plainT P t = true) (w : World) : (isAgg t).run P w = .ok false w := by
  unfold plainT at h
  cases hd : P.underlying t with
  | none => rw [hd] at h; cases h
  | some d => rw [hd] at h; exact run_isAgg_plain hd (by cases d <;> first | rfl | (exact absurd h (by simp))) w
theorem ld_one {t : TypeId} {b i : Nat} {v : Value} (ht : plainT P t = true) (h : w.cell? ⟨b, i, none⟩ = some v) : (Instr.loadAt t (.pointer (some ⟨b, i, none⟩))).run P w = .ok v w := by
  simp [Instr.loadAt, Instr.sureAddr, loadVar, go_sem, h, isAgg_plainT ht]
def structT (P : Program) (t : TypeId) : Bool := match P.underlying t with | some (.struct _) => true | _ => false
theorem isAgg_structT {t : TypeId} (h : structT P t = true) (w : World) : (isAgg t).run P w = .ok true w := by
  unfold structT at h
  cases hd : P.underlying t with
  | none => rw [hd] at h; cases h
  | some d =>
    rw [hd] at h
    cases d <;> first | (simp [isAgg, run_underlying hd]; done) | (exact absurd h (by simp))
theorem ld_two {t : TypeId} {b i : Nat} {u v : Value} (ht : structT P t = true) (hs : (P.info? t).map (·.size) = some 2) (h : w.cell? ⟨b, i, none⟩ = some u) (h2 : w.cell? ⟨b, i + 1, none⟩ = some v) :
    (Instr.loadAt t (.pointer (some ⟨b, i, none⟩))).run P w = .ok (.agg #[u, v]) w := by
  have e1 : ∀ w, (isAgg t).run P w = .ok true w := isAgg_structT ht
  simp [Instr.loadAt, Instr.sureAddr, loadVar, go_sem, h, h2, e1, size_of hs, loadCellsFrom]
theorem ex_len {t : TypeId} {x : Operand} {A : Option Addr} {n c : Nat} (ho : o.op = .call { callee := .builtin .len, args := #[x], argTypes := #[t] }) (ht : P.underlying t = some (.slice (P.elem t))) (hx : ρ x = .slice A n c) :
    (execOp ρ o).run P w = .ok (.value (.int .i64 n)) w := by
  have h := run_len_slice (P := P) w t o.type A n c ht
  simp [execOp, ho, resolve, invoke, builtin, hx, h, goInt]
theorem ex_index {t : TypeId} {x i : Operand} {b f : Nat} {n c j s : Nat} {k : IntKind} (ho : o.op = .indexAddr t x i) (ht : P.underlying t = some (.slice (P.elem t))) (hs : (P.info? (P.elem t)).map (·.size) = some s) (hx : ρ x = .slice (some ⟨b, f, none⟩) n c) (hi : ρ i = .int k j) (hj : j < n) :
    (execOp ρ o).run P w = .ok (.value (.pointer (some ⟨b, f + j * s, none⟩))) w := by
  have h := run_indexAt_slice (P := P) w t ⟨b, f, none⟩ n c k j ht
  rw [if_pos (by omega)] at h
  simp only [execOp, ho, hx, hi, h, size_of hs, Sem.run_bind, Result.andThen_ok, Sem.run_pure]
  simp [Addr.add]
end
/-- A postcondition that knows the normal exit alone. -/
def onlyN (K : Act → World → Prop) : Exit → Act → World → Prop
  | .normal, a, w => K a w
  | _, _, _ => False
theorem onlyN_imp {Q : Exit → Act → World → Prop} (e : Exit) (a : Act) (w : World) (h : onlyN (Q .normal) e a w) : Q e a w := by
  cases e <;> first | exact h | exact h.elim
section
variable {P : Program} {Q : Exit → Act → World → Prop}
theorem wp_region_N {l : List Oper} (spL nkL : List Nat) {id : Nat} {a : Act} {w : World} (hm : P.follows .mixedOrders = true) (hB : chkR l.toArray (fun i => spL.contains i) (fun i => nkL.contains i) = true)
    (h : wpStill P l.toArray (Below w.heap.size w) (fun i => spL.contains i) (fun a' => wpMark P l.toArray (Below w.heap.size w) (onlyN (Q .normal)) (fun i => spL.contains i) (fun i => nkL.contains i) 0 l a' w.drew) 0 l a) : (Code.region id l.toArray true).wp P Q a w :=
  wp_mono (wp_region_R spL nkL (Below w.heap.size w) hm hB (fun _ _ h h' => h.trans (h'.mono h.size)) (fun _ _ _ _ _ h => h.elim) (Below.refl _ _).drew h) onlyN_imp
theorem wpIn_region_N {l : List Oper} (spL nkL : List Nat) {id n r : Nat} {a : Act} {w : World} (hm : P.follows .mixedOrders = true) (hd : noDefer l.toArray = true) (hB : chkR l.toArray (fun i => spL.contains i) (fun i => nkL.contains i) = true)
    (h : wpStill P l.toArray (Below w.heap.size w) (fun i => spL.contains i) (fun a' => wpMark P l.toArray (Below w.heap.size w) (onlyN (Q .normal)) (fun i => spL.contains i) (fun i => nkL.contains i) 0 l a' w.drew) 0 l a) : (Code.region id l.toArray true).wpIn (Fence.wide.inRound r) n P Q a w :=
  wpIn_mono (wpIn_region_R spL nkL (Below w.heap.size w) hm hd hB (fun ⟨_, _, h⟩ => h) (fun _ _ h h' => h.trans (h'.mono h.size)) (fun _ _ _ _ _ h => h.elim) (Below.refl _ _).drew h) onlyN_imp
end
end Go.Proofs.YtipgpafgampfbaaGreatDoor

namespace Go.Proofs.YtipgpafgampfbaaGreatDoor
open Go.RowKit
theorem own_ext {W W' : World} {B e size n : Nat} {v : Value} {xs : List Value} (h : W.ownsRow B e size v n xs) (hb : Below W.heap.size W W') : W'.ownsRow B e size v n xs := by
  rcases h with ⟨hl, h | ⟨g, cap, cur, rfl, hB, hg, h1, h2, h3, h4⟩⟩
  · exact ⟨hl, .inl h⟩
  · refine ⟨hl, .inr ⟨g, cap, cur, rfl, hB, (hb.block g ?_).trans hg, h1, h2, h3, h4⟩⟩
    exact (Array.getElem?_eq_some_iff.1 hg).1
theorem boxed_ext {W W' : World} {B : Nat} {t : TypeId} {v : Value} (h : Boxed W B t v) (hb : Below W.heap.size W W') : Boxed W' B t v := (hb.block B h.lt).trans h
theorem own_lt {W : World} {B e size n : Nat} {v : Value} {xs : List Value} (h : W.ownsRow B e size v n xs) {j : Nat} (hj : v.ownBlock = some j) : B ≤ j ∧ j < W.heap.size ∧ ∃ cs fr, W.heap[j]? = some (.cells cs e fr) := by
  rcases h with ⟨hl, ⟨rfl, _⟩ | ⟨g, cap, cur, rfl, hB, hg, h1, h2, h3, h4⟩⟩
  · simp [Value.ownBlock] at hj
  · obtain rfl : g = j := by simpa [Value.ownBlock] using hj
    exact ⟨hB, (Array.getElem?_eq_some_iff.1 hg).1, _, _, hg⟩
theorem keeps_ext {W W' : World} (hb : Below W.heap.size W W') : KeepsOthers W W' := ⟨hb.size, fun k _ hk _ => (hb.block k (Array.getElem?_eq_some_iff.1 hk).1).trans hk⟩

/-- What an append and the store of its result into the box leave. -/
structure Grew (W : World) (n₀ B : Nat) (t e : TypeId) (size : Nat) (v v' : Value) (m : Nat) (ys : List Value) (w4 w6 : World) : Prop where
  mid : Boxed w4 B t v
  box : Boxed w6 B t v'
  own : w6.ownsRow n₀ e size v' m ys
  keeps : KeepsOthers W w6
  below : Below n₀ W w6
  rest : ∀ j, j < W.heap.size → j ≠ B → some j ≠ v.ownBlock → w6.heap[j]? = W.heap[j]?

theorem grew_mid {W w2 w3 w4 : World} {n₀ B : Nat} {t e : TypeId} {size : Nat} {v : Value} {k : Nat} {xs : List Value}
    (hv : Boxed W B t v) (hte : t ≠ e) (hrow : W.ownsRow n₀ e size v k xs) (hE : Below W.heap.size W w2) (hgrow : w2.grownBy w3 v.ownBlock) (hE2 : Below w3.heap.size w3 w4) : Boxed w4 B t v :=
  boxed_ext ((boxed_ext hv hE).kept hgrow (hv.not_row hte hrow)) hE2

theorem grew_of {W w2 w3 w4 w6 : World} {n₀ B : Nat} {t e : TypeId} {size : Nat} {v v' : Value} {k m : Nat} {xs ys : List Value}
    (hv : Boxed W B t v) (hte : t ≠ e) (hrow : W.ownsRow n₀ e size v k xs) (hn₀ : n₀ ≤ W.heap.size) (hB : n₀ ≤ B)
    (hE : Below W.heap.size W w2) (hown' : w3.ownsRow n₀ e size v' m ys) (hgrow : w2.grownBy w3 v.ownBlock) (hE2 : Below w3.heap.size w3 w4)
    (hE3 : Below (w4.setCell ⟨B, 0, none⟩ v').heap.size (w4.setCell ⟨B, 0, none⟩ v') w6) : Grew W n₀ B t e size v v' m ys w4 w6 := by
  have h4 : Boxed w4 B t v := grew_mid hv hte hrow hE hgrow hE2
  have hown4 : w4.ownsRow n₀ e size v' m ys := own_ext hown' hE2
  have h5 := hown4.kept (grownBy_setCell' w4 B v') (.inr (h4.not_row hte hown4).symm)
  have hs5 : (w4.setCell ⟨B, 0, none⟩ v').heap.size = w4.heap.size := by simp [World.setCell]
  have hrest : ∀ j, j < W.heap.size → j ≠ B → some j ≠ v.ownBlock → w6.heap[j]? = W.heap[j]? := by
    intro j hj hjB hjv
    have j2 : j < w2.heap.size := Nat.lt_of_lt_of_le hj hE.size
    have j3 : j < w3.heap.size := Nat.lt_of_lt_of_le j2 hgrow.size
    have j4 : j < w4.heap.size := Nat.lt_of_lt_of_le j3 hE2.size
    rw [hE3.block j (by rw [hs5]; exact j4), (grownBy_setCell' w4 B v').block j j4 (by simpa using hjB), hE2.block j j3, hgrow.block j j2 hjv, hE.block j hj]
  have hsz : W.heap.size ≤ w6.heap.size := by
    have := hE.size; have := hgrow.size; have := hE2.size; have := hE3.size; omega
  refine ⟨h4, boxed_ext (h4.set v') hE3, own_ext h5 hE3, ⟨hsz, fun j o hj ho => ?_⟩, ⟨?_, ?_, ?_, hsz, fun j hj => ?_⟩, hrest⟩
  · refine (hrest j (Array.getElem?_eq_some_iff.1 hj).1 ?_ ?_).trans hj
    · rintro rfl
      rw [show W.heap[j]? = _ from hv] at hj; cases hj; cases ho
    · intro hjv
      obtain ⟨_, _, _, _, hc⟩ := own_lt hrow hjv.symm
      rw [hj] at hc; cases hc; cases ho
  · rw [hE3.os, (grownBy_setCell' w4 B v').os, hE2.os, hgrow.os, hE.os]
  · rw [hE3.tape, (grownBy_setCell' w4 B v').tape, hE2.tape, hgrow.tape, hE.tape]
  · rw [hE3.output, (grownBy_setCell' w4 B v').output, hE2.output, hgrow.output, hE.output]
  · refine hrest j (by omega) (by omega) fun hjv => ?_
    have := (own_lt hrow hjv.symm).1
    omega
end Go.Proofs.YtipgpafgampfbaaGreatDoor
