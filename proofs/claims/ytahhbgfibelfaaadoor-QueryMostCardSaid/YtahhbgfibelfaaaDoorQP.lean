import Derived.Test.YtahhbgfibelfaaaDoorQ3
import Derived.Deep.RegionHeld3
import Derived.StillTail
import Derived.Outline
import Derived.Deep.DeepMust
namespace Go.Proofs.YtahhbgfibelfaaaDoor
open Go.RowKit Go.Lib
set_option linter.unusedVariables false

attribute [local go_sem] wfld0 wfld1 wfld2 wfld3
/-! ### A region that draws its order: what it reads is taken first, a middle part keeps S, then a tail goes in the order of the text (the tail may write what the region has read) -/
section
variable {P : Program} {ops : Array Oper} {Q : Exit → Act → World → Prop} {md : Region.Mode} {S : World → Prop}

def wpAnyM (P : Program) (md : Region.Mode) (ops : Array Oper) (Q : Exit → Act → World → Prop) (S : World → Prop) (L : Array Bool → Act → World → Prop) : Nat → Array Bool → Act → World → Prop
  | 0, listed, a, w => L listed a w
  | f + 1, listed, a, w => Region.ready md ops listed ≠ [] ∧ ∀ i ∈ Region.ready md ops listed, wpOp P ops Q i (fun a' w' => S w' ∧ wpAnyM P md ops Q S L f (listed.setIfInBounds i true) a' w') a w

theorem wpAny_of_M {g : Nat} {L : Array Bool → Act → World → Prop} (hL : ∀ listed a w, L listed a w → wpAny P md ops Q g listed a w) :
    ∀ (f : Nat) (listed : Array Bool) (a : Act) (w : World), wpAnyM P md ops Q S L f listed a w → wpAny P md ops Q (f + g) listed a w
  | 0, _, _, _, h => by rw [Nat.zero_add]; exact hL _ _ _ h
  | f + 1, _, _, _, h => by
    rw [show f + 1 + g = (f + g) + 1 by omega]
    exact ⟨fun h0 => absurd h0 h.1, fun i hi => wpOp_mono (fun a' w' h' => wpAny_of_M hL f _ a' w' h'.2) (h.2 i hi)⟩

theorem wpAnyM_first {n i : Nat} {oi : Oper} {v : Value} {L : Array Bool → Act → World → Prop} (hi : ops[i]? = some oi) (hsel : ∀ (j : Nat) (o : Oper) cs b, ops[j]? = some o → o.op ≠ .select cs b)
    (hs : Region.sinkB md ops n = true) (hc : Region.chainB md ops n = true) (hn : n < ops.size) (hin : i < n)
    (hQ : ∀ c a w, Q (.panic c) (a.put oi.dst v) w → Q (.panic c) a w)
    (hdone : ∀ listed a w, L listed a w → ∀ j ∈ Region.ready md ops listed, n ≤ j) :
    ∀ (f : Nat) (listed : Array Bool) (a : Act) (w : World), HeadInv md ops n listed →
      (∀ j oj, ops[j]? = some oj → j ≠ i → listed.getD j true = false → (∀ e ∈ oj.after, Region.binds md e = true → e.on ≠ i) → oi.apart ops oj = true) →
      i ∈ Region.ready md ops listed → YieldsIf P ops S oi v a → S w →
      wpAnyM P md ops Q S L f (listed.setIfInBounds i true) (a.put oi.dst v) w → wpAnyM P md ops Q S L (f + 1) listed a w := by
  intro f
  induction f with
  | zero =>
    intro listed a w inv _ hr hy hS H
    have hun := (mem_ready.1 hr).1
    refine ⟨fun h => (by rw [h] at hr; cases hr), fun j hj => ?_⟩
    have hjn : j < n := by
      rcases Nat.lt_or_ge j n with h | h
      · exact h
      · exact absurd hj (tail_waits hs hc hn inv _ i rfl hin hun j h)
    by_cases hji : j = i
    · subst hji; exact hy.wpOp hi hS ⟨hS, H⟩
    · have := hdone _ _ _ H j (ready_mono hj hji)
      omega
  | succ f ih =>
    intro listed a w inv hfree hr hy hS H
    have hun := (mem_ready.1 hr).1
    refine ⟨fun h => (by rw [h] at hr; cases hr), fun j hj => ?_⟩
    have hjn : j < n := by
      rcases Nat.lt_or_ge j n with h | h
      · exact h
      · exact absurd hj (tail_waits hs hc hn inv _ i rfl hin hun j h)
    by_cases hji : j = i
    · subst hji; exact hy.wpOp hi hS ⟨hS, H⟩
    · have h1 := H.2 j (ready_mono hj hji)
      obtain ⟨hjun, oj, hoj, hall⟩ := mem_ready.1 hj
      have hnot : ∀ e ∈ oj.after, Region.binds md e = true → e.on ≠ i := fun e he hb heq => by
        have h1 := hall e he hb
        rw [heq, getD_both hun] at h1
        cases h1
      have h2 := wpOp_putIf hoj (hfree j oj hoj hji hjun hnot) (fun cs b => hsel i oi cs b hi) (fun cs b => hsel j oj cs b hoj) hQ hy h1
      refine wpOp_mono (fun a' w' h3 => ⟨h3.2.1, ih (listed.setIfInBounds j true) a' w' (inv.set hj hjn) ?_ (ready_mono hr (Ne.symm hji)) h3.1 h3.2.1 ?_⟩) h2
      · intro k ok hk hki hunk hno
        refine hfree k ok hk hki ?_ hno
        by_cases hjk : j = k
        · subst hjk; exact hjun
        · rw [getD_set_ne true hjk] at hunk; exact hunk
      · rw [Array.setIfInBounds_comm _ _ hji]
        exact h3.2.2

/-- The head, in the order of the text: each operation yields its value in every world that meets S. -/
def wpTake (P : Program) (ops : Array Oper) (S : World → Prop) (L : Act → Prop) : List Oper → Act → Prop
  | [], a => L a
  | o :: l, a => ∃ v, YieldsIf P ops S o v a ∧ wpTake P ops S L l (a.put o.dst v)
/-- The middle, in the order of the text: S is shown anew behind each operation. -/
def wpMid (P : Program) (ops : Array Oper) (Q : Exit → Act → World → Prop) (S : World → Prop) (L : Act → World → Prop) : List Oper → Act → World → Prop
  | [], a, w => L a w
  | o :: l, a, w => o.guard = none ∧ o.wp P a w (fun a' w' => S w' ∧ wpMid P ops Q S L l a' w') Q

def midB (md : Region.Mode) (ops : Array Oper) (g : Nat) : Nat → Nat → Array Bool → Bool
  | 0, k, listed => Region.seqB md ops g k listed
  | f + 1, k, listed => decide (Region.ready md ops listed = [k]) && midB md ops g f (k + 1) (listed.setIfInBounds k true)
def headB (md : Region.Mode) (ops : Array Oper) (g f2 : Nat) : Nat → Nat → Array Bool → Bool
  | 0, k, listed => midB md ops g f2 k listed
  | f + 1, k, listed => (Region.ready md ops listed).contains k && Region.free md ops listed k && headB md ops g f2 f (k + 1) (listed.setIfInBounds k true)
/-- m operations are taken first, those from m to n keep S, those from n on are the tail. -/
def heldTailB (md : Region.Mode) (ops : Array Oper) (m n : Nat) : Bool :=
  Region.noSelect ops && decide (n < ops.size) && decide (m ≤ n) && Region.sinkB md ops n && Region.chainB md ops n && headB md ops (ops.size - n) (n - m) m 0 (Array.replicate ops.size false)

theorem wpAnyM_mid {g n : Nat} {Lq : Act → World → Prop} : ∀ (l : List Oper) (k : Nat) (listed : Array Bool) (a : Act) (w : World), (∀ j, j < l.length → l[j]? = ops[k + j]?) → k + l.length = n →
    midB md ops g l.length k listed = true → wpMid P ops Q S Lq l a w → wpAnyM P md ops Q S (fun listed' a' w' => Region.seqB md ops g n listed' = true ∧ Lq a' w') l.length listed a w
  | [], k, listed, a, w, _, hk, hB, h => by
    have : k = n := by simpa using hk
    subst this
    exact ⟨by simpa [midB] using hB, h⟩
  | o :: l, k, listed, a, w, hl, hk, hB, h => by
    have h0 : ops[k]? = some o := by simpa using (hl 0 (by simp)).symm
    simp only [List.length_cons, midB, Bool.and_eq_true, decide_eq_true_eq] at hB
    refine ⟨fun h1 => (by rw [hB.1] at h1; cases h1), fun i hi => ?_⟩
    rw [hB.1] at hi
    have hik : i = k := by simpa using hi
    subst hik
    have hw : Region.wanted o (yielded ops a.tmps) = true := by simp [Region.wanted, h.1]
    unfold wpOp
    simp only [h0, hw, if_true]
    refine .inl (Oper.wp_mono (fun a' w' h' => ⟨h'.1, wpAnyM_mid l (i + 1) _ a' w' (fun j hj => ?_) ?_ hB.2 h'.2⟩) h.2)
    · have := hl (j + 1) (by simp; omega); simpa [Nat.add_assoc, Nat.add_comm 1 j] using this
    · simp only [List.length_cons] at hk; omega

theorem wpAnyM_head {g f2 n m : Nat} {L : Array Bool → Act → World → Prop} (hsel : Region.noSelect ops = true) (hs : Region.sinkB md ops n = true) (hc : Region.chainB md ops n = true) (hn : n < ops.size) (hmn : m ≤ n)
    (hdone : ∀ listed a w, L listed a w → ∀ j ∈ Region.ready md ops listed, n ≤ j) (hQ : ∀ c (a a' : Act) w, Q (.panic c) a' w → Q (.panic c) a w) (w : World) (hS : S w) :
    ∀ (l : List Oper) (k : Nat) (listed : Array Bool) (a : Act), (∀ j, j < l.length → l[j]? = ops[k + j]?) → k + l.length = m → HeadInv md ops n listed →
    headB md ops g f2 l.length k listed = true → (wpTake P ops S (fun a' => ∀ listed', midB md ops g f2 m listed' = true → HeadInv md ops n listed' → wpAnyM P md ops Q S L f2 listed' a' w) l a) →
    wpAnyM P md ops Q S L (l.length + f2) listed a w
  | [], k, listed, a, _, hk, inv, hB, h => by
    have : k = m := by simpa using hk
    subst this
    rw [List.length_nil, Nat.zero_add]
    exact h listed (by simpa [headB] using hB) inv
  | o :: l, k, listed, a, hl, hk, inv, hB, h => by
    have h0 : ops[k]? = some o := by simpa using (hl 0 (by simp)).symm
    simp only [List.length_cons, headB, Bool.and_eq_true] at hB
    obtain ⟨⟨hr, hf⟩, hB'⟩ := hB
    have hkn : k < n := by simp only [List.length_cons] at hk; omega
    have hr' : k ∈ Region.ready md ops listed := by simpa using hr
    obtain ⟨v, hy, hK⟩ := h
    rw [List.length_cons, show l.length + 1 + f2 = l.length + f2 + 1 by omega]
    exact wpAnyM_first h0 (Region.noSelect_spec hsel) hs hc hn hkn (fun c a w hq => hQ c _ _ w hq) hdone (l.length + f2) listed a w inv (Region.free_spec h0 hf) hr' hy hS
      (wpAnyM_head hsel hs hc hn hmn hdone hQ w hS l (k + 1) _ _ (fun j hj => by have := hl (j + 1) (by simp; omega); simpa [Nat.add_assoc, Nat.add_comm 1 j] using this) (by simp only [List.length_cons] at hk; omega) (inv.set hr' hkn) hB' hK)

theorem seqB_ready' {g k : Nat} {listed : Array Bool} (h : Region.seqB md ops g k listed = true) : ∀ j ∈ Region.ready md ops listed, k ≤ j := seqB_ready h

/-- THE LAW. -/
theorem wp_region_held_tail {id : Nat} {a : Act} {w : World} {l : List Oper} (S : World → Prop) (m n : Nat) (hm : P.follows .mixedOrders = true) (hB : heldTailB .any l.toArray m n = true) (hS : S w.drew)
    (h : wpTake P l.toArray S (fun a' => wpMid P l.toArray (NoPanic Q) S (fun a'' w'' => wpList P l.toArray (NoPanic Q) (l.drop n) a'' w'') ((l.take n).drop m) a' w.drew) (l.take m) a) :
    (Code.region id l.toArray true).wp P Q a w := by
  refine wp_region_noPanic ?_
  simp only [heldTailB, Bool.and_eq_true, decide_eq_true_eq] at hB
  obtain ⟨⟨⟨⟨⟨hsel, hn⟩, hmn⟩, hs⟩, hc⟩, hlex⟩ := hB
  have hn' : n < l.length := by simpa using hn
  have htl : (l.take m).length = m := by simp; omega
  have hml : ((l.take n).drop m).length = n - m := by simp; omega
  have hdl : (l.drop n).length = l.toArray.size - n := by simp
  have inv0 : HeadInv .any l.toArray n (Array.replicate l.toArray.size false) :=
    ⟨by simp, fun j oj _ hl => (by rw [getD_replicate_false] at hl; cases hl), fun t _ ht => getD_in (by simpa using ht) (getD_replicate_false _ _)⟩
  have key : ∀ a', wpMid P l.toArray (NoPanic Q) S (fun a'' w'' => wpList P l.toArray (NoPanic Q) (l.drop n) a'' w'') ((l.take n).drop m) a' w.drew → ∀ listed', midB .any l.toArray (l.toArray.size - n) (n - m) m listed' = true → HeadInv .any l.toArray n listed' →
      wpAnyM P .any l.toArray (NoPanic Q) S (fun listed' a' w' => Region.seqB .any l.toArray (l.toArray.size - n) n listed' = true ∧ wpList P l.toArray (NoPanic Q) (l.drop n) a' w') (n - m) listed' a' w.drew := by
    intro a' h' listed' hmB _
    have := wpAnyM_mid (md := .any) (g := l.toArray.size - n) (n := n) ((l.take n).drop m) m listed' a' w.drew (fun j hj => by
      have hj' : j < n - m := by rw [hml] at hj; exact hj
      rw [List.getElem?_drop, List.getElem?_take_of_lt (by omega)]
      simp) (by rw [hml]; omega) (by rw [hml]; exact hmB) h'
    rwa [hml] at this
  have hmono : ∀ (l0 : List Oper) (a0 : Act), wpTake P l.toArray S (fun a' => wpMid P l.toArray (NoPanic Q) S (fun a'' w'' => wpList P l.toArray (NoPanic Q) (l.drop n) a'' w'') ((l.take n).drop m) a' w.drew) l0 a0 →
      wpTake P l.toArray S (fun a' => ∀ listed', midB .any l.toArray (l.toArray.size - n) (n - m) m listed' = true → HeadInv .any l.toArray n listed' →
      wpAnyM P .any l.toArray (NoPanic Q) S (fun listed' a' w' => Region.seqB .any l.toArray (l.toArray.size - n) n listed' = true ∧ wpList P l.toArray (NoPanic Q) (l.drop n) a' w') (n - m) listed' a' w.drew) l0 a0 := by
    intro l0
    induction l0 with
    | nil => intro a0 h0; exact key a0 h0
    | cons o r ih => intro a0 h0; obtain ⟨v, hy, hr⟩ := h0; exact ⟨v, hy, ih _ hr⟩
  have H := wpAnyM_head (md := .any) (Q := NoPanic Q) (g := l.toArray.size - n) (f2 := n - m) (m := m) hsel hs hc hn hmn (L := fun listed' a' w' => Region.seqB .any l.toArray (l.toArray.size - n) n listed' = true ∧ wpList P l.toArray (NoPanic Q) (l.drop n) a' w')
    (fun listed' a' w' hL => seqB_ready hL.1) (fun c a a' w h => h.elim) w.drew hS (l.take m) 0 _ a (fun j hj => by
      have hj' : j < m := by rw [htl] at hj; exact hj
      simp [hj']) (by simpa using htl) inv0 (by rw [htl]; exact hlex) (hmono _ _ h)
  refine wp_region_any hm ?_
  have := wpAny_of_M (Q := NoPanic Q) (g := l.toArray.size - n) (fun listed a' w' hL => by
    have := wpAny_of_seq (md := .any) (Q' := NoPanic Q) (l.drop n) n listed a' w' (fun j => by simp [List.getElem?_drop]) (by rw [hdl]; exact hL.1) hL.2
    rwa [hdl] at this) _ _ _ _ H
  rw [htl, show m + (n - m) + (l.toArray.size - n) = l.toArray.size by omega] at this
  exact this

/-! ### The moves of a walk -/
theorem take_step {L : Act → Prop} {o : Oper} {l : List Oper} {a : Act} {v : Value} (hg : o.guard = none) (hy : ∀ w, S w → (execOp a.eval o).run P w = .ok (.value v) w) (h : wpTake P ops S L l (a.put o.dst v)) : wpTake P ops S L (o :: l) a :=
  ⟨v, .inl ⟨by simp [Region.wanted, hg], hy⟩, h⟩
theorem take_nil {L : Act → Prop} {a : Act} (h : L a) : wpTake P ops S L [] a := h
theorem mid_step {L : Act → World → Prop} {o : Oper} {l : List Oper} {a : Act} {w : World} (hg : o.guard = none) (h : ∀ K : Act → World → Prop, Hid (∀ a' w', S w' → wpMid P ops Q S L l a' w' → K a' w') → o.wp P a w K Q) : wpMid P ops Q S L (o :: l) a w :=
  ⟨hg, h _ fun _ _ h1 h2 => ⟨h1, h2⟩⟩
theorem mid_nil {L : Act → World → Prop} {a : Act} {w : World} (h : L a w) : wpMid P ops Q S L [] a w := h
end

/-! ### A region that draws its order: by a plan: which operations are taken first, which run and keep S, in what order; then the tail -/
section
variable {P : Program} {ops : Array Oper} {Q : Exit → Act → World → Prop} {md : Region.Mode} {S : World → Prop}

def wpPlan (P : Program) (ops : Array Oper) (Q : Exit → Act → World → Prop) (S : World → Prop) (L : Act → World → Prop) : List (Bool × Oper) → Act → World → Prop
  | [], a, w => L a w
  | (true, o) :: r, a, w => ∃ v, YieldsIf P ops S o v a ∧ wpPlan P ops Q S L r (a.put o.dst v) w
  | (false, o) :: r, a, w => o.guard = none ∧ o.wp P a w (fun a' w' => S w' ∧ wpPlan P ops Q S L r a' w') Q

def planB (md : Region.Mode) (ops : Array Oper) (g n : Nat) : List (Bool × Nat) → Array Bool → Bool
  | [], listed => Region.seqB md ops g n listed
  | (true, i) :: r, listed => decide (i < n) && decide (i < ops.size) && (Region.ready md ops listed).contains i && Region.free md ops listed i && planB md ops g n r (listed.setIfInBounds i true)
  | (false, i) :: r, listed => decide (i < n) && decide (i < ops.size) && decide (Region.ready md ops listed = [i]) && planB md ops g n r (listed.setIfInBounds i true)
def regionPlanB (md : Region.Mode) (ops : Array Oper) (n : Nat) (plan : List (Bool × Nat)) : Bool :=
  Region.noSelect ops && decide (n < ops.size) && Region.sinkB md ops n && Region.chainB md ops n && decide (plan.length = n) && planB md ops (ops.size - n) n plan (Array.replicate ops.size false)

theorem wpAnyM_plan {g n : Nat} {Lq : Act → World → Prop} {l : List Oper} (hops : ops = l.toArray) (hsel : Region.noSelect ops = true) (hs : Region.sinkB md ops n = true) (hc : Region.chainB md ops n = true) (hn : n < ops.size) (hQ : ∀ c (a a' : Act) w, Q (.panic c) a' w → Q (.panic c) a w) :
    ∀ (plan : List (Bool × Nat)) (listed : Array Bool) (a : Act) (w : World), HeadInv md ops n listed → S w → planB md ops g n plan listed = true →
    wpPlan P ops Q S Lq (plan.map fun x => (x.1, l.getD x.2 default)) a w →
    wpAnyM P md ops Q S (fun listed' a' w' => Region.seqB md ops g n listed' = true ∧ Lq a' w') plan.length listed a w
  | [], listed, a, w, inv, hS, hB, h => ⟨hB, h⟩
  | (true, i) :: r, listed, a, w, inv, hS, hB, h => by
    simp only [planB, Bool.and_eq_true, decide_eq_true_eq] at hB
    obtain ⟨⟨⟨⟨hin, hil⟩, hr⟩, hf⟩, hB'⟩ := hB
    have hr' : i ∈ Region.ready md ops listed := by simpa using hr
    have h0 : ops[i]? = some (l.getD i default) := by
      subst hops
      have : i < l.length := by simpa using hil
      simp [this]
    obtain ⟨v, hy, hK⟩ := h
    exact wpAnyM_first h0 (Region.noSelect_spec hsel) hs hc hn hin (fun c a w hq => hQ c _ _ w hq) (fun listed' a' w' hL => seqB_ready hL.1) r.length listed a w inv (Region.free_spec h0 hf) hr' hy hS
      (wpAnyM_plan hops hsel hs hc hn hQ r _ _ w (inv.set hr' hin) hS hB' hK)
  | (false, i) :: r, listed, a, w, inv, hS, hB, h => by
    simp only [planB, Bool.and_eq_true, decide_eq_true_eq] at hB
    obtain ⟨⟨⟨hin, hil⟩, hr⟩, hB'⟩ := hB
    have hr' : i ∈ Region.ready md ops listed := by rw [hr]; simp
    have h0 : ops[i]? = some (l.getD i default) := by
      subst hops
      have : i < l.length := by simpa using hil
      simp [this]
    obtain ⟨hg, hw⟩ := h
    refine ⟨fun h1 => (by rw [h1] at hr'; cases hr'), fun j hj => ?_⟩
    rw [hr] at hj
    obtain rfl : j = i := by simpa using hj
    have hwd : Region.wanted (l.getD j default) (yielded ops a.tmps) = true := by unfold Region.wanted; simp only [] at hg; rw [hg]
    unfold wpOp
    simp only [h0, hwd, if_true]
    exact .inl (Oper.wp_mono (fun a' w' h' => ⟨h'.1, wpAnyM_plan hops hsel hs hc hn hQ r _ a' w' (inv.set hr' hin) h'.1 hB' h'.2⟩) hw)

/-- THE LAW. -/
theorem wp_region_plan {id : Nat} {a : Act} {w : World} {l : List Oper} (S : World → Prop) (n : Nat) (plan : List (Bool × Nat)) (hm : P.follows .mixedOrders = true) (hB : regionPlanB .any l.toArray n plan = true) (hS : S w.drew)
    (h : wpPlan P l.toArray (NoPanic Q) S (fun a' w' => wpList P l.toArray (NoPanic Q) (l.drop n) a' w') (plan.map fun x => (x.1, l.getD x.2 default)) a w.drew) :
    (Code.region id l.toArray true).wp P Q a w := by
  refine wp_region_noPanic ?_
  simp only [regionPlanB, Bool.and_eq_true, decide_eq_true_eq] at hB
  obtain ⟨⟨⟨⟨⟨hsel, hn⟩, hs⟩, hc⟩, hlen⟩, hlex⟩ := hB
  have hn' : n < l.length := by simpa using hn
  have hdl : (l.drop n).length = l.toArray.size - n := by simp
  have inv0 : HeadInv .any l.toArray n (Array.replicate l.toArray.size false) :=
    ⟨by simp, fun j oj _ hl => (by rw [getD_replicate_false] at hl; cases hl), fun t _ ht => getD_in (by simpa using ht) (getD_replicate_false _ _)⟩
  have H := wpAnyM_plan (P := P) (md := .any) (Q := NoPanic Q) (S := S) (g := l.toArray.size - n) rfl hsel hs hc hn (fun c a a' w h => h.elim) plan _ a w.drew inv0 hS hlex h
  refine wp_region_any hm ?_
  have := wpAny_of_M (Q := NoPanic Q) (g := l.toArray.size - n) (fun listed a' w' hL => by
    have := wpAny_of_seq (md := .any) (Q' := NoPanic Q) (l.drop n) n listed a' w' (fun j => by simp [List.getElem?_drop]) (by rw [hdl]; exact hL.1) hL.2
    rwa [hdl] at this) _ _ _ _ H
  rw [hlen, show n + (l.toArray.size - n) = l.toArray.size by omega] at this
  exact this
theorem plan_take {L : Act → World → Prop} {o : Oper} {l : List (Bool × Oper)} {a : Act} {w : World} {v : Value} (hg : o.guard = none) (hy : ∀ w, S w → (execOp a.eval o).run P w = .ok (.value v) w) (h : wpPlan P ops Q S L l (a.put o.dst v) w) : wpPlan P ops Q S L ((true, o) :: l) a w :=
  ⟨v, .inl ⟨by simp [Region.wanted, hg], hy⟩, h⟩
theorem plan_run {L : Act → World → Prop} {o : Oper} {l : List (Bool × Oper)} {a : Act} {w : World} (hg : o.guard = none) (h : ∀ K : Act → World → Prop, Hid (∀ a' w', S w' → wpPlan P ops Q S L l a' w' → K a' w') → o.wp P a w K Q) : wpPlan P ops Q S L ((false, o) :: l) a w :=
  ⟨hg, h _ fun _ _ h1 h2 => ⟨h1, h2⟩⟩
theorem plan_nil {L : Act → World → Prop} {a : Act} {w : World} (h : L a w) : wpPlan P ops Q S L [] a w := h
end

set_option linter.unusedVariables false

/-! ### A region that draws its order, with guards: by a plan: which operations are taken first, which run and keep S, in what order; then the tail -/
section
variable {P : Program} {ops : Array Oper} {Q : Exit → Act → World → Prop} {md : Region.Mode} {S : World → Prop}

def wpPlanG (P : Program) (ops : Array Oper) (Q : Exit → Act → World → Prop) (S : World → Prop) (L : Act → World → Prop) : List (Bool × Oper) → Act → World → Prop
  | [], a, w => L a w
  | (true, o) :: r, a, w => ∃ v, YieldsIf P ops S o v a ∧ wpPlanG P ops Q S L r (a.put o.dst v) w
  | (false, o) :: r, a, w => Region.wanted o (yielded ops a.tmps) = true ∧ o.wp P a w (fun a' w' => S w' ∧ wpPlanG P ops Q S L r a' w') Q

theorem wpAnyM_planG {g n : Nat} {Lq : Act → World → Prop} {l : List Oper} (hops : ops = l.toArray) (hsel : Region.noSelect ops = true) (hs : Region.sinkB md ops n = true) (hc : Region.chainB md ops n = true) (hn : n < ops.size) (hQ : ∀ c (a a' : Act) w, Q (.panic c) a' w → Q (.panic c) a w) :
    ∀ (plan : List (Bool × Nat)) (listed : Array Bool) (a : Act) (w : World), HeadInv md ops n listed → S w → planB md ops g n plan listed = true →
    wpPlanG P ops Q S Lq (plan.map fun x => (x.1, l.getD x.2 default)) a w →
    wpAnyM P md ops Q S (fun listed' a' w' => Region.seqB md ops g n listed' = true ∧ Lq a' w') plan.length listed a w
  | [], listed, a, w, inv, hS, hB, h => ⟨hB, h⟩
  | (true, i) :: r, listed, a, w, inv, hS, hB, h => by
    simp only [planB, Bool.and_eq_true, decide_eq_true_eq] at hB
    obtain ⟨⟨⟨⟨hin, hil⟩, hr⟩, hf⟩, hB'⟩ := hB
    have hr' : i ∈ Region.ready md ops listed := by simpa using hr
    have h0 : ops[i]? = some (l.getD i default) := by
      subst hops
      have : i < l.length := by simpa using hil
      simp [this]
    obtain ⟨v, hy, hK⟩ := h
    exact wpAnyM_first h0 (Region.noSelect_spec hsel) hs hc hn hin (fun c a w hq => hQ c _ _ w hq) (fun listed' a' w' hL => seqB_ready hL.1) r.length listed a w inv (Region.free_spec h0 hf) hr' hy hS
      (wpAnyM_planG hops hsel hs hc hn hQ r _ _ w (inv.set hr' hin) hS hB' hK)
  | (false, i) :: r, listed, a, w, inv, hS, hB, h => by
    simp only [planB, Bool.and_eq_true, decide_eq_true_eq] at hB
    obtain ⟨⟨⟨hin, hil⟩, hr⟩, hB'⟩ := hB
    have hr' : i ∈ Region.ready md ops listed := by rw [hr]; simp
    have h0 : ops[i]? = some (l.getD i default) := by
      subst hops
      have : i < l.length := by simpa using hil
      simp [this]
    obtain ⟨hg, hw⟩ := h
    refine ⟨fun h1 => (by rw [h1] at hr'; cases hr'), fun j hj => ?_⟩
    rw [hr] at hj
    obtain rfl : j = i := by simpa using hj
    have hwd : Region.wanted (l.getD j default) (yielded ops a.tmps) = true := hg
    unfold wpOp
    simp only [h0, hwd, if_true]
    exact .inl (Oper.wp_mono (fun a' w' h' => ⟨h'.1, wpAnyM_planG hops hsel hs hc hn hQ r _ a' w' (inv.set hr' hin) h'.1 hB' h'.2⟩) hw)

/-- THE LAW. -/
theorem wp_region_planG {id : Nat} {a : Act} {w : World} {l : List Oper} (S : World → Prop) (n : Nat) (plan : List (Bool × Nat)) (hm : P.follows .mixedOrders = true) (hB : regionPlanB .any l.toArray n plan = true) (hS : S w.drew)
    (h : wpPlanG P l.toArray (NoPanic Q) S (fun a' w' => wpList P l.toArray (NoPanic Q) (l.drop n) a' w') (plan.map fun x => (x.1, l.getD x.2 default)) a w.drew) :
    (Code.region id l.toArray true).wp P Q a w := by
  refine wp_region_noPanic ?_
  simp only [regionPlanB, Bool.and_eq_true, decide_eq_true_eq] at hB
  obtain ⟨⟨⟨⟨⟨hsel, hn⟩, hs⟩, hc⟩, hlen⟩, hlex⟩ := hB
  have hn' : n < l.length := by simpa using hn
  have hdl : (l.drop n).length = l.toArray.size - n := by simp
  have inv0 : HeadInv .any l.toArray n (Array.replicate l.toArray.size false) :=
    ⟨by simp, fun j oj _ hl => (by rw [getD_replicate_false] at hl; cases hl), fun t _ ht => getD_in (by simpa using ht) (getD_replicate_false _ _)⟩
  have H := wpAnyM_planG (P := P) (md := .any) (Q := NoPanic Q) (S := S) (g := l.toArray.size - n) rfl hsel hs hc hn (fun c a a' w h => h.elim) plan _ a w.drew inv0 hS hlex h
  refine wp_region_any hm ?_
  have := wpAny_of_M (Q := NoPanic Q) (g := l.toArray.size - n) (fun listed a' w' hL => by
    have := wpAny_of_seq (md := .any) (Q' := NoPanic Q) (l.drop n) n listed a' w' (fun j => by simp [List.getElem?_drop]) (by rw [hdl]; exact hL.1) hL.2
    rwa [hdl] at this) _ _ _ _ H
  rw [hlen, show n + (l.toArray.size - n) = l.toArray.size by omega] at this
  exact this
theorem planG_take {L : Act → World → Prop} {o : Oper} {l : List (Bool × Oper)} {a : Act} {w : World} {v : Value} (hg : Region.wanted o (yielded ops a.tmps) = true) (hy : ∀ w, S w → (execOp a.eval o).run P w = .ok (.value v) w) (h : wpPlanG P ops Q S L l (a.put o.dst v) w) : wpPlanG P ops Q S L ((true, o) :: l) a w :=
  ⟨v, .inl ⟨hg, hy⟩, h⟩
theorem planG_skip {L : Act → World → Prop} {o : Oper} {l : List (Bool × Oper)} {a : Act} {w : World} (hg : Region.wanted o (yielded ops a.tmps) = false) (h : wpPlanG P ops Q S L l (a.put o.dst undef) w) : wpPlanG P ops Q S L ((true, o) :: l) a w :=
  ⟨undef, .inr ⟨hg, rfl⟩, h⟩
theorem planG_run {L : Act → World → Prop} {o : Oper} {l : List (Bool × Oper)} {a : Act} {w : World} (hg : Region.wanted o (yielded ops a.tmps) = true) (h : ∀ K : Act → World → Prop, Hid (∀ a' w', S w' → wpPlanG P ops Q S L l a' w' → K a' w') → o.wp P a w K Q) : wpPlanG P ops Q S L ((false, o) :: l) a w :=
  ⟨hg, h _ fun _ _ h1 h2 => ⟨h1, h2⟩⟩
theorem planG_nil {L : Act → World → Prop} {a : Act} {w : World} (h : L a w) : wpPlanG P ops Q S L [] a w := h
end

end Go.Proofs.YtahhbgfibelfaaaDoor
