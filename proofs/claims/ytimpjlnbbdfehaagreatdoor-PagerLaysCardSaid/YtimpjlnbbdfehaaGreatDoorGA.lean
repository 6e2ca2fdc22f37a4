import Derived.Deep.RegionHeld3
import Derived.StillTail
import Derived.WalkKit
import Derived.Lib.Hide
import Derived.Test.YtimpjlnbbdfehaaGreatDoorCore
import Derived.Test.YtimpjlnbbdfehaaGreatDoorShelf
import Derived.Outline
import Derived.Laws.Shifts
import Derived.WalkLawsBesides
import Derived.ShutString
import Derived.Deep.DeepCutAuto
import Derived.Deep.LoopGhost
import Derived.Deep.DeepMust
namespace Go.Proofs.YtimpjlnbbdfehaaGreatDoor
open Go.RowKit Go.Lib

/-! ### A region that draws its order: what it reads is taken first, a middle part keeps S, then a tail goes in the order of the text (the tail may write what the region has read) -/
section
variable {P : Program} {ops : Array Oper} {Q : Exit → Act → World → Prop} {md : Region.Mode} {S : World → Prop}

def wpAnyM (P : Program) (md : Region.Mode) (ops : Array Oper) (Q : Exit → Act → World → Prop) (S : World → Prop) (L : Array Bool → Act → World → Prop) : Nat → Array Bool → Act → World → Prop
  | 0, listed, a, w => L listed a w
  | f + 1, listed, a, w => Region.ready md ops listed ≠ [] ∧ ∀ i ∈ Region.ready md ops listed, wpOp P ops Q i (fun a' w' => S w' ∧ wpAnyM P md ops Q S L f (listed.setIfInBounds i true) a' w') a w

theorem wpAny_of_M {g : Nat} {L : Array Bool → Act → World → Prop} (hL : ∀ listed a w, L listed a w → wpAny P md ops Q g listed a w) :
    ∀ (f : Nat) (listed : Array Bool) (a : Act) (w : World), wpAnyM P md ops Q S L f listed a w → wpAny P md ops Q (f + g) listed a w
  | 0, _, _, _, h => by rw [Nat.zero_add]; exact hL _ _ _ h
  | f + 1, _, _, _, h => by
    rw [show f + 1 + g = (f + g) + 1 by omega]
    exact ⟨fun h0 => absurd h0 h.1, fun i hi => wpOp_mono (fun a' w' h' => wpAny_of_M hL f _ a' w' h'.2) (h.2 i hi)⟩

theorem wpAnyM_first {n i : Nat} {oi : Oper} {v : Value} {L : Array Bool → Act → World → Prop} (hi : ops[i]? = some oi) (hsel : ∀ (j : Nat) (o : Oper) cs b, ops[j]? = some o → o.op ≠ .select cs b)
    (hs : Region.sinkB md ops n = true) (hc : Region.chainB md ops n = true) (hn : n < ops.size) (hin : i < n)
    (hQ : ∀ c a w, Q (.panic c) (a.put oi.dst v) w → Q (.panic c) a w)
    (hdone : ∀ listed a w, L listed a w → ∀ j ∈ Region.ready md ops listed, n ≤ j) :
    ∀ (f : Nat) (listed : Array Bool) (a : Act) (w : World), HeadInv md ops n listed →
      (∀ j oj, ops[j]? = some oj → j ≠ i → listed.getD j true = false → (∀ e ∈ oj.after, Region.binds md e = true → e.on ≠ i) → oi.apart ops oj = true) →
      i ∈ Region.ready md ops listed → YieldsIf P ops S oi v a → S w →
      wpAnyM P md ops Q S L f (listed.setIfInBounds i true) (a.put oi.dst v) w → wpAnyM P md ops Q S L (f + 1) listed a w := by
  intro f
  induction f with
  | zero =>
    intro listed a w inv _ hr hy hS H
    have hun := (mem_ready.1 hr).1
    refine ⟨fun h => (by rw [h] at hr; cases hr), fun j hj => ?_⟩
    have hjn : j < n := by
      rcases Nat.lt_or_ge j n with h | h
      · exact h
      · exact absurd hj (tail_waits hs hc hn inv _ i rfl hin hun j h)
    by_cases hji : j = i
    · subst hji; exact hy.wpOp hi hS ⟨hS, H⟩
    · have := hdone _ _ _ H j (ready_mono hj hji)
      omega
  | succ f ih =>
    intro listed a w inv hfree hr hy hS H
    have hun := (mem_ready.1 hr).1
    refine ⟨fun h => (by rw [h] at hr; cases hr), fun j hj => ?_⟩
    have hjn : j < n := by
      rcases Nat.lt_or_ge j n with h | h
      · exact h
      · exact absurd hj (tail_waits hs hc hn inv _ i rfl hin hun j h)
    by_cases hji : j = i
    · subst hji; exact hy.wpOp hi hS ⟨hS, H⟩
    · have h1 := H.2 j (ready_mono hj hji)
      obtain ⟨hjun, oj, hoj, hall⟩ := mem_ready.1 hj
      have hnot : ∀ e ∈ oj.after, Region.binds md e = true → e.on ≠ i := fun e he hb heq => by
        have h1 := hall e he hb
        rw [heq, getD_both hun] at h1
        cases h1
      have h2 := wpOp_putIf hoj (hfree j oj hoj hji hjun hnot) (fun cs b => hsel i oi cs b hi) (fun cs b => hsel j oj cs b hoj) hQ hy h1
      refine wpOp_mono (fun a' w' h3 => ⟨h3.2.1, ih (listed.setIfInBounds j true) a' w' (inv.set hj hjn) ?_ (ready_mono hr (Ne.symm hji)) h3.1 h3.2.1 ?_⟩) h2
      · intro k ok hk hki hunk hno
        refine hfree k ok hk hki ?_ hno
        by_cases hjk : j = k
        · subst hjk; exact hjun
        · rw [getD_set_ne true hjk] at hunk; exact hunk
      · rw [Array.setIfInBounds_comm _ _ hji]
        exact h3.2.2

/-- The head, in the order of the text: each operation yields its value in every world that meets S. -/
def wpTake (P : Program) (ops : Array Oper) (S : World → Prop) (L : Act → Prop) : List Oper → Act → Prop
  | [], a => L a
  | o :: l, a => ∃ v, YieldsIf P ops S o v a ∧ wpTake P ops S L l (a.put o.dst v)
/-- The middle, in the order of the text: S is shown anew behind each operation. -/
def wpMid (P : Program) (ops : Array Oper) (Q : Exit → Act → World → Prop) (S : World → Prop) (L : Act → World → Prop) : List Oper → Act → World → Prop
  | [], a, w => L a w
  | o :: l, a, w => o.guard = none ∧ o.wp P a w (fun a' w' => S w' ∧ wpMid P ops Q S L l a' w') Q

def midB (md : Region.Mode) (ops : Array Oper) (g : Nat) : Nat → Nat → Array Bool → Bool
  | 0, k, listed => Region.seqB md ops g k listed
  | f + 1, k, listed => decide (Region.ready md ops listed = [k]) && midB md ops g f (k + 1) (listed.setIfInBounds k true)
def headB (md : Region.Mode) (ops : Array Oper) (g f2 : Nat) : Nat → Nat → Array Bool → Bool
  | 0, k, listed => midB md ops g f2 k listed
  | f + 1, k, listed => (Region.ready md ops listed).contains k && Region.free md ops listed k && headB md ops g f2 f (k + 1) (listed.setIfInBounds k true)
/-- m operations are taken first, those from m to n keep S, those from n on are the tail. -/
def heldTailB (md : Region.Mode) (ops : Array Oper) (m n : Nat) : Bool :=
  Region.noSelect ops && decide (n < ops.size) && decide (m ≤ n) && Region.sinkB md ops n && Region.chainB md ops n && headB md ops (ops.size - n) (n - m) m 0 (Array.replicate ops.size false)

theorem wpAnyM_mid {g n : Nat} {Lq : Act → World → Prop} : ∀ (l : List Oper) (k : Nat) (listed : Array Bool) (a : Act) (w : World), (∀ j, j < l.length → l[j]? = ops[k + j]?) → k + l.length = n →
    midB md ops g l.length k listed = true → wpMid P ops Q S Lq l a w → wpAnyM P md ops Q S (fun listed' a' w' => Region.seqB md ops g n listed' = true ∧ Lq a' w') l.length listed a w
  | [], k, listed, a, w, _, hk, hB, h => by
    have : k = n := by simpa using hk
    subst this
    exact ⟨by simpa [midB] using hB, h⟩
  | o :: l, k, listed, a, w, hl, hk, hB, h => by
    have h0 : ops[k]? = some o := by simpa using (hl 0 (by simp)).symm
    simp only [List.length_cons, midB, Bool.and_eq_true, decide_eq_true_eq] at hB
    refine ⟨fun h1 => (by rw [hB.1] at h1; cases h1), fun i hi => ?_⟩
    rw [hB.1] at hi
    have hik : i = k := by simpa using hi
    subst hik
    have hw : Region.wanted o (yielded ops a.tmps) = true := by simp [Region.wanted, h.1]
    unfold wpOp
    simp only [h0, hw, if_true]
    refine .inl (Oper.wp_mono (fun a' w' h' => ⟨h'.1, wpAnyM_mid l (i + 1) _ a' w' (fun j hj => ?_) ?_ hB.2 h'.2⟩) h.2)
    · have := hl (j + 1) (by simp; omega); simpa [Nat.add_assoc, Nat.add_comm 1 j] using this
    · simp only [List.length_cons] at hk; omega

theorem wpAnyM_head {g f2 n m : Nat} {L : Array Bool → Act → World → Prop} (hsel : Region.noSelect ops = true) (hs : Region.sinkB md ops n = true) (hc : Region.chainB md ops n = true) (hn : n < ops.size) (hmn : m ≤ n)
    (hdone : ∀ listed a w, L listed a w → ∀ j ∈ Region.ready md ops listed, n ≤ j) (hQ : ∀ c (a a' : Act) w, Q (.panic c) a' w → Q (.panic c) a w) (w : World) (hS : S w) :
    ∀ (l : List Oper) (k : Nat) (listed : Array Bool) (a : Act), (∀ j, j < l.length → l[j]? = ops[k + j]?) → k + l.length = m → HeadInv md ops n listed →
    headB md ops g f2 l.length k listed = true → (wpTake P ops S (fun a' => ∀ listed', midB md ops g f2 m listed' = true → HeadInv md ops n listed' → wpAnyM P md ops Q S L f2 listed' a' w) l a) →
    wpAnyM P md ops Q S L (l.length + f2) listed a w
  | [], k, listed, a, _, hk, inv, hB, h => by
    have : k = m := by simpa using hk
    subst this
    rw [List.length_nil, Nat.zero_add]
    exact h listed (by simpa [headB] using hB) inv
  | o :: l, k, listed, a, hl, hk, inv, hB, h => by
    have h0 : ops[k]? = some o := by simpa using (hl 0 (by simp)).symm
    simp only [List.length_cons, headB, Bool.and_eq_true] at hB
    obtain ⟨⟨hr, hf⟩, hB'⟩ := hB
    have hkn : k < n := by simp only [List.length_cons] at hk; omega
    have hr' : k ∈ Region.ready md ops listed := by simpa using hr
    obtain ⟨v, hy, hK⟩ := h
    rw [List.length_cons, show l.length + 1 + f2 = l.length + f2 + 1 by omega]
    exact wpAnyM_first h0 (Region.noSelect_spec hsel) hs hc hn hkn (fun c a w hq => hQ c _ _ w hq) hdone (l.length + f2) listed a w inv (Region.free_spec h0 hf) hr' hy hS
      (wpAnyM_head hsel hs hc hn hmn hdone hQ w hS l (k + 1) _ _ (fun j hj => by have := hl (j + 1) (by simp; omega); simpa [Nat.add_assoc, Nat.add_comm 1 j] using this) (by simp only [List.length_cons] at hk; omega) (inv.set hr' hkn) hB' hK)

theorem seqB_ready' {g k : Nat} {listed : Array Bool} (h : Region.seqB md ops g k listed = true) : ∀ j ∈ Region.ready md ops listed, k ≤ j := seqB_ready h

/-- THE LAW. -/
theorem wp_region_held_tail {id : Nat} {a : Act} {w : World} {l : List Oper} (S : World → Prop) (m n : Nat) (hm : P.follows .mixedOrders = true) (hB : heldTailB .any l.toArray m n = true) (hS : S w.drew)
    (h : wpTake P l.toArray S (fun a' => wpMid P l.toArray (NoPanic Q) S (fun a'' w'' => wpList P l.toArray (NoPanic Q) (l.drop n) a'' w'') ((l.take n).drop m) a' w.drew) (l.take m) a) :
    (Code.region id l.toArray true).wp P Q a w := by
  refine wp_region_noPanic ?_
  simp only [heldTailB, Bool.and_eq_true, decide_eq_true_eq] at hB
  obtain ⟨⟨⟨⟨⟨hsel, hn⟩, hmn⟩, hs⟩, hc⟩, hlex⟩ := hB
  have hn' : n < l.length := by simpa using hn
  have htl : (l.take m).length = m := by simp; omega
  have hml : ((l.take n).drop m).length = n - m := by simp; omega
  have hdl : (l.drop n).length = l.toArray.size - n := by simp
  have inv0 : HeadInv .any l.toArray n (Array.replicate l.toArray.size false) :=
    ⟨by simp, fun j oj _ hl => (by rw [getD_replicate_false] at hl; cases hl), fun t _ ht => getD_in (by simpa using ht) (getD_replicate_false _ _)⟩
  have key : ∀ a', wpMid P l.toArray (NoPanic Q) S (fun a'' w'' => wpList P l.toArray (NoPanic Q) (l.drop n) a'' w'') ((l.take n).drop m) a' w.drew → ∀ listed', midB .any l.toArray (l.toArray.size - n) (n - m) m listed' = true → HeadInv .any l.toArray n listed' →
      wpAnyM P .any l.toArray (NoPanic Q) S (fun listed' a' w' => Region.seqB .any l.toArray (l.toArray.size - n) n listed' = true ∧ wpList P l.toArray (NoPanic Q) (l.drop n) a' w') (n - m) listed' a' w.drew := by
    intro a' h' listed' hmB _
    have := wpAnyM_mid (md := .any) (g := l.toArray.size - n) (n := n) ((l.take n).drop m) m listed' a' w.drew (fun j hj => by
      have hj' : j < n - m := by rw [hml] at hj; exact hj
      rw [List.getElem?_drop, List.getElem?_take_of_lt (by omega)]
      simp) (by rw [hml]; omega) (by rw [hml]; exact hmB) h'
    rwa [hml] at this
  have hmono : ∀ (l0 : List Oper) (a0 : Act), wpTake P l.toArray S (fun a' => wpMid P l.toArray (NoPanic Q) S (fun a'' w'' => wpList P l.toArray (NoPanic Q) (l.drop n) a'' w'') ((l.take n).drop m) a' w.drew) l0 a0 →
      wpTake P l.toArray S (fun a' => ∀ listed', midB .any l.toArray (l.toArray.size - n) (n - m) m listed' = true → HeadInv .any l.toArray n listed' →
      wpAnyM P .any l.toArray (NoPanic Q) S (fun listed' a' w' => Region.seqB .any l.toArray (l.toArray.size - n) n listed' = true ∧ wpList P l.toArray (NoPanic Q) (l.drop n) a' w') (n - m) listed' a' w.drew) l0 a0 := by
    intro l0
    induction l0 with
    | nil => intro a0 h0; exact key a0 h0
    | cons o r ih => intro a0 h0; obtain ⟨v, hy, hr⟩ := h0; exact ⟨v, hy, ih _ hr⟩
  have H := wpAnyM_head (md := .any) (Q := NoPanic Q) (g := l.toArray.size - n) (f2 := n - m) (m := m) hsel hs hc hn hmn (L := fun listed' a' w' => Region.seqB .any l.toArray (l.toArray.size - n) n listed' = true ∧ wpList P l.toArray (NoPanic Q) (l.drop n) a' w')
    (fun listed' a' w' hL => seqB_ready hL.1) (fun c a a' w h => h.elim) w.drew hS (l.take m) 0 _ a (fun j hj => by
      have hj' : j < m := by rw [htl] at hj; exact hj
      simp [hj']) (by simpa using htl) inv0 (by rw [htl]; exact hlex) (hmono _ _ h)
  refine wp_region_any hm ?_
  have := wpAny_of_M (Q := NoPanic Q) (g := l.toArray.size - n) (fun listed a' w' hL => by
    have := wpAny_of_seq (md := .any) (Q' := NoPanic Q) (l.drop n) n listed a' w' (fun j => by simp [List.getElem?_drop]) (by rw [hdl]; exact hL.1) hL.2
    rwa [hdl] at this) _ _ _ _ H
  rw [htl, show m + (n - m) + (l.toArray.size - n) = l.toArray.size by omega] at this
  exact this

/-! ### The moves of a walk -/
theorem take_step {L : Act → Prop} {o : Oper} {l : List Oper} {a : Act} {v : Value} (hg : o.guard = none) (hy : ∀ w, S w → (execOp a.eval o).run P w = .ok (.value v) w) (h : wpTake P ops S L l (a.put o.dst v)) : wpTake P ops S L (o :: l) a :=
  ⟨v, .inl ⟨by simp [Region.wanted, hg], hy⟩, h⟩
theorem take_nil {L : Act → Prop} {a : Act} (h : L a) : wpTake P ops S L [] a := h
theorem mid_step {L : Act → World → Prop} {o : Oper} {l : List Oper} {a : Act} {w : World} (hg : o.guard = none) (h : ∀ K : Act → World → Prop, Hid (∀ a' w', S w' → wpMid P ops Q S L l a' w' → K a' w') → o.wp P a w K Q) : wpMid P ops Q S L (o :: l) a w :=
  ⟨hg, h _ fun _ _ h1 h2 => ⟨h1, h2⟩⟩
theorem mid_nil {L : Act → World → Prop} {a : Act} {w : World} (h : L a w) : wpMid P ops Q S L [] a w := h
end
end Go.Proofs.YtimpjlnbbdfehaaGreatDoor
namespace Go.Proofs.YtimpjlnbbdfehaaGreatDoor
open Go.RowKit Go.Lib

/-! ### A region that draws its order: by a plan: which operations are taken first, which run and keep S, in what order; then the tail -/
section
variable {P : Program} {ops : Array Oper} {Q : Exit → Act → World → Prop} {md : Region.Mode} {S : World → Prop}

def wpPlan (P : Program) (ops : Array Oper) (Q : Exit → Act → World → Prop) (S : World → Prop) (L : Act → World → Prop) : List (Bool × Oper) → Act → World → Prop
  | [], a, w => L a w
  | (true, o) :: r, a, w => ∃ v, YieldsIf P ops S o v a ∧ wpPlan P ops Q S L r (a.put o.dst v) w
  | (false, o) :: r, a, w => o.guard = none ∧ o.wp P a w (fun a' w' => S w' ∧ wpPlan P ops Q S L r a' w') Q

def planB (md : Region.Mode) (ops : Array Oper) (g n : Nat) : List (Bool × Nat) → Array Bool → Bool
  | [], listed => Region.seqB md ops g n listed
  | (true, i) :: r, listed => decide (i < n) && decide (i < ops.size) && (Region.ready md ops listed).contains i && Region.free md ops listed i && planB md ops g n r (listed.setIfInBounds i true)
  | (false, i) :: r, listed => decide (i < n) && decide (i < ops.size) && decide (Region.ready md ops listed = [i]) && planB md ops g n r (listed.setIfInBounds i true)
def regionPlanB (md : Region.Mode) (ops : Array Oper) (n : Nat) (plan : List (Bool × Nat)) : Bool :=
  Region.noSelect ops && decide (n < ops.size) && Region.sinkB md ops n && Region.chainB md ops n && decide (plan.length = n) && planB md ops (ops.size - n) n plan (Array.replicate ops.size false)

theorem wpAnyM_plan {g n : Nat} {Lq : Act → World → Prop} {l : List Oper} (hops : ops = l.toArray) (hsel : Region.noSelect ops = true) (hs : Region.sinkB md ops n = true) (hc : Region.chainB md ops n = true) (hn : n < ops.size) (hQ : ∀ c (a a' : Act) w, Q (.panic c) a' w → Q (.panic c) a w) :
    ∀ (plan : List (Bool × Nat)) (listed : Array Bool) (a : Act) (w : World), HeadInv md ops n listed → S w → planB md ops g n plan listed = true →
    wpPlan P ops Q S Lq (plan.map fun x => (x.1, l.getD x.2 default)) a w →
    wpAnyM P md ops Q S (fun listed' a' w' => Region.seqB md ops g n listed' = true ∧ Lq a' w') plan.length listed a w
  | [], listed, a, w, inv, hS, hB, h => ⟨hB, h⟩
  | (true, i) :: r, listed, a, w, inv, hS, hB, h => by
    simp only [planB, Bool.and_eq_true, decide_eq_true_eq] at hB
    obtain ⟨⟨⟨⟨hin, hil⟩, hr⟩, hf⟩, hB'⟩ := hB
    have hr' : i ∈ Region.ready md ops listed := by simpa using hr
    have h0 : ops[i]? = some (l.getD i default) := by
      subst hops
      have : i < l.length := by simpa using hil
      simp [this]
    obtain ⟨v, hy, hK⟩ := h
    exact wpAnyM_first h0 (Region.noSelect_spec hsel) hs hc hn hin (fun c a w hq => hQ c _ _ w hq) (fun listed' a' w' hL => seqB_ready hL.1) r.length listed a w inv (Region.free_spec h0 hf) hr' hy hS
      (wpAnyM_plan hops hsel hs hc hn hQ r _ _ w (inv.set hr' hin) hS hB' hK)
  | (false, i) :: r, listed, a, w, inv, hS, hB, h => by
    simp only [planB, Bool.and_eq_true, decide_eq_true_eq] at hB
    obtain ⟨⟨⟨hin, hil⟩, hr⟩, hB'⟩ := hB
    have hr' : i ∈ Region.ready md ops listed := by rw [hr]; simp
    have h0 : ops[i]? = some (l.getD i default) := by
      subst hops
      have : i < l.length := by simpa using hil
      simp [this]
    obtain ⟨hg, hw⟩ := h
    refine ⟨fun h1 => (by rw [h1] at hr'; cases hr'), fun j hj => ?_⟩
    rw [hr] at hj
    obtain rfl : j = i := by simpa using hj
    have hwd : Region.wanted (l.getD j default) (yielded ops a.tmps) = true := by unfold Region.wanted; simp only [] at hg; rw [hg]
    unfold wpOp
    simp only [h0, hwd, if_true]
    exact .inl (Oper.wp_mono (fun a' w' h' => ⟨h'.1, wpAnyM_plan hops hsel hs hc hn hQ r _ a' w' (inv.set hr' hin) h'.1 hB' h'.2⟩) hw)

/-- THE LAW. -/
theorem wp_region_plan {id : Nat} {a : Act} {w : World} {l : List Oper} (S : World → Prop) (n : Nat) (plan : List (Bool × Nat)) (hm : P.follows .mixedOrders = true) (hB : regionPlanB .any l.toArray n plan = true) (hS : S w.drew)
    (h : wpPlan P l.toArray (NoPanic Q) S (fun a' w' => wpList P l.toArray (NoPanic Q) (l.drop n) a' w') (plan.map fun x => (x.1, l.getD x.2 default)) a w.drew) :
    (Code.region id l.toArray true).wp P Q a w := by
  refine wp_region_noPanic ?_
  simp only [regionPlanB, Bool.and_eq_true, decide_eq_true_eq] at hB
  obtain ⟨⟨⟨⟨⟨hsel, hn⟩, hs⟩, hc⟩, hlen⟩, hlex⟩ := hB
  have hn' : n < l.length := by simpa using hn
  have hdl : (l.drop n).length = l.toArray.size - n := by simp
  have inv0 : HeadInv .any l.toArray n (Array.replicate l.toArray.size false) :=
    ⟨by simp, fun j oj _ hl => (by rw [getD_replicate_false] at hl; cases hl), fun t _ ht => getD_in (by simpa using ht) (getD_replicate_false _ _)⟩
  have H := wpAnyM_plan (P := P) (md := .any) (Q := NoPanic Q) (S := S) (g := l.toArray.size - n) rfl hsel hs hc hn (fun c a a' w h => h.elim) plan _ a w.drew inv0 hS hlex h
  refine wp_region_any hm ?_
  have := wpAny_of_M (Q := NoPanic Q) (g := l.toArray.size - n) (fun listed a' w' hL => by
    have := wpAny_of_seq (md := .any) (Q' := NoPanic Q) (l.drop n) n listed a' w' (fun j => by simp [List.getElem?_drop]) (by rw [hdl]; exact hL.1) hL.2
    rwa [hdl] at this) _ _ _ _ H
  rw [hlen, show n + (l.toArray.size - n) = l.toArray.size by omega] at this
  exact this
theorem plan_take {L : Act → World → Prop} {o : Oper} {l : List (Bool × Oper)} {a : Act} {w : World} {v : Value} (hg : o.guard = none) (hy : ∀ w, S w → (execOp a.eval o).run P w = .ok (.value v) w) (h : wpPlan P ops Q S L l (a.put o.dst v) w) : wpPlan P ops Q S L ((true, o) :: l) a w :=
  ⟨v, .inl ⟨by simp [Region.wanted, hg], hy⟩, h⟩
theorem plan_run {L : Act → World → Prop} {o : Oper} {l : List (Bool × Oper)} {a : Act} {w : World} (hg : o.guard = none) (h : ∀ K : Act → World → Prop, Hid (∀ a' w', S w' → wpPlan P ops Q S L l a' w' → K a' w') → o.wp P a w K Q) : wpPlan P ops Q S L ((false, o) :: l) a w :=
  ⟨hg, h _ fun _ _ h1 h2 => ⟨h1, h2⟩⟩
theorem plan_nil {L : Act → World → Prop} {a : Act} {w : World} (h : L a w) : wpPlan P ops Q S L [] a w := h
end
end Go.Proofs.YtimpjlnbbdfehaaGreatDoor
namespace Go.Proofs.YtimpjlnbbdfehaaGreatDoor
open Go.RowKit Go.Shelf Go.Lib Go.Sort
set_option linter.unusedVariables false

/-! ### Words and bytes as Lean's own, behind a name: what the walk makes of their operations -/
def n8 (x : UInt8) : Int := (x.toNat : Int)
def n32 (x : UInt32) : Int := (x.toNat : Int)
def n64 (x : UInt64) : Int := (x.toNat : Int)
def b8 (x : UInt32) : UInt8 := x.toUInt8
def lo8 (x : UInt64) : UInt8 := x.toUInt8
def lo32 (x : UInt64) : UInt32 := x.toUInt32
def up32 (x : UInt8) : UInt32 := x.toUInt32
def up64 (x : UInt8) : UInt64 := x.toUInt64
def up3264 (x : UInt32) : UInt64 := x.toUInt64
theorem n8_lt (x : UInt8) : n8 x < 256 := by unfold n8; have := x.toNat_lt; omega
theorem n32_lt (x : UInt32) : n32 x < 4294967296 := by unfold n32; have := x.toNat_lt; omega
theorem n64_lt (x : UInt64) : n64 x < 18446744073709551616 := by unfold n64; have := x.toNat_lt; omega
theorem n8_nn (x : UInt8) : 0 ≤ n8 x := by unfold n8; omega
theorem n32_nn (x : UInt32) : 0 ≤ n32 x := by unfold n32; omega
theorem n64_nn (x : UInt64) : 0 ≤ n64 x := by unfold n64; omega
theorem wrap_u32 (n : Int) : IntKind.u32.wrap n = n % 4294967296 := by simp [IntKind.wrap, IntKind.bits, IntKind.signed]
theorem wrap_u64 (n : Int) : IntKind.u64.wrap n = n % 18446744073709551616 := by simp [IntKind.wrap, IntKind.bits, IntKind.signed]
theorem wrap_u8 (n : Int) : IntKind.u8.wrap n = n % 256 := by simp [IntKind.wrap, IntKind.bits, IntKind.signed]
theorem add_u32 (a b : UInt32) : IntKind.u32.wrap (n32 a + n32 b) = n32 (a + b) := by
  unfold n32; rw [wrap_u32, UInt32.toNat_add]; omega
theorem add_u64 (a b : UInt64) : IntKind.u64.wrap (n64 a + n64 b) = n64 (a + b) := by
  unfold n64; rw [wrap_u64, UInt64.toNat_add]; omega

theorem and_u8 (a b : UInt8) : bits .and .u8 (n8 a) (n8 b) = n8 (a &&& b) := by
  have := a.toNat_lt; have := b.toNat_lt
  unfold n8
  simp [bits, IntKind.wrap, IntKind.bits, IntKind.signed]
  rw [← UInt8.toNat_and]
  have h := (a &&& b).toNat_lt
  show ((a &&& b).toNat : Int) % _ = _
  omega
theorem or_u8 (a b : UInt8) : bits .or .u8 (n8 a) (n8 b) = n8 (a ||| b) := by
  have := a.toNat_lt; have := b.toNat_lt
  unfold n8
  simp [bits, IntKind.wrap, IntKind.bits, IntKind.signed]
  rw [← UInt8.toNat_or]
  have h := (a ||| b).toNat_lt
  show ((a ||| b).toNat : Int) % _ = _
  omega
theorem xor_u8 (a b : UInt8) : bits .xor .u8 (n8 a) (n8 b) = n8 (a ^^^ b) := by
  have := a.toNat_lt; have := b.toNat_lt
  unfold n8
  simp [bits, IntKind.wrap, IntKind.bits, IntKind.signed]
  rw [← UInt8.toNat_xor]
  have h := (a ^^^ b).toNat_lt
  show ((a ^^^ b).toNat : Int) % _ = _
  omega
theorem and_u32 (a b : UInt32) : bits .and .u32 (n32 a) (n32 b) = n32 (a &&& b) := by
  have := a.toNat_lt; have := b.toNat_lt
  unfold n32
  simp [bits, IntKind.wrap, IntKind.bits, IntKind.signed]
  rw [← UInt32.toNat_and]
  have h := (a &&& b).toNat_lt
  show ((a &&& b).toNat : Int) % _ = _
  omega
theorem or_u32 (a b : UInt32) : bits .or .u32 (n32 a) (n32 b) = n32 (a ||| b) := by
  have := a.toNat_lt; have := b.toNat_lt
  unfold n32
  simp [bits, IntKind.wrap, IntKind.bits, IntKind.signed]
  rw [← UInt32.toNat_or]
  have h := (a ||| b).toNat_lt
  show ((a ||| b).toNat : Int) % _ = _
  omega
theorem xor_u32 (a b : UInt32) : bits .xor .u32 (n32 a) (n32 b) = n32 (a ^^^ b) := by
  have := a.toNat_lt; have := b.toNat_lt
  unfold n32
  simp [bits, IntKind.wrap, IntKind.bits, IntKind.signed]
  rw [← UInt32.toNat_xor]
  have h := (a ^^^ b).toNat_lt
  show ((a ^^^ b).toNat : Int) % _ = _
  omega
theorem and_u64 (a b : UInt64) : bits .and .u64 (n64 a) (n64 b) = n64 (a &&& b) := by
  have := a.toNat_lt; have := b.toNat_lt
  unfold n64
  simp [bits, IntKind.wrap, IntKind.bits, IntKind.signed]
  rw [← UInt64.toNat_and]
  have h := (a &&& b).toNat_lt
  show ((a &&& b).toNat : Int) % _ = _
  omega
theorem or_u64 (a b : UInt64) : bits .or .u64 (n64 a) (n64 b) = n64 (a ||| b) := by
  have := a.toNat_lt; have := b.toNat_lt
  unfold n64
  simp [bits, IntKind.wrap, IntKind.bits, IntKind.signed]
  rw [← UInt64.toNat_or]
  have h := (a ||| b).toNat_lt
  show ((a ||| b).toNat : Int) % _ = _
  omega
theorem xor_u64 (a b : UInt64) : bits .xor .u64 (n64 a) (n64 b) = n64 (a ^^^ b) := by
  have := a.toNat_lt; have := b.toNat_lt
  unfold n64
  simp [bits, IntKind.wrap, IntKind.bits, IntKind.signed]
  rw [← UInt64.toNat_xor]
  have h := (a ^^^ b).toNat_lt
  show ((a ^^^ b).toNat : Int) % _ = _
  omega
theorem conv_32_8 (a : UInt32) : IntKind.u8.wrap (n32 a) = n8 (b8 a) := by unfold n32 n8 b8; rw [wrap_u8, UInt32.toNat_toUInt8]; omega
theorem conv_64_8 (a : UInt64) : IntKind.u8.wrap (n64 a) = n8 (lo8 a) := by unfold n64 n8 lo8; rw [wrap_u8, UInt64.toNat_toUInt8]; omega
theorem conv_64_32 (a : UInt64) : IntKind.u32.wrap (n64 a) = n32 (lo32 a) := by unfold n64 n32 lo32; rw [wrap_u32, UInt64.toNat_toUInt32]; omega
theorem conv_8_32 (a : UInt8) : IntKind.u32.wrap (n8 a) = n32 (up32 a) := by
  have := a.toNat_lt
  unfold n8 n32 up32
  rw [wrap_u32, UInt8.toNat_toUInt32]; omega
theorem conv_8_64 (a : UInt8) : IntKind.u64.wrap (n8 a) = n64 (up64 a) := by
  have := a.toNat_lt
  unfold n8 n64 up64
  rw [wrap_u64, UInt8.toNat_toUInt64]; omega
theorem conv_32_64 (a : UInt32) : IntKind.u64.wrap (n32 a) = n64 (up3264 a) := by
  have := a.toNat_lt
  unfold n32 n64 up3264
  rw [wrap_u64, UInt32.toNat_toUInt64]; omega
theorem pw (n : Nat) : ((2 : Int) ^ n) = ((2 ^ n : Nat) : Int) := by simp

theorem shr_32 (x : UInt32) (yk : IntKind) (n : Nat) (hn : n < 32) : Op.shift .shr .u32 (n32 x) yk (n : Int) = pure (.int .u32 (n32 (x >>> UInt32.ofNat n))) := by
  rw [shift_shr_any _ _ _ _ (by omega)]
  have e : min ((n : Int)).toNat (IntKind.u32.bits) = n := by simp [IntKind.bits]; omega
  unfold n32
  rw [e, UInt32.toNat_shiftRight, pw, Nat.shiftRight_eq_div_pow, UInt32.toNat_ofNat_of_lt' (by simp [UInt32.size]; omega), Nat.mod_eq_of_lt hn]
  rfl
theorem shl_32 (x : UInt32) (yk : IntKind) (n : Nat) (hn : n < 32) : Op.shift .shl .u32 (n32 x) yk (n : Int) = pure (.int .u32 (n32 (x <<< UInt32.ofNat n))) := by
  rw [shift_shl_any _ _ _ _ (by omega)]
  have e : min ((n : Int)).toNat (IntKind.u32.bits) = n := by simp [IntKind.bits]; omega
  unfold n32
  rw [e, UInt32.toNat_shiftLeft, pw, Nat.shiftLeft_eq, UInt32.toNat_ofNat_of_lt' (by simp [UInt32.size]; omega), Nat.mod_eq_of_lt hn, wrap_u32]
  rfl
theorem shr_64 (x : UInt64) (yk : IntKind) (n : Nat) (hn : n < 64) : Op.shift .shr .u64 (n64 x) yk (n : Int) = pure (.int .u64 (n64 (x >>> UInt64.ofNat n))) := by
  rw [shift_shr_any _ _ _ _ (by omega)]
  have e : min ((n : Int)).toNat (IntKind.u64.bits) = n := by simp [IntKind.bits]; omega
  unfold n64
  rw [e, UInt64.toNat_shiftRight, pw, Nat.shiftRight_eq_div_pow, UInt64.toNat_ofNat_of_lt' (by simp [UInt64.size]; omega), Nat.mod_eq_of_lt hn]
  rfl
theorem shl_64 (x : UInt64) (yk : IntKind) (n : Nat) (hn : n < 64) : Op.shift .shl .u64 (n64 x) yk (n : Int) = pure (.int .u64 (n64 (x <<< UInt64.ofNat n))) := by
  rw [shift_shl_any _ _ _ _ (by omega)]
  have e : min ((n : Int)).toNat (IntKind.u64.bits) = n := by simp [IntKind.bits]; omega
  unfold n64
  rw [e, UInt64.toNat_shiftLeft, pw, Nat.shiftLeft_eq, UInt64.toNat_ofNat_of_lt' (by simp [UInt64.size]; omega), Nat.mod_eq_of_lt hn, wrap_u64]
  rfl
theorem shr_32_1 (x : UInt32) (yk : IntKind) : Op.shift .shr .u32 (n32 x) yk 1 = pure (.int .u32 (n32 (x >>> 1))) := shr_32 x yk 1 (by omega)
theorem shl_32_1 (x : UInt32) (yk : IntKind) : Op.shift .shl .u32 (n32 x) yk 1 = pure (.int .u32 (n32 (x <<< 1))) := shl_32 x yk 1 (by omega)
theorem shr_32_2 (x : UInt32) (yk : IntKind) : Op.shift .shr .u32 (n32 x) yk 2 = pure (.int .u32 (n32 (x >>> 2))) := shr_32 x yk 2 (by omega)
theorem shl_32_2 (x : UInt32) (yk : IntKind) : Op.shift .shl .u32 (n32 x) yk 2 = pure (.int .u32 (n32 (x <<< 2))) := shl_32 x yk 2 (by omega)
theorem shr_32_3 (x : UInt32) (yk : IntKind) : Op.shift .shr .u32 (n32 x) yk 3 = pure (.int .u32 (n32 (x >>> 3))) := shr_32 x yk 3 (by omega)
theorem shl_32_3 (x : UInt32) (yk : IntKind) : Op.shift .shl .u32 (n32 x) yk 3 = pure (.int .u32 (n32 (x <<< 3))) := shl_32 x yk 3 (by omega)
theorem shr_32_4 (x : UInt32) (yk : IntKind) : Op.shift .shr .u32 (n32 x) yk 4 = pure (.int .u32 (n32 (x >>> 4))) := shr_32 x yk 4 (by omega)
theorem shl_32_4 (x : UInt32) (yk : IntKind) : Op.shift .shl .u32 (n32 x) yk 4 = pure (.int .u32 (n32 (x <<< 4))) := shl_32 x yk 4 (by omega)
theorem shr_32_5 (x : UInt32) (yk : IntKind) : Op.shift .shr .u32 (n32 x) yk 5 = pure (.int .u32 (n32 (x >>> 5))) := shr_32 x yk 5 (by omega)
theorem shl_32_5 (x : UInt32) (yk : IntKind) : Op.shift .shl .u32 (n32 x) yk 5 = pure (.int .u32 (n32 (x <<< 5))) := shl_32 x yk 5 (by omega)
theorem shr_32_6 (x : UInt32) (yk : IntKind) : Op.shift .shr .u32 (n32 x) yk 6 = pure (.int .u32 (n32 (x >>> 6))) := shr_32 x yk 6 (by omega)
theorem shl_32_6 (x : UInt32) (yk : IntKind) : Op.shift .shl .u32 (n32 x) yk 6 = pure (.int .u32 (n32 (x <<< 6))) := shl_32 x yk 6 (by omega)
theorem shr_32_7 (x : UInt32) (yk : IntKind) : Op.shift .shr .u32 (n32 x) yk 7 = pure (.int .u32 (n32 (x >>> 7))) := shr_32 x yk 7 (by omega)
theorem shl_32_7 (x : UInt32) (yk : IntKind) : Op.shift .shl .u32 (n32 x) yk 7 = pure (.int .u32 (n32 (x <<< 7))) := shl_32 x yk 7 (by omega)
theorem shr_32_8 (x : UInt32) (yk : IntKind) : Op.shift .shr .u32 (n32 x) yk 8 = pure (.int .u32 (n32 (x >>> 8))) := shr_32 x yk 8 (by omega)
theorem shl_32_8 (x : UInt32) (yk : IntKind) : Op.shift .shl .u32 (n32 x) yk 8 = pure (.int .u32 (n32 (x <<< 8))) := shl_32 x yk 8 (by omega)
theorem shr_32_9 (x : UInt32) (yk : IntKind) : Op.shift .shr .u32 (n32 x) yk 9 = pure (.int .u32 (n32 (x >>> 9))) := shr_32 x yk 9 (by omega)
theorem shl_32_9 (x : UInt32) (yk : IntKind) : Op.shift .shl .u32 (n32 x) yk 9 = pure (.int .u32 (n32 (x <<< 9))) := shl_32 x yk 9 (by omega)
theorem shr_32_10 (x : UInt32) (yk : IntKind) : Op.shift .shr .u32 (n32 x) yk 10 = pure (.int .u32 (n32 (x >>> 10))) := shr_32 x yk 10 (by omega)
theorem shl_32_10 (x : UInt32) (yk : IntKind) : Op.shift .shl .u32 (n32 x) yk 10 = pure (.int .u32 (n32 (x <<< 10))) := shl_32 x yk 10 (by omega)
theorem shr_32_11 (x : UInt32) (yk : IntKind) : Op.shift .shr .u32 (n32 x) yk 11 = pure (.int .u32 (n32 (x >>> 11))) := shr_32 x yk 11 (by omega)
theorem shl_32_11 (x : UInt32) (yk : IntKind) : Op.shift .shl .u32 (n32 x) yk 11 = pure (.int .u32 (n32 (x <<< 11))) := shl_32 x yk 11 (by omega)
theorem shr_32_12 (x : UInt32) (yk : IntKind) : Op.shift .shr .u32 (n32 x) yk 12 = pure (.int .u32 (n32 (x >>> 12))) := shr_32 x yk 12 (by omega)
theorem shl_32_12 (x : UInt32) (yk : IntKind) : Op.shift .shl .u32 (n32 x) yk 12 = pure (.int .u32 (n32 (x <<< 12))) := shl_32 x yk 12 (by omega)
theorem shr_32_13 (x : UInt32) (yk : IntKind) : Op.shift .shr .u32 (n32 x) yk 13 = pure (.int .u32 (n32 (x >>> 13))) := shr_32 x yk 13 (by omega)
theorem shl_32_13 (x : UInt32) (yk : IntKind) : Op.shift .shl .u32 (n32 x) yk 13 = pure (.int .u32 (n32 (x <<< 13))) := shl_32 x yk 13 (by omega)
theorem shr_32_14 (x : UInt32) (yk : IntKind) : Op.shift .shr .u32 (n32 x) yk 14 = pure (.int .u32 (n32 (x >>> 14))) := shr_32 x yk 14 (by omega)
theorem shl_32_14 (x : UInt32) (yk : IntKind) : Op.shift .shl .u32 (n32 x) yk 14 = pure (.int .u32 (n32 (x <<< 14))) := shl_32 x yk 14 (by omega)
theorem shr_32_15 (x : UInt32) (yk : IntKind) : Op.shift .shr .u32 (n32 x) yk 15 = pure (.int .u32 (n32 (x >>> 15))) := shr_32 x yk 15 (by omega)
theorem shl_32_15 (x : UInt32) (yk : IntKind) : Op.shift .shl .u32 (n32 x) yk 15 = pure (.int .u32 (n32 (x <<< 15))) := shl_32 x yk 15 (by omega)
theorem shr_32_16 (x : UInt32) (yk : IntKind) : Op.shift .shr .u32 (n32 x) yk 16 = pure (.int .u32 (n32 (x >>> 16))) := shr_32 x yk 16 (by omega)
theorem shl_32_16 (x : UInt32) (yk : IntKind) : Op.shift .shl .u32 (n32 x) yk 16 = pure (.int .u32 (n32 (x <<< 16))) := shl_32 x yk 16 (by omega)
theorem shr_32_17 (x : UInt32) (yk : IntKind) : Op.shift .shr .u32 (n32 x) yk 17 = pure (.int .u32 (n32 (x >>> 17))) := shr_32 x yk 17 (by omega)
theorem shl_32_17 (x : UInt32) (yk : IntKind) : Op.shift .shl .u32 (n32 x) yk 17 = pure (.int .u32 (n32 (x <<< 17))) := shl_32 x yk 17 (by omega)
theorem shr_32_18 (x : UInt32) (yk : IntKind) : Op.shift .shr .u32 (n32 x) yk 18 = pure (.int .u32 (n32 (x >>> 18))) := shr_32 x yk 18 (by omega)
theorem shl_32_18 (x : UInt32) (yk : IntKind) : Op.shift .shl .u32 (n32 x) yk 18 = pure (.int .u32 (n32 (x <<< 18))) := shl_32 x yk 18 (by omega)
theorem shr_32_19 (x : UInt32) (yk : IntKind) : Op.shift .shr .u32 (n32 x) yk 19 = pure (.int .u32 (n32 (x >>> 19))) := shr_32 x yk 19 (by omega)
theorem shl_32_19 (x : UInt32) (yk : IntKind) : Op.shift .shl .u32 (n32 x) yk 19 = pure (.int .u32 (n32 (x <<< 19))) := shl_32 x yk 19 (by omega)
theorem shr_32_20 (x : UInt32) (yk : IntKind) : Op.shift .shr .u32 (n32 x) yk 20 = pure (.int .u32 (n32 (x >>> 20))) := shr_32 x yk 20 (by omega)
theorem shl_32_20 (x : UInt32) (yk : IntKind) : Op.shift .shl .u32 (n32 x) yk 20 = pure (.int .u32 (n32 (x <<< 20))) := shl_32 x yk 20 (by omega)
theorem shr_32_21 (x : UInt32) (yk : IntKind) : Op.shift .shr .u32 (n32 x) yk 21 = pure (.int .u32 (n32 (x >>> 21))) := shr_32 x yk 21 (by omega)
theorem shl_32_21 (x : UInt32) (yk : IntKind) : Op.shift .shl .u32 (n32 x) yk 21 = pure (.int .u32 (n32 (x <<< 21))) := shl_32 x yk 21 (by omega)
theorem shr_32_22 (x : UInt32) (yk : IntKind) : Op.shift .shr .u32 (n32 x) yk 22 = pure (.int .u32 (n32 (x >>> 22))) := shr_32 x yk 22 (by omega)
theorem shl_32_22 (x : UInt32) (yk : IntKind) : Op.shift .shl .u32 (n32 x) yk 22 = pure (.int .u32 (n32 (x <<< 22))) := shl_32 x yk 22 (by omega)
theorem shr_32_23 (x : UInt32) (yk : IntKind) : Op.shift .shr .u32 (n32 x) yk 23 = pure (.int .u32 (n32 (x >>> 23))) := shr_32 x yk 23 (by omega)
theorem shl_32_23 (x : UInt32) (yk : IntKind) : Op.shift .shl .u32 (n32 x) yk 23 = pure (.int .u32 (n32 (x <<< 23))) := shl_32 x yk 23 (by omega)
theorem shr_32_24 (x : UInt32) (yk : IntKind) : Op.shift .shr .u32 (n32 x) yk 24 = pure (.int .u32 (n32 (x >>> 24))) := shr_32 x yk 24 (by omega)
theorem shl_32_24 (x : UInt32) (yk : IntKind) : Op.shift .shl .u32 (n32 x) yk 24 = pure (.int .u32 (n32 (x <<< 24))) := shl_32 x yk 24 (by omega)
theorem shr_32_25 (x : UInt32) (yk : IntKind) : Op.shift .shr .u32 (n32 x) yk 25 = pure (.int .u32 (n32 (x >>> 25))) := shr_32 x yk 25 (by omega)
theorem shl_32_25 (x : UInt32) (yk : IntKind) : Op.shift .shl .u32 (n32 x) yk 25 = pure (.int .u32 (n32 (x <<< 25))) := shl_32 x yk 25 (by omega)
theorem shr_32_26 (x : UInt32) (yk : IntKind) : Op.shift .shr .u32 (n32 x) yk 26 = pure (.int .u32 (n32 (x >>> 26))) := shr_32 x yk 26 (by omega)
theorem shl_32_26 (x : UInt32) (yk : IntKind) : Op.shift .shl .u32 (n32 x) yk 26 = pure (.int .u32 (n32 (x <<< 26))) := shl_32 x yk 26 (by omega)
theorem shr_32_27 (x : UInt32) (yk : IntKind) : Op.shift .shr .u32 (n32 x) yk 27 = pure (.int .u32 (n32 (x >>> 27))) := shr_32 x yk 27 (by omega)
theorem shl_32_27 (x : UInt32) (yk : IntKind) : Op.shift .shl .u32 (n32 x) yk 27 = pure (.int .u32 (n32 (x <<< 27))) := shl_32 x yk 27 (by omega)
theorem shr_32_28 (x : UInt32) (yk : IntKind) : Op.shift .shr .u32 (n32 x) yk 28 = pure (.int .u32 (n32 (x >>> 28))) := shr_32 x yk 28 (by omega)
theorem shl_32_28 (x : UInt32) (yk : IntKind) : Op.shift .shl .u32 (n32 x) yk 28 = pure (.int .u32 (n32 (x <<< 28))) := shl_32 x yk 28 (by omega)
theorem shr_32_29 (x : UInt32) (yk : IntKind) : Op.shift .shr .u32 (n32 x) yk 29 = pure (.int .u32 (n32 (x >>> 29))) := shr_32 x yk 29 (by omega)
theorem shl_32_29 (x : UInt32) (yk : IntKind) : Op.shift .shl .u32 (n32 x) yk 29 = pure (.int .u32 (n32 (x <<< 29))) := shl_32 x yk 29 (by omega)
theorem shr_32_30 (x : UInt32) (yk : IntKind) : Op.shift .shr .u32 (n32 x) yk 30 = pure (.int .u32 (n32 (x >>> 30))) := shr_32 x yk 30 (by omega)
theorem shl_32_30 (x : UInt32) (yk : IntKind) : Op.shift .shl .u32 (n32 x) yk 30 = pure (.int .u32 (n32 (x <<< 30))) := shl_32 x yk 30 (by omega)
theorem shr_32_31 (x : UInt32) (yk : IntKind) : Op.shift .shr .u32 (n32 x) yk 31 = pure (.int .u32 (n32 (x >>> 31))) := shr_32 x yk 31 (by omega)
theorem shl_32_31 (x : UInt32) (yk : IntKind) : Op.shift .shl .u32 (n32 x) yk 31 = pure (.int .u32 (n32 (x <<< 31))) := shl_32 x yk 31 (by omega)
theorem shr_64_3 (x : UInt64) (yk : IntKind) : Op.shift .shr .u64 (n64 x) yk 3 = pure (.int .u64 (n64 (x >>> 3))) := shr_64 x yk 3 (by omega)
theorem shl_64_3 (x : UInt64) (yk : IntKind) : Op.shift .shl .u64 (n64 x) yk 3 = pure (.int .u64 (n64 (x <<< 3))) := shl_64 x yk 3 (by omega)
theorem shr_64_7 (x : UInt64) (yk : IntKind) : Op.shift .shr .u64 (n64 x) yk 7 = pure (.int .u64 (n64 (x >>> 7))) := shr_64 x yk 7 (by omega)
theorem shl_64_7 (x : UInt64) (yk : IntKind) : Op.shift .shl .u64 (n64 x) yk 7 = pure (.int .u64 (n64 (x <<< 7))) := shl_64 x yk 7 (by omega)
theorem shr_64_8 (x : UInt64) (yk : IntKind) : Op.shift .shr .u64 (n64 x) yk 8 = pure (.int .u64 (n64 (x >>> 8))) := shr_64 x yk 8 (by omega)
theorem shl_64_8 (x : UInt64) (yk : IntKind) : Op.shift .shl .u64 (n64 x) yk 8 = pure (.int .u64 (n64 (x <<< 8))) := shl_64 x yk 8 (by omega)
theorem shr_64_16 (x : UInt64) (yk : IntKind) : Op.shift .shr .u64 (n64 x) yk 16 = pure (.int .u64 (n64 (x >>> 16))) := shr_64 x yk 16 (by omega)
theorem shl_64_16 (x : UInt64) (yk : IntKind) : Op.shift .shl .u64 (n64 x) yk 16 = pure (.int .u64 (n64 (x <<< 16))) := shl_64 x yk 16 (by omega)
theorem shr_64_24 (x : UInt64) (yk : IntKind) : Op.shift .shr .u64 (n64 x) yk 24 = pure (.int .u64 (n64 (x >>> 24))) := shr_64 x yk 24 (by omega)
theorem shl_64_24 (x : UInt64) (yk : IntKind) : Op.shift .shl .u64 (n64 x) yk 24 = pure (.int .u64 (n64 (x <<< 24))) := shl_64 x yk 24 (by omega)
theorem shr_64_32 (x : UInt64) (yk : IntKind) : Op.shift .shr .u64 (n64 x) yk 32 = pure (.int .u64 (n64 (x >>> 32))) := shr_64 x yk 32 (by omega)
theorem shl_64_32 (x : UInt64) (yk : IntKind) : Op.shift .shl .u64 (n64 x) yk 32 = pure (.int .u64 (n64 (x <<< 32))) := shl_64 x yk 32 (by omega)
theorem shr_64_40 (x : UInt64) (yk : IntKind) : Op.shift .shr .u64 (n64 x) yk 40 = pure (.int .u64 (n64 (x >>> 40))) := shr_64 x yk 40 (by omega)
theorem shl_64_40 (x : UInt64) (yk : IntKind) : Op.shift .shl .u64 (n64 x) yk 40 = pure (.int .u64 (n64 (x <<< 40))) := shl_64 x yk 40 (by omega)
theorem shr_64_48 (x : UInt64) (yk : IntKind) : Op.shift .shr .u64 (n64 x) yk 48 = pure (.int .u64 (n64 (x >>> 48))) := shr_64 x yk 48 (by omega)
theorem shl_64_48 (x : UInt64) (yk : IntKind) : Op.shift .shl .u64 (n64 x) yk 48 = pure (.int .u64 (n64 (x <<< 48))) := shl_64 x yk 48 (by omega)
theorem shr_64_56 (x : UInt64) (yk : IntKind) : Op.shift .shr .u64 (n64 x) yk 56 = pure (.int .u64 (n64 (x >>> 56))) := shr_64 x yk 56 (by omega)
theorem shl_64_56 (x : UInt64) (yk : IntKind) : Op.shift .shl .u64 (n64 x) yk 56 = pure (.int .u64 (n64 (x <<< 56))) := shl_64 x yk 56 (by omega)
end Go.Proofs.YtimpjlnbbdfehaaGreatDoor
namespace Go.Proofs.YtimpjlnbbdfehaaGreatDoor
open Go.RowKit Go.Shelf Go.Lib Go.Sort
set_option linter.unusedVariables false
attribute [local go_sem ↓] shr_32_1 shl_32_1 shr_32_2 shl_32_2 shr_32_3 shl_32_3 shr_32_4 shl_32_4 shr_32_5 shl_32_5 shr_32_6 shl_32_6 shr_32_7 shl_32_7 shr_32_8 shl_32_8 shr_32_9 shl_32_9 shr_32_10 shl_32_10 shr_32_11 shl_32_11 shr_32_12 shl_32_12 shr_32_13 shl_32_13 shr_32_14 shl_32_14 shr_32_15 shl_32_15 shr_32_16 shl_32_16 shr_32_17 shl_32_17 shr_32_18 shl_32_18 shr_32_19 shl_32_19 shr_32_20 shl_32_20 shr_32_21 shl_32_21 shr_32_22 shl_32_22 shr_32_23 shl_32_23 shr_32_24 shl_32_24 shr_32_25 shl_32_25 shr_32_26 shl_32_26 shr_32_27 shl_32_27 shr_32_28 shl_32_28 shr_32_29 shl_32_29 shr_32_30 shl_32_30 shr_32_31 shl_32_31 shr_64_3 shl_64_3 shr_64_7 shl_64_7 shr_64_8 shl_64_8 shr_64_16 shl_64_16 shr_64_24 shl_64_24 shr_64_32 shl_64_32 shr_64_40 shl_64_40 shr_64_48 shl_64_48 shr_64_56 shl_64_56
attribute [local go_sem] add_u32 add_u64 and_u8 or_u8 xor_u8 and_u32 or_u32 xor_u32 and_u64 or_u64 xor_u64 conv_32_8 conv_64_8 conv_64_32 conv_8_32 conv_8_64 conv_32_64

/-- Bytes as cells. -/
def bv (l : List UInt8) : List Value := l.map fun c => Value.int .u8 (n8 c)
theorem bv_len (l : List UInt8) : (bv l).length = l.length := List.length_map ..
theorem bv_get (l : List UInt8) (j : Nat) (h : j < l.length) : (bv l)[j]? = some (.int .u8 (n8 l[j])) := by simp [bv, h]
theorem bv_app (a b : List UInt8) : bv (a ++ b) = bv a ++ bv b := List.map_append ..
theorem bv_one (l : List UInt8) : ∀ u ∈ bv l, u.oneCell' = true := fun u hu => by
  obtain ⟨c, _, rfl⟩ := List.mem_map.1 hu; rfl
theorem info5 : (Tryz.prog.info? 5).map (fun i => (i.zero, i.size, i.bytes)) = some (some (.int .u8 0), 1, 1) := by kernel_rfl
theorem row_cells (w : World) (cs : List Value) (t : TypeId) : Row (w.alloc (.cells cs.toArray t)) (some ⟨w.heap.size, 0, none⟩) cs := fun _ => ⟨_, rfl, fun j v hj => by
  have hb : Blk (w.alloc (.cells cs.toArray t)) w.heap.size t cs.toArray := Blk.new _ _ _
  rw [add_at, hb.cell, ← Array.getElem?_toList, Nat.zero_add]
  exact hj⟩
theorem conv_cells {w : World} {a : Addr} {cap : Nat} (l : List UInt8) (hc : ∀ j u, (bv l)[j]? = some u → w.cell? (a.add j) = some u) : (convert 57 9 (.slice (some a) l.length cap)).run Tryz.prog w = .ok (.string ⟨l.toArray⟩) w :=
  run_convert_bytes_back (P := Tryz.prog) w 57 9 5 a cap l Tryz.underlying57 Tryz.underlying5 Tryz.underlying9 (fun j hj => hc j _ (bv_get l j hj))
theorem conv_mid {w : World} {B : Nat} {v : Value} {acc : List UInt8} (h : Mid w B 5 1 v acc.length (bv acc)) : (convert 57 9 v).run Tryz.prog w = .ok (.string ⟨acc.toArray⟩) w := by
  rcases h.2 with ⟨rfl, h0⟩ | ⟨g, off, cap, cur, rfl, hb, hh, hnc, hcm, hcs, ht⟩
  · obtain rfl : acc = [] := List.eq_nil_of_length_eq_zero h0
    exact run_convert_bytes_nil w 57 5 Tryz.underlying57 Tryz.underlying5 0 0 9 Tryz.underlying9
  · exact conv_cells acc (fun j u hj => by
      have hl := (List.getElem?_eq_some_iff.1 hj).1
      rw [add_at, hh.cell, ← Array.getElem?_toList]
      rw [← ht, List.getElem?_take] at hj
      rw [bv_len] at hl
      rw [if_pos (by omega), List.getElem?_drop] at hj
      exact hj)
theorem conv_four (w : World) (a b c d : UInt8) : (convert 57 9 (.slice (some ⟨w.heap.size, 0, none⟩) 4 4)).run Tryz.prog (w.alloc (.cells #[.int .u8 (n8 a), .int .u8 (n8 b), .int .u8 (n8 c), .int .u8 (n8 d)] 5)) = .ok (.string ⟨#[a, b, c, d]⟩) (w.alloc (.cells #[.int .u8 (n8 a), .int .u8 (n8 b), .int .u8 (n8 c), .int .u8 (n8 d)] 5)) :=
  conv_cells [a, b, c, d] (fun j u hj => by
    obtain ⟨ad, e, h⟩ := row_cells w (bv [a, b, c, d]) 5 (by simp [bv])
    injection e with e; subst e
    exact h j u hj)
def gb (s : ByteArray) (i : Nat) : UInt8 := s.data.toList.getD i 0
theorem ix_str (s : ByteArray) (k : Nat) (i : Int) (hi : i = k) (h : k < s.size) (w : World) : (Instr.index 9 (.string s) (.int .i64 i)).run Tryz.prog w = .ok (.int .u8 (n8 (gb s k))) w := by
  subst hi
  have e : s[k]? = some s[k] := by simp [h]
  have e2 : gb s k = s[k] := by
    unfold gb
    rw [List.getD_eq_getElem?_getD, List.getElem?_eq_getElem (by simpa using h)]
    rfl
  rw [e2]
  simp [Instr.index, run_underlying Tryz.underlying9, n8, asIntOf, e]
/-- Four bytes of a word, the highest first. -/
def be4 (x : UInt32) : ByteArray := ⟨#[b8 (x >>> 24), b8 (x >>> 16), b8 (x >>> 8), b8 x]⟩
def be8 (x : UInt64) : ByteArray := be4 (lo32 (x >>> 32)) ++ be4 (lo32 x)
set_option maxRecDepth 100000 in
theorem small_ok (x : UInt32) (w : World) :
    Calls Tryz.prog 107 #[.int .u32 (n32 x)] w fun e w' => e = .returned (.string (be4 x)) ∧ Below w.heap.size w w' := by
  have hc := conv_four
  go_enter Tryz.func107, Tryz.ntmps107
  go_wp2
  go_ret
  exact ⟨rfl, (Below.refl _ _).alloc (Nat.le_refl _) _⟩
theorem be4_size (x : UInt32) : (be4 x).size = 4 := rfl
set_option maxRecDepth 100000 in
theorem big_ok (x : UInt64) (w : World) :
    Calls Tryz.prog 149 #[.int .u64 (n64 x)] w fun e w' => e = .returned (.string (be8 x)) ∧ Below w.heap.size w w' := by
  have h1 := be4_size (lo32 (x >>> 32))
  have h2 := be4_size (lo32 x)
  go_enter Tryz.func149, Tryz.ntmps149
  go_wp2_with fail
  refine (small_ok _ _).mono ?_
  rintro e w1 ⟨rfl, hb⟩
  have HB1 := Lib.hid hb
  clear hb
  go_wp2_with fail
  refine (small_ok _ _).mono ?_
  rintro e w2 ⟨rfl, hb⟩
  have HB2 := Lib.hid hb
  clear hb
  go_wp2_with fail
  go_ret
  exact ⟨rfl, HB1.out.trans (HB2.out.mono HB1.out.size)⟩
theorem and_16 : bits .and .u64 16 31 = 16 := by decide
theorem and_12 : bits .and .u64 12 31 = 12 := by decide
theorem and_8 : bits .and .u64 8 31 = 8 := by decide
theorem and_7 : bits .and .u64 7 31 = 7 := by decide
/-- A word of four bytes, the lowest first. -/
def le4 (s : ByteArray) (i : Nat) : UInt32 := up32 (gb s i) ||| up32 (gb s (i + 1)) <<< 8 ||| up32 (gb s (i + 2)) <<< 16 ||| up32 (gb s (i + 3)) <<< 24
set_option maxRecDepth 100000 in
theorem word_ok (s : ByteArray) (w : World) (h0 : 4 ≤ s.size) :
    Calls Tryz.prog 221 #[.string s] w fun e w' => e = .returned (.int .u32 (n32 (le4 s 0))) ∧ ∃ n, w' = w.drewN n := by
  have h1 := fun w => ix_str s 0 0 rfl (by omega) w
  have h2 := fun w => ix_str s 1 1 rfl (by omega) w
  have h3 := fun w => ix_str s 2 2 rfl (by omega) w
  have h4 := fun w => ix_str s 3 3 rfl (by omega) w
  go_enter Tryz.func221, Tryz.ntmps221
  go_wp2
  go_quiet (fail)
  go_wp2
  go_ret
  exact ⟨rfl, _, rfl⟩

end Go.Proofs.YtimpjlnbbdfehaaGreatDoor
namespace Go.Proofs.YtimpjlnbbdfehaaGreatDoor
open Go.RowKit Go.Shelf Go.Lib Go.Sort
set_option linter.unusedVariables false
attribute [local go_sem ↓] shr_32_1 shl_32_1 shr_32_2 shl_32_2 shr_32_3 shl_32_3 shr_32_4 shl_32_4 shr_32_5 shl_32_5 shr_32_6 shl_32_6 shr_32_7 shl_32_7 shr_32_8 shl_32_8 shr_32_9 shl_32_9 shr_32_10 shl_32_10 shr_32_11 shl_32_11 shr_32_12 shl_32_12 shr_32_13 shl_32_13 shr_32_14 shl_32_14 shr_32_15 shl_32_15 shr_32_16 shl_32_16 shr_32_17 shl_32_17 shr_32_18 shl_32_18 shr_32_19 shl_32_19 shr_32_20 shl_32_20 shr_32_21 shl_32_21 shr_32_22 shl_32_22 shr_32_23 shl_32_23 shr_32_24 shl_32_24 shr_32_25 shl_32_25 shr_32_26 shl_32_26 shr_32_27 shl_32_27 shr_32_28 shl_32_28 shr_32_29 shl_32_29 shr_32_30 shl_32_30 shr_32_31 shl_32_31 shr_64_3 shl_64_3 shr_64_7 shl_64_7 shr_64_8 shl_64_8 shr_64_16 shl_64_16 shr_64_24 shl_64_24 shr_64_32 shl_64_32 shr_64_40 shl_64_40 shr_64_48 shl_64_48 shr_64_56 shl_64_56
attribute [local go_sem] add_u32 add_u64 and_u8 or_u8 xor_u8 and_u32 or_u32 xor_u32 and_u64 or_u64 xor_u64 conv_32_8 conv_64_8 conv_64_32 conv_8_32 conv_8_64 conv_32_64

/-! ### Rows of words -/
def upd (f : Nat → UInt32) (i : Nat) (x : UInt32) : Nat → UInt32 := fun j => if j = i then x else f j
def vw (n : Nat) (f : Nat → UInt32) : Array Value := ((List.range n).map fun i => Value.int .u32 (n32 (f i))).toArray
theorem vw_get (n : Nat) (f : Nat → UInt32) (i : Nat) (h : i < n) : (vw n f)[i]? = some (.int .u32 (n32 (f i))) := by
  unfold vw; simp [h]
theorem vw_set (n : Nat) (f : Nat → UInt32) (i : Nat) (x : UInt32) : (vw n f).setIfInBounds i (.int .u32 (n32 x)) = vw n (upd f i x) := by
  apply Array.ext'
  apply List.ext_getElem?
  intro j
  by_cases hj : j < n
  · by_cases e : i = j
    · subst e; simp [vw, upd, hj]
    · simp [vw, upd, hj, e, Ne.symm e]
  · simp [vw, hj]
theorem Blk.word {w : World} {g n : Nat} {t : TypeId} {f : Nat → UInt32} (h : Blk w g t (vw n f)) (i : Nat) (hi : i < n) : w.cell? ⟨g, i, none⟩ = some (.int .u32 (n32 (f i))) := (h.cell i).trans (vw_get n f i hi)
theorem Blk.setw {w : World} {g n : Nat} {t : TypeId} {f : Nat → UInt32} (h : Blk w g t (vw n f)) (i : Nat) (x : UInt32) : Blk (w.setCell ⟨g, i, none⟩ (.int .u32 (n32 x))) g t (vw n (upd f i x)) := by
  rw [← vw_set]; exact h.set_ i _
/-- Four words mixed. -/
def addW (f : Nat → UInt32) (p q : Nat) : Nat → UInt32 := upd f p (f p + f q)
def rotl (x : UInt32) (k j : UInt32) : UInt32 := x <<< k ||| x >>> j
def rotW (f : Nat → UInt32) (p q : Nat) (k j : UInt32) : Nat → UInt32 := upd f p (rotl (f p ^^^ f q) k j)
def quarterF (f : Nat → UInt32) (a b c d : Nat) : Nat → UInt32 :=
  let f := addW f a b
  let f := rotW f d a 16 16
  let f := addW f c d
  let f := rotW f b c 12 20
  let f := addW f a b
  let f := rotW f d a 8 24
  let f := addW f c d
  rotW f b c 7 25

theorem rot_16 (x : UInt32) (w : World) :
    Calls Tryz.prog 222 #[.int .u32 (n32 x), .int .i64 16] w fun e w' => e = .returned (.int .u32 (n32 (rotl x 16 16))) ∧ w = w' := by
  have h := and_16
  go_enter Tryz.func222, Tryz.ntmps222
  go_wp2
  go_ret
  exact ⟨rfl, rfl⟩
theorem rot_12 (x : UInt32) (w : World) :
    Calls Tryz.prog 222 #[.int .u32 (n32 x), .int .i64 12] w fun e w' => e = .returned (.int .u32 (n32 (rotl x 12 20))) ∧ w = w' := by
  have h := and_12
  go_enter Tryz.func222, Tryz.ntmps222
  go_wp2
  go_ret
  exact ⟨rfl, rfl⟩
theorem rot_8 (x : UInt32) (w : World) :
    Calls Tryz.prog 222 #[.int .u32 (n32 x), .int .i64 8] w fun e w' => e = .returned (.int .u32 (n32 (rotl x 8 24))) ∧ w = w' := by
  have h := and_8
  go_enter Tryz.func222, Tryz.ntmps222
  go_wp2
  go_ret
  exact ⟨rfl, rfl⟩
theorem rot_7 (x : UInt32) (w : World) :
    Calls Tryz.prog 222 #[.int .u32 (n32 x), .int .i64 7] w fun e w' => e = .returned (.int .u32 (n32 (rotl x 7 25))) ∧ w = w' := by
  have h := and_7
  go_enter Tryz.func222, Tryz.ntmps222
  go_wp2
  go_ret
  exact ⟨rfl, rfl⟩
set_option maxHeartbeats 1000000 in
set_option maxRecDepth 100000 in
theorem quarter_ok (g : Nat) (f : Nat → UInt32) (a b c d : Nat) (ha : a < 16) (hb : b < 16) (hc : c < 16) (hd : d < 16) (w : World) (hg : Blk w g 288 (vw 16 f)) :
    Calls Tryz.prog 211 #[.pointer (some ⟨g, 0, none⟩), .int .i64 (a : Int), .int .i64 (b : Int), .int .i64 (c : Int), .int .i64 (d : Int)] w fun e w' => e = .returned (.tuple #[]) ∧ Blk w' g 288 (vw 16 (quarterF f a b c d)) ∧ Only w w' [g] := by
  have la : (a : Int) < 16 := by omega
  have lb : (b : Int) < 16 := by omega
  have lc : (c : Int) < 16 := by omega
  have ld : (d : Int) < 16 := by omega
  have la0 : (0 : Int) ≤ a := by omega
  have lb0 : (0 : Int) ≤ b := by omega
  have lc0 : (0 : Int) ≤ c := by omega
  have ld0 : (0 : Int) ≤ d := by omega
  have HQ : Hid (quarterF f a b c d = rotW (addW (rotW (addW (rotW (addW (rotW (addW f a b) d a 16 16) c d) b c 12 20) a b) d a 8 24) c d) b c 7 25) := rfl
  have HO := Lib.hid (Only.refl w [g])
  have HG := Lib.hid hg
  clear hg
  go_enter Tryz.func211, Tryz.ntmps211
  suffices H : ∀ (w0 : World), Hid (Blk w0 g 288 (vw 16 f)) → Hid (Only w w0 [g]) → Code.wp Tryz.prog _ (bodyPost Tryz.prog Tryz.f211 fun e w' => e = .returned (.tuple #[]) ∧ Blk w' g 288 (vw 16 (quarterF f a b c d)) ∧ Only w w' [g]) _ w0 from H w HG HO
  clear HG HO
  intro w0 HG HO
  go_wp2_with fail
  have c1 := HG.out.word a ha
  have c2 := HG.out.word b hb
  have c3 := HG.out.frozen a
  refine wp_region_plan (fun w' => w'.cell? ⟨g, a, none⟩ = some (.int .u32 (n32 (f a))) ∧ w'.cell? ⟨g, b, none⟩ = some (.int .u32 (n32 (f b)))) 13 [(true, 0), (true, 1), (true, 2), (true, 3), (true, 4), (true, 5), (true, 6), (true, 7), (true, 8), (true, 9), (true, 10), (true, 11), (true, 12)] (by kernel_rfl) (by kernel_rfl) ⟨c1, c2⟩ ?_
  simp only [List.map_cons, List.map_nil, List.getD_cons_zero, List.getD_cons_succ, List.drop_succ_cons, List.drop_zero]
  repeat
    refine plan_take (v := ?_) rfl ?_ ?_
    rotate_left
    · (intro w hSw; (try dsimp only at hSw); go_simp; try with_reducible rfl)
    simp only [Act.put, List.setIfInBounds_toArray, List.set_cons_zero, List.set_cons_succ]
  refine plan_nil ?_
  go_wp2_with fail
  refine NoPanic.normal ?_
  have HG2 : Hid (Blk _ g 288 (vw 16 (addW f a b))) := Lib.hid (HG.out.setw a (f a + f b)).drew
  have HO2 := Lib.hid (HO.out.setCell (p := ⟨g, a, none⟩) (by simp) (.int .u32 (n32 (f a + f b)))).drew
  clear c1 c2 c3 HG HO
  generalize (w0.setCell ⟨g, a, none⟩ (.int .u32 (n32 (f a + f b)))).drew = w1 at *
  generalize hf0 : addW f a b = f0 at *
  have HF0 := Lib.hid hf0
  clear hf0
  have HG := HG2
  have HO := HO2
  clear HG2 HO2
  go_wp2_with fail
  have c1 := HG.out.word d hd
  have c2 := HG.out.word a ha
  have c3 := HG.out.frozen d
  refine wp_region_plan (fun w' => w'.cell? ⟨g, d, none⟩ = some (.int .u32 (n32 (f0 d))) ∧ w'.cell? ⟨g, a, none⟩ = some (.int .u32 (n32 (f0 a)))) 15 [(true, 0), (true, 1), (true, 2), (true, 3), (true, 4), (true, 5), (true, 6), (true, 7), (true, 8), (true, 9), (true, 10), (true, 11), (true, 12), (true, 14), (false, 13)] (by kernel_rfl) (by kernel_rfl) ⟨c1, c2⟩ ?_
  simp only [List.map_cons, List.map_nil, List.getD_cons_zero, List.getD_cons_succ, List.drop_succ_cons, List.drop_zero]
  repeat
    refine plan_take (v := ?_) rfl ?_ ?_
    rotate_left
    · (intro w hSw; (try dsimp only at hSw); go_simp; try with_reducible rfl)
    simp only [Act.put, List.setIfInBounds_toArray, List.set_cons_zero, List.set_cons_succ]
  refine plan_run rfl (fun K hK => ?_)
  go_simp
  refine (rot_16 _ _).mono ?_
  rintro e w1 ⟨rfl, rfl⟩
  refine hK.out _ _ ⟨c1, c2⟩ ?_
  clear hK K
  try simp only [Act.put, List.setIfInBounds_toArray, List.set_cons_zero, List.set_cons_succ]
  refine plan_nil ?_
  go_wp2_with fail
  refine NoPanic.normal ?_
  have HG2 : Hid (Blk _ g 288 (vw 16 (rotW f0 d a 16 16))) := Lib.hid (HG.out.setw d (rotl (f0 d ^^^ f0 a) 16 16)).drew
  have HO2 := Lib.hid (HO.out.setCell (p := ⟨g, d, none⟩) (by simp) (.int .u32 (n32 (rotl (f0 d ^^^ f0 a) 16 16)))).drew
  clear c1 c2 c3 HG HO
  generalize (w1.setCell ⟨g, d, none⟩ (.int .u32 (n32 (rotl (f0 d ^^^ f0 a) 16 16)))).drew = w2 at *
  generalize hf1 : rotW f0 d a 16 16 = f1 at *
  have HF1 := Lib.hid hf1
  clear hf1
  have HG := HG2
  have HO := HO2
  clear HG2 HO2
  go_wp2_with fail
  have c1 := HG.out.word c hc
  have c2 := HG.out.word d hd
  have c3 := HG.out.frozen c
  refine wp_region_plan (fun w' => w'.cell? ⟨g, c, none⟩ = some (.int .u32 (n32 (f1 c))) ∧ w'.cell? ⟨g, d, none⟩ = some (.int .u32 (n32 (f1 d)))) 13 [(true, 0), (true, 1), (true, 2), (true, 3), (true, 4), (true, 5), (true, 6), (true, 7), (true, 8), (true, 9), (true, 10), (true, 11), (true, 12)] (by kernel_rfl) (by kernel_rfl) ⟨c1, c2⟩ ?_
  simp only [List.map_cons, List.map_nil, List.getD_cons_zero, List.getD_cons_succ, List.drop_succ_cons, List.drop_zero]
  repeat
    refine plan_take (v := ?_) rfl ?_ ?_
    rotate_left
    · (intro w hSw; (try dsimp only at hSw); go_simp; try with_reducible rfl)
    simp only [Act.put, List.setIfInBounds_toArray, List.set_cons_zero, List.set_cons_succ]
  refine plan_nil ?_
  go_wp2_with fail
  refine NoPanic.normal ?_
  have HG2 : Hid (Blk _ g 288 (vw 16 (addW f1 c d))) := Lib.hid (HG.out.setw c (f1 c + f1 d)).drew
  have HO2 := Lib.hid (HO.out.setCell (p := ⟨g, c, none⟩) (by simp) (.int .u32 (n32 (f1 c + f1 d)))).drew
  clear c1 c2 c3 HG HO
  generalize (w2.setCell ⟨g, c, none⟩ (.int .u32 (n32 (f1 c + f1 d)))).drew = w3 at *
  generalize hf2 : addW f1 c d = f2 at *
  have HF2 := Lib.hid hf2
  clear hf2
  have HG := HG2
  have HO := HO2
  clear HG2 HO2
  go_wp2_with fail
  have c1 := HG.out.word b hb
  have c2 := HG.out.word c hc
  have c3 := HG.out.frozen b
  refine wp_region_plan (fun w' => w'.cell? ⟨g, b, none⟩ = some (.int .u32 (n32 (f2 b))) ∧ w'.cell? ⟨g, c, none⟩ = some (.int .u32 (n32 (f2 c)))) 15 [(true, 0), (true, 1), (true, 2), (true, 3), (true, 4), (true, 5), (true, 6), (true, 7), (true, 8), (true, 9), (true, 10), (true, 11), (true, 12), (true, 14), (false, 13)] (by kernel_rfl) (by kernel_rfl) ⟨c1, c2⟩ ?_
  simp only [List.map_cons, List.map_nil, List.getD_cons_zero, List.getD_cons_succ, List.drop_succ_cons, List.drop_zero]
  repeat
    refine plan_take (v := ?_) rfl ?_ ?_
    rotate_left
    · (intro w hSw; (try dsimp only at hSw); go_simp; try with_reducible rfl)
    simp only [Act.put, List.setIfInBounds_toArray, List.set_cons_zero, List.set_cons_succ]
  refine plan_run rfl (fun K hK => ?_)
  go_simp
  refine (rot_12 _ _).mono ?_
  rintro e w1 ⟨rfl, rfl⟩
  refine hK.out _ _ ⟨c1, c2⟩ ?_
  clear hK K
  try simp only [Act.put, List.setIfInBounds_toArray, List.set_cons_zero, List.set_cons_succ]
  refine plan_nil ?_
  go_wp2_with fail
  refine NoPanic.normal ?_
  have HG2 : Hid (Blk _ g 288 (vw 16 (rotW f2 b c 12 20))) := Lib.hid (HG.out.setw b (rotl (f2 b ^^^ f2 c) 12 20)).drew
  have HO2 := Lib.hid (HO.out.setCell (p := ⟨g, b, none⟩) (by simp) (.int .u32 (n32 (rotl (f2 b ^^^ f2 c) 12 20)))).drew
  clear c1 c2 c3 HG HO
  generalize (w3.setCell ⟨g, b, none⟩ (.int .u32 (n32 (rotl (f2 b ^^^ f2 c) 12 20)))).drew = w4 at *
  generalize hf3 : rotW f2 b c 12 20 = f3 at *
  have HF3 := Lib.hid hf3
  clear hf3
  have HG := HG2
  have HO := HO2
  clear HG2 HO2
  go_wp2_with fail
  have c1 := HG.out.word a ha
  have c2 := HG.out.word b hb
  have c3 := HG.out.frozen a
  refine wp_region_plan (fun w' => w'.cell? ⟨g, a, none⟩ = some (.int .u32 (n32 (f3 a))) ∧ w'.cell? ⟨g, b, none⟩ = some (.int .u32 (n32 (f3 b)))) 13 [(true, 0), (true, 1), (true, 2), (true, 3), (true, 4), (true, 5), (true, 6), (true, 7), (true, 8), (true, 9), (true, 10), (true, 11), (true, 12)] (by kernel_rfl) (by kernel_rfl) ⟨c1, c2⟩ ?_
  simp only [List.map_cons, List.map_nil, List.getD_cons_zero, List.getD_cons_succ, List.drop_succ_cons, List.drop_zero]
  repeat
    refine plan_take (v := ?_) rfl ?_ ?_
    rotate_left
    · (intro w hSw; (try dsimp only at hSw); go_simp; try with_reducible rfl)
    simp only [Act.put, List.setIfInBounds_toArray, List.set_cons_zero, List.set_cons_succ]
  refine plan_nil ?_
  go_wp2_with fail
  refine NoPanic.normal ?_
  have HG2 : Hid (Blk _ g 288 (vw 16 (addW f3 a b))) := Lib.hid (HG.out.setw a (f3 a + f3 b)).drew
  have HO2 := Lib.hid (HO.out.setCell (p := ⟨g, a, none⟩) (by simp) (.int .u32 (n32 (f3 a + f3 b)))).drew
  clear c1 c2 c3 HG HO
  generalize (w4.setCell ⟨g, a, none⟩ (.int .u32 (n32 (f3 a + f3 b)))).drew = w5 at *
  generalize hf4 : addW f3 a b = f4 at *
  have HF4 := Lib.hid hf4
  clear hf4
  have HG := HG2
  have HO := HO2
  clear HG2 HO2
  go_wp2_with fail
  have c1 := HG.out.word d hd
  have c2 := HG.out.word a ha
  have c3 := HG.out.frozen d
  refine wp_region_plan (fun w' => w'.cell? ⟨g, d, none⟩ = some (.int .u32 (n32 (f4 d))) ∧ w'.cell? ⟨g, a, none⟩ = some (.int .u32 (n32 (f4 a)))) 15 [(true, 0), (true, 1), (true, 2), (true, 3), (true, 4), (true, 5), (true, 6), (true, 7), (true, 8), (true, 9), (true, 10), (true, 11), (true, 12), (true, 14), (false, 13)] (by kernel_rfl) (by kernel_rfl) ⟨c1, c2⟩ ?_
  simp only [List.map_cons, List.map_nil, List.getD_cons_zero, List.getD_cons_succ, List.drop_succ_cons, List.drop_zero]
  repeat
    refine plan_take (v := ?_) rfl ?_ ?_
    rotate_left
    · (intro w hSw; (try dsimp only at hSw); go_simp; try with_reducible rfl)
    simp only [Act.put, List.setIfInBounds_toArray, List.set_cons_zero, List.set_cons_succ]
  refine plan_run rfl (fun K hK => ?_)
  go_simp
  refine (rot_8 _ _).mono ?_
  rintro e w1 ⟨rfl, rfl⟩
  refine hK.out _ _ ⟨c1, c2⟩ ?_
  clear hK K
  try simp only [Act.put, List.setIfInBounds_toArray, List.set_cons_zero, List.set_cons_succ]
  refine plan_nil ?_
  go_wp2_with fail
  refine NoPanic.normal ?_
  have HG2 : Hid (Blk _ g 288 (vw 16 (rotW f4 d a 8 24))) := Lib.hid (HG.out.setw d (rotl (f4 d ^^^ f4 a) 8 24)).drew
  have HO2 := Lib.hid (HO.out.setCell (p := ⟨g, d, none⟩) (by simp) (.int .u32 (n32 (rotl (f4 d ^^^ f4 a) 8 24)))).drew
  clear c1 c2 c3 HG HO
  generalize (w5.setCell ⟨g, d, none⟩ (.int .u32 (n32 (rotl (f4 d ^^^ f4 a) 8 24)))).drew = w6 at *
  generalize hf5 : rotW f4 d a 8 24 = f5 at *
  have HF5 := Lib.hid hf5
  clear hf5
  have HG := HG2
  have HO := HO2
  clear HG2 HO2
  go_wp2_with fail
  have c1 := HG.out.word c hc
  have c2 := HG.out.word d hd
  have c3 := HG.out.frozen c
  refine wp_region_plan (fun w' => w'.cell? ⟨g, c, none⟩ = some (.int .u32 (n32 (f5 c))) ∧ w'.cell? ⟨g, d, none⟩ = some (.int .u32 (n32 (f5 d)))) 13 [(true, 0), (true, 1), (true, 2), (true, 3), (true, 4), (true, 5), (true, 6), (true, 7), (true, 8), (true, 9), (true, 10), (true, 11), (true, 12)] (by kernel_rfl) (by kernel_rfl) ⟨c1, c2⟩ ?_
  simp only [List.map_cons, List.map_nil, List.getD_cons_zero, List.getD_cons_succ, List.drop_succ_cons, List.drop_zero]
  repeat
    refine plan_take (v := ?_) rfl ?_ ?_
    rotate_left
    · (intro w hSw; (try dsimp only at hSw); go_simp; try with_reducible rfl)
    simp only [Act.put, List.setIfInBounds_toArray, List.set_cons_zero, List.set_cons_succ]
  refine plan_nil ?_
  go_wp2_with fail
  refine NoPanic.normal ?_
  have HG2 : Hid (Blk _ g 288 (vw 16 (addW f5 c d))) := Lib.hid (HG.out.setw c (f5 c + f5 d)).drew
  have HO2 := Lib.hid (HO.out.setCell (p := ⟨g, c, none⟩) (by simp) (.int .u32 (n32 (f5 c + f5 d)))).drew
  clear c1 c2 c3 HG HO
  generalize (w6.setCell ⟨g, c, none⟩ (.int .u32 (n32 (f5 c + f5 d)))).drew = w7 at *
  generalize hf6 : addW f5 c d = f6 at *
  have HF6 := Lib.hid hf6
  clear hf6
  have HG := HG2
  have HO := HO2
  clear HG2 HO2
  go_wp2_with fail
  have c1 := HG.out.word b hb
  have c2 := HG.out.word c hc
  have c3 := HG.out.frozen b
  refine wp_region_plan (fun w' => w'.cell? ⟨g, b, none⟩ = some (.int .u32 (n32 (f6 b))) ∧ w'.cell? ⟨g, c, none⟩ = some (.int .u32 (n32 (f6 c)))) 15 [(true, 0), (true, 1), (true, 2), (true, 3), (true, 4), (true, 5), (true, 6), (true, 7), (true, 8), (true, 9), (true, 10), (true, 11), (true, 12), (true, 14), (false, 13)] (by kernel_rfl) (by kernel_rfl) ⟨c1, c2⟩ ?_
  simp only [List.map_cons, List.map_nil, List.getD_cons_zero, List.getD_cons_succ, List.drop_succ_cons, List.drop_zero]
  repeat
    refine plan_take (v := ?_) rfl ?_ ?_
    rotate_left
    · (intro w hSw; (try dsimp only at hSw); go_simp; try with_reducible rfl)
    simp only [Act.put, List.setIfInBounds_toArray, List.set_cons_zero, List.set_cons_succ]
  refine plan_run rfl (fun K hK => ?_)
  go_simp
  refine (rot_7 _ _).mono ?_
  rintro e w1 ⟨rfl, rfl⟩
  refine hK.out _ _ ⟨c1, c2⟩ ?_
  clear hK K
  try simp only [Act.put, List.setIfInBounds_toArray, List.set_cons_zero, List.set_cons_succ]
  refine plan_nil ?_
  go_wp2_with fail
  refine NoPanic.normal ?_
  have HG2 : Hid (Blk _ g 288 (vw 16 (rotW f6 b c 7 25))) := Lib.hid (HG.out.setw b (rotl (f6 b ^^^ f6 c) 7 25)).drew
  have HO2 := Lib.hid (HO.out.setCell (p := ⟨g, b, none⟩) (by simp) (.int .u32 (n32 (rotl (f6 b ^^^ f6 c) 7 25)))).drew
  clear c1 c2 c3 HG HO
  generalize (w7.setCell ⟨g, b, none⟩ (.int .u32 (n32 (rotl (f6 b ^^^ f6 c) 7 25)))).drew = w8 at *
  generalize hf7 : rotW f6 b c 7 25 = f7 at *
  have HF7 := Lib.hid hf7
  clear hf7
  have HG := HG2
  have HO := HO2
  clear HG2 HO2
  go_end0
  refine ⟨rfl, ?_, HO.out⟩
  rw [HQ.out]
  exact HG.out
end Go.Proofs.YtimpjlnbbdfehaaGreatDoor
namespace Go.Proofs.YtimpjlnbbdfehaaGreatDoor
open Go.RowKit Go.Shelf Go.Lib Go.Sort
set_option linter.unusedVariables false
attribute [local go_sem ↓] shr_32_1 shl_32_1 shr_32_2 shl_32_2 shr_32_3 shl_32_3 shr_32_4 shl_32_4 shr_32_5 shl_32_5 shr_32_6 shl_32_6 shr_32_7 shl_32_7 shr_32_8 shl_32_8 shr_32_9 shl_32_9 shr_32_10 shl_32_10 shr_32_11 shl_32_11 shr_32_12 shl_32_12 shr_32_13 shl_32_13 shr_32_14 shl_32_14 shr_32_15 shl_32_15 shr_32_16 shl_32_16 shr_32_17 shl_32_17 shr_32_18 shl_32_18 shr_32_19 shl_32_19 shr_32_20 shl_32_20 shr_32_21 shl_32_21 shr_32_22 shl_32_22 shr_32_23 shl_32_23 shr_32_24 shl_32_24 shr_32_25 shl_32_25 shr_32_26 shl_32_26 shr_32_27 shl_32_27 shr_32_28 shl_32_28 shr_32_29 shl_32_29 shr_32_30 shl_32_30 shr_32_31 shl_32_31 shr_64_3 shl_64_3 shr_64_7 shl_64_7 shr_64_8 shl_64_8 shr_64_16 shl_64_16 shr_64_24 shl_64_24 shr_64_32 shl_64_32 shr_64_40 shl_64_40 shr_64_48 shl_64_48 shr_64_56 shl_64_56
attribute [local go_sem] add_u32 add_u64 and_u8 or_u8 xor_u8 and_u32 or_u32 xor_u32 and_u64 or_u64 xor_u64 conv_32_8 conv_64_8 conv_64_32 conv_8_32 conv_8_64 conv_32_64

theorem gb_from (s : ByteArray) (a k : Nat) : gb (s.extract a s.size) k = gb s (a + k) := by
  unfold gb
  rw [extract_to_end, List.getD_eq_getElem?_getD, List.getD_eq_getElem?_getD, List.getElem?_drop]
theorem le4_from (s : ByteArray) (a k : Nat) : le4 (s.extract a s.size) k = le4 s (a + k) := by
  unfold le4
  simp only [gb_from, Nat.add_assoc]
theorem slice_from (s : ByteArray) (a : Nat) (i : Int) (hi : i = (a : Int)) (h : a ≤ s.size) (w : World) : (Instr.slice 9 (.string s) (some (.int .i64 i)) none none).run Tryz.prog w = .ok (.string (s.extract a s.size)) w := by
  subst hi
  rw [run_slice_string_from_if w 9 s .i64 a Tryz.underlying9, if_pos (by omega)]
  rfl
theorem below_drewN {B : Nat} {w w' : World} (h : Below B w w') (n : Nat) : Below B w (w'.drewN n) := ⟨h.os, h.tape, h.output, h.size, h.block⟩
theorem below_cell {B : Nat} {w w' : World} (hb : Below B w w') {p : Addr} {u : Value} (hp : p.block < B) (h : w.cell? p = some u) : w'.cell? p = some u := (hb.cell hp).trans h
def constF (i : Nat) : UInt32 := [0x61707865, 0x3320646e, 0x79622d32, 0x6b206574].getD i 0
def keyF (key : ByteArray) : Nat → Nat → UInt32
  | 0 => constF
  | j + 1 => upd (keyF key j) (4 + j) (le4 key (4 * j))
def nonF (key : ByteArray) (n : UInt32) (nonce : ByteArray) : Nat → Nat → UInt32
  | 0 => upd (keyF key 8) 12 n
  | j + 1 => upd (nonF key n nonce j) (13 + j) (le4 nonce (4 * j))
/-- The words of a key, a number and a nonce. -/
def beginF (key : ByteArray) (n : UInt32) (nonce : ByteArray) : Nat → UInt32 := nonF key n nonce 3
theorem vw_const : vw 16 constF = #[.int .u32 1634760805, .int .u32 857760878, .int .u32 2036477234, .int .u32 1797285236, .int .u32 0, .int .u32 0, .int .u32 0, .int .u32 0, .int .u32 0, .int .u32 0, .int .u32 0, .int .u32 0, .int .u32 0, .int .u32 0, .int .u32 0, .int .u32 0] := by rfl
theorem blk_new1 (w : World) (ob : Obj) (t : TypeId) (cs : Array Value) : Blk ((w.alloc ob).alloc (.cells cs t)) (w.heap.size + 1) t cs := by
  have h := Blk.new (w.alloc ob) t cs
  rwa [show (w.alloc ob).heap.size = w.heap.size + 1 by simp] at h
theorem results_cell1 {fn : Func} {p : Tmp} {ty : TypeId} (h : fn.results = #[.cell p ty]) (tmps : Array Value) (P : Program) (w : World) :
    (results fn tmps).run P w = ((asAddr (tmps.getD p undef)).run P w).andThen fun a w₁ => (loadVar ty a).run P w₁ := by
  simp only [results, h]
  simp [Sem.run_bind, Result.andThen]
theorem Blk.row {w : World} {g : Nat} {t : TypeId} {old : Array Value} (h : Blk w g t old) (cs : Array Value) : Blk (w.setRow g cs) g t cs := setRow_heap w g old cs t _ h
theorem Blk.farRow {w : World} {g q : Nat} {t : TypeId} {cs : Array Value} (h : Blk w g t cs) (hne : g ≠ q) (ds : Array Value) : Blk (w.setRow q ds) g t cs := (setRow_other w q g ds hne).trans h
theorem below_setRow {B g : Nat} {a w : World} (h : Below B a w) (hg : B ≤ g) (cs : Array Value) : Below B a (w.setRow g cs) :=
  ⟨h.os, h.tape, h.output, by simpa [World.setRow] using h.size, fun k hk => (setRow_other w g k cs (by omega)).trans (h.block k hk)⟩
theorem only_setRow {S : List Nat} {g : Nat} {a w : World} (h : Only a w S) (hg : g ∈ S) (cs : Array Value) : Only a (w.setRow g cs) S :=
  ⟨h.os, h.tape, h.output, by simpa [World.setRow] using h.size, fun k hk hn => (setRow_other w g k cs (fun e => hn (e ▸ hg))).trans (h.block k hk hn)⟩
theorem vw_size (n : Nat) (f : Nat → UInt32) : (vw n f).size = n := by simp [vw]
theorem vw_one (n : Nat) (f : Nat → UInt32) : (vw n f).all (·.oneCell') = true := by simp [vw, Value.oneCell']
theorem info288 : (Tryz.prog.info? 288).map (·.size) = some 16 := by kernel_rfl
/-- The two boxes of begin. -/
structure BB (w : World) (f : Nat → UInt32) (y : World) : Prop where
  b0 : Blk y w.heap.size 288 (vw 16 fun _ => 0)
  b1 : Blk y (w.heap.size + 1) 288 (vw 16 f)
  hb : Below w.heap.size w y
theorem BB.drewN {w : World} {f : Nat → UInt32} {y : World} (h : BB w f y) (n : Nat) : BB w f (y.drewN n) := ⟨h.b0.drewN n, h.b1.drewN n, below_drewN h.hb n⟩
theorem BB.set {w : World} {f : Nat → UInt32} {y : World} (h : BB w f y) (i : Nat) (x : UInt32) : BB w (upd f i x) (y.setCell ⟨w.heap.size + 1, i, none⟩ (.int .u32 (n32 x))) :=
  ⟨h.b0.far (by show w.heap.size ≠ w.heap.size + 1; omega) _, h.b1.setw i x, h.hb.setCell (by show w.heap.size ≤ w.heap.size + 1; omega) _⟩
set_option maxHeartbeats 1000000 in
set_option maxRecDepth 100000 in
theorem begin_ok (key nonce : ByteArray) (n : UInt32) (hk : key.size = 32) (hn : nonce.size = 12) (w : World) :
    Calls Tryz.prog 210 #[.string key, .int .u32 (n32 n), .string nonce] w fun e w' => e = .returned (.agg (vw 16 (beginF key n nonce))) ∧ Below w.heap.size w w' := by
  have HK := Lib.hid hk
  have HN := Lib.hid hn
  clear hk hn
  have e0 : (vw 16 fun _ => 0) = #[.int .u32 0, .int .u32 0, .int .u32 0, .int .u32 0, .int .u32 0, .int .u32 0, .int .u32 0, .int .u32 0, .int .u32 0, .int .u32 0, .int .u32 0, .int .u32 0, .int .u32 0, .int .u32 0, .int .u32 0, .int .u32 0] := by rfl
  have HA0 : Hid (Blk (w.alloc (.cells (vw 16 fun _ => 0) 288)) w.heap.size 288 (vw 16 fun _ => 0)) := Blk.new w 288 _
  have HA1 : Hid (Blk ((w.alloc (.cells (vw 16 fun _ => 0) 288)).alloc (.cells (vw 16 fun _ => 0) 288)) (w.heap.size + 1) 288 (vw 16 fun _ => 0)) := blk_new1 w _ 288 _
  have HB0 : Hid (BB w constF (((w.alloc (.cells (vw 16 fun _ => 0) 288)).alloc (.cells (vw 16 fun _ => 0) 288)).setRow (w.heap.size + 1) (vw 16 constF))) := ⟨(HA0.out.alloc _).farRow (by omega) _, HA1.out.row _, below_setRow (((Below.refl _ _).alloc (Nat.le_refl _) _).alloc (by simp) _) (by omega) _⟩
  have HE := Lib.hid e0
  rw [e0] at HB0 HA1
  clear e0
  go_enter Tryz.func210, Tryz.ntmps210
  go_wp2_with (refine wpList_store_row rfl 288 (.tmp 7) (.tmp 10) (by rfl) (w.heap.size + 1) (vw 16 constF) (by rfl) (by rfl) 288 _ HA1.out info288 (by rfl) (vw_one _ _) ?_)
  generalize ((w.alloc (.cells #[.int .u32 0, .int .u32 0, .int .u32 0, .int .u32 0, .int .u32 0, .int .u32 0, .int .u32 0, .int .u32 0, .int .u32 0, .int .u32 0, .int .u32 0, .int .u32 0, .int .u32 0, .int .u32 0, .int .u32 0, .int .u32 0] 288)).alloc (.cells #[.int .u32 0, .int .u32 0, .int .u32 0, .int .u32 0, .int .u32 0, .int .u32 0, .int .u32 0, .int .u32 0, .int .u32 0, .int .u32 0, .int .u32 0, .int .u32 0, .int .u32 0, .int .u32 0, .int .u32 0, .int .u32 0] 288)).setRow (w.heap.size + 1) (vw 16 constF) = w1 at *
  go_loopg [11] (8 : Nat) (fun q i wr => ∃ (j : Nat), q + j = 8 ∧ i = .int .i64 (j : Int) ∧ BB w (keyF key j) wr)
  case atStart => exact ⟨0, rfl, rfl, HB0.out⟩
  case round =>
    obtain ⟨j, hj, rfl, hb⟩ := hrel
    have HB := Lib.hid hb
    clear hb HB0
    by_cases hlt : j < 8
    · have hlo := fun w => slice_from key (4 * j) (4 * (j : Int)) (by omega) (by rw [HK.out]; omega) w
      have c1 := HB.out.b1.word (4 + j) (by omega)
      have c2 := HB.out.b1.frozen (4 + j)
      have HW := Lib.hid (fun w => word_ok (key.extract (4 * j) key.size) w (by rw [ByteArray.size_extract, HK.out]; omega))
      have HX : Hid (le4 (key.extract (4 * j) key.size) 0 = le4 key (4 * j)) := by show _ = _; rw [le4_from]; rfl
      have HS : Hid (keyF key (j + 1) = upd (keyF key j) (4 + j) (le4 key (4 * j))) := rfl
      rw [HX.out] at HW
      generalize le4 key (4 * j) = x at *
      go_wp2_with (go_at_call 221; refine (HW.out _).mono ?_; rintro e w2 ⟨rfl, nq, rfl⟩)
      go_roundg (gk - 1)
      case measure => omega
      case rel => exact ⟨j + 1, by omega, by go_num, by rw [HS.out]; exact (HB.out.drewN nq).set _ _⟩
    · obtain rfl : j = 8 := by omega
      have c1 := HB.out.b1.word 12 (by omega)
      have c2 := HB.out.b1.frozen 12
      have HB1 : Hid (BB w (nonF key n nonce 0) (wr.setCell ⟨w.heap.size + 1, 12, none⟩ (.int .u32 (n32 n)))) := HB.out.set 12 n
      go_wp2_with fail
      clear c1 c2 HB
      generalize wr.setCell ⟨w.heap.size + 1, 12, none⟩ (.int .u32 (n32 n)) = w2 at *
      go_loopg [25] (3 : Nat) (fun q i wr => ∃ (j : Nat), q + j = 3 ∧ i = .int .i64 (j : Int) ∧ BB w (nonF key n nonce j) wr)
      case atStart => exact ⟨0, rfl, rfl, HB1.out⟩
      case round =>
        obtain ⟨j, hj, rfl, hb⟩ := hrel
        have HB := Lib.hid hb
        clear hb HB1
        by_cases hlt : j < 3
        · have hlo := fun w => slice_from nonce (4 * j) (4 * (j : Int)) (by omega) (by rw [HN.out]; omega) w
          have c1 := HB.out.b1.word (13 + j) (by omega)
          have c2 := HB.out.b1.frozen (13 + j)
          have HW := Lib.hid (fun w => word_ok (nonce.extract (4 * j) nonce.size) w (by rw [ByteArray.size_extract, HN.out]; omega))
          have HX : Hid (le4 (nonce.extract (4 * j) nonce.size) 0 = le4 nonce (4 * j)) := by show _ = _; rw [le4_from]; rfl
          have HS : Hid (nonF key n nonce (j + 1) = upd (nonF key n nonce j) (13 + j) (le4 nonce (4 * j))) := rfl
          rw [HX.out] at HW
          generalize le4 nonce (4 * j) = x at *
          go_wp2_with (go_at_call 221; refine (HW.out _).mono ?_; rintro e w2 ⟨rfl, nq, rfl⟩)
          go_roundg (gk - 1)
          case measure => omega
          case rel => exact ⟨j + 1, by omega, by go_num, by rw [HS.out]; exact (HB.out.drewN nq).set _ _⟩
        · obtain rfl : j = 3 := by omega
          have HB2 : Hid (Blk (wr.setRow w.heap.size (vw 16 (nonF key n nonce 3))) w.heap.size 288 (vw 16 (nonF key n nonce 3))) := HB.out.b0.row _
          go_wp2_with (first
            | (refine wpList_load_row rfl 288 (.tmp 7) (by rfl) (w.heap.size + 1) (by rfl) 288 (vw 16 (nonF key n nonce 3)) (0, 0) _ HB.out.b1 Tryz.underlying288 rfl (by rw [vw_size]; exact info288) ?_)
            | (refine wpList_store_row rfl 288 (.tmp 6) (.tmp 37) (by rfl) w.heap.size (vw 16 (nonF key n nonce 3)) (by rfl) (by rfl) 288 _ HB.out.b0 (by rw [vw_size]; exact info288) (by rw [vw_size, vw_size]) (vw_one _ _) ?_))
          refine bodyPost_ret (results_cell_row (fn := Tryz.f210) rfl _ _ w.heap.size 288 (vw 16 (nonF key n nonce 3)) (0, 0) _ (by rfl) HB2.out Tryz.underlying288 rfl (by rw [vw_size]; exact info288)) rfl ?_
          exact ⟨rfl, below_setRow HB.out.hb (Nat.le_refl _) _⟩

end Go.Proofs.YtimpjlnbbdfehaaGreatDoor
namespace Go.Proofs.YtimpjlnbbdfehaaGreatDoor
open Go.RowKit Go.Shelf Go.Lib Go.Sort
set_option linter.unusedVariables false
attribute [local go_sem ↓] shr_32_1 shl_32_1 shr_32_2 shl_32_2 shr_32_3 shl_32_3 shr_32_4 shl_32_4 shr_32_5 shl_32_5 shr_32_6 shl_32_6 shr_32_7 shl_32_7 shr_32_8 shl_32_8 shr_32_9 shl_32_9 shr_32_10 shl_32_10 shr_32_11 shl_32_11 shr_32_12 shl_32_12 shr_32_13 shl_32_13 shr_32_14 shl_32_14 shr_32_15 shl_32_15 shr_32_16 shl_32_16 shr_32_17 shl_32_17 shr_32_18 shl_32_18 shr_32_19 shl_32_19 shr_32_20 shl_32_20 shr_32_21 shl_32_21 shr_32_22 shl_32_22 shr_32_23 shl_32_23 shr_32_24 shl_32_24 shr_32_25 shl_32_25 shr_32_26 shl_32_26 shr_32_27 shl_32_27 shr_32_28 shl_32_28 shr_32_29 shl_32_29 shr_32_30 shl_32_30 shr_32_31 shl_32_31 shr_64_3 shl_64_3 shr_64_7 shl_64_7 shr_64_8 shl_64_8 shr_64_16 shl_64_16 shr_64_24 shl_64_24 shr_64_32 shl_64_32 shr_64_40 shl_64_40 shr_64_48 shl_64_48 shr_64_56 shl_64_56
attribute [local go_sem] add_u32 add_u64 and_u8 or_u8 xor_u8 and_u32 or_u32 xor_u32 and_u64 or_u64 xor_u64 conv_32_8 conv_64_8 conv_64_32 conv_8_32 conv_8_64 conv_32_64

set_option maxRecDepth 100000 in
theorem may_true (k n : ByteArray) (hk : k.size = 32) (hn : n.size = 12) (w : World) :
    Calls Tryz.prog 150 #[.string k, .string n] w fun e w' => e = .returned (.bool true) ∧ w = w' := by
  have h1 : (k.size : Int) = 32 := by omega
  have h2 : (n.size : Int) = 12 := by omega
  clear hk hn
  go_enter Tryz.func150, Tryz.ntmps150
  go_wp2
  go_ret
  exact ⟨rfl, rfl⟩
def colF (f : Nat → UInt32) : Nat → Nat → UInt32
  | 0 => f
  | k + 1 => quarterF (colF f k) k (4 + k) (8 + k) (12 + k)
def diaF (f : Nat → UInt32) : Nat → Nat → UInt32
  | 0 => f
  | k + 1 => quarterF (diaF f k) k (4 + (k + 1) % 4) (8 + (k + 2) % 4) (12 + (k + 3) % 4)
def dblF (f : Nat → UInt32) : Nat → Nat → UInt32
  | 0 => f
  | k + 1 => diaF (colF (dblF f k) 4) 4
def outB (f0 f : Nat → UInt32) : Nat → List UInt8
  | 0 => []
  | j + 1 => outB f0 f j ++ [b8 (f j + f0 j), b8 ((f j + f0 j) >>> 8), b8 ((f j + f0 j) >>> 16), b8 ((f j + f0 j) >>> 24)]
theorem outB_len (f0 f : Nat → UInt32) : ∀ j, (outB f0 f j).length = 4 * j
  | 0 => rfl
  | j + 1 => by rw [outB, List.length_append, outB_len f0 f j]; rfl
/-- A block of bytes of a key, a nonce and a number. -/
def blockB (key nonce : ByteArray) (n : UInt32) : ByteArray := ⟨(outB (beginF key n nonce) (dblF (beginF key n nonce) 10) 16).toArray⟩
theorem blockB_size (key nonce : ByteArray) (n : UInt32) : (blockB key nonce n).size = 64 := by
  show (outB _ _ 16).toArray.size = 64
  rw [List.size_toArray, outB_len]
theorem ix_vw (n : Nat) (f : Nat → UInt32) (t : TypeId) (ht : Tryz.prog.underlying t = some (.array n 33)) (i : Nat) (hi : i < n) (w : World) : (Instr.index t (.agg (vw n f)) (.int .i64 (i : Int))).run Tryz.prog w = .ok (.int .u32 (n32 (f i))) w := by
  obtain ⟨j, hj, h1⟩ : ∃ j, Tryz.prog.info? 33 = some j ∧ j.size = 1 := by
    have h : (Tryz.prog.info? 33).map (·.size) = some 1 := by kernel_rfl
    cases hq : Tryz.prog.info? 33 with
    | none => rw [hq] at h; cases h
    | some j => exact ⟨j, rfl, by rw [hq] at h; simpa using h⟩
  have hg := vw_get n f i hi
  simp [Instr.index, run_underlying ht, asIntOf, hi, sizeOf, typeInfo, hj, h1, part, hg]
structure CB (w : World) (f0 f : Nat → UInt32) (y : World) : Prop where
  b0 : Blk y w.heap.size 288 (vw 16 f0)
  b1 : Blk y (w.heap.size + 1) 288 (vw 16 f)
  hb : Below w.heap.size w y
theorem CB.only {w : World} {f0 f f' : Nat → UInt32} {y z : World} (h : CB w f0 f y) (hb : Blk z (w.heap.size + 1) 288 (vw 16 f')) (ho : Only y z [w.heap.size + 1]) : CB w f0 f' z :=
  ⟨ho.blk h.b0 (by simp), hb, h.hb.trans (ho.below h.hb.size (by simp))⟩
set_option maxHeartbeats 2000000 in
set_option maxRecDepth 100000 in
theorem block_ok (key nonce : ByteArray) (n : UInt32) (hk : key.size = 32) (hn : nonce.size = 12) (w : World) :
    Calls Tryz.prog 188 #[.string key, .string nonce, .int .u32 (n32 n)] w fun e w' => e = .returned (.string (blockB key nonce n)) ∧ Below w.heap.size w w' := by
  obtain ⟨i5, hi5, hz0, hz1, hz2⟩ := info_parts info5
  have HM := Lib.hid (fun w => may_true key nonce hk hn w)
  have HBG := Lib.hid (fun w => begin_ok key nonce n hk hn w)
  have HBB : Hid (blockB key nonce n = ⟨(outB (beginF key n nonce) (dblF (beginF key n nonce) 10) 16).toArray⟩) := rfl
  clear hk hn
  generalize blockB key nonce n = RES at *
  generalize beginF key n nonce = f0 at *
  have e0 : (vw 16 fun _ => 0) = #[.int .u32 0, .int .u32 0, .int .u32 0, .int .u32 0, .int .u32 0, .int .u32 0, .int .u32 0, .int .u32 0, .int .u32 0, .int .u32 0, .int .u32 0, .int .u32 0, .int .u32 0, .int .u32 0, .int .u32 0, .int .u32 0] := by rfl
  have HA0 : Hid (∀ w1 : World, Blk (w1.alloc (.cells (vw 16 fun _ => 0) 288)) w1.heap.size 288 (vw 16 fun _ => 0)) := fun w1 => Blk.new w1 288 _
  rw [e0] at HA0
  clear e0
  go_enter Tryz.func188, Tryz.ntmps188
  go_wp2_with fail
  refine (HM.out _).mono ?_
  rintro e w1 ⟨rfl, rfl⟩
  go_wp2_with fail
  refine (HBG.out _).mono ?_
  rintro e w1 ⟨rfl, hb⟩
  have HB1 := Lib.hid hb
  clear hb HM HBG
  have HA1 : Hid (Blk (((w1.alloc (.cells #[.int .u32 0, .int .u32 0, .int .u32 0, .int .u32 0, .int .u32 0, .int .u32 0, .int .u32 0, .int .u32 0, .int .u32 0, .int .u32 0, .int .u32 0, .int .u32 0, .int .u32 0, .int .u32 0, .int .u32 0, .int .u32 0] 288)).setRow w1.heap.size (vw 16 f0)).alloc (.cells #[.int .u32 0, .int .u32 0, .int .u32 0, .int .u32 0, .int .u32 0, .int .u32 0, .int .u32 0, .int .u32 0, .int .u32 0, .int .u32 0, .int .u32 0, .int .u32 0, .int .u32 0, .int .u32 0, .int .u32 0, .int .u32 0] 288)) (w1.heap.size + 1) 288 #[.int .u32 0, .int .u32 0, .int .u32 0, .int .u32 0, .int .u32 0, .int .u32 0, .int .u32 0, .int .u32 0, .int .u32 0, .int .u32 0, .int .u32 0, .int .u32 0, .int .u32 0, .int .u32 0, .int .u32 0, .int .u32 0]) := by
    have h := Blk.new ((w1.alloc (.cells #[.int .u32 0, .int .u32 0, .int .u32 0, .int .u32 0, .int .u32 0, .int .u32 0, .int .u32 0, .int .u32 0, .int .u32 0, .int .u32 0, .int .u32 0, .int .u32 0, .int .u32 0, .int .u32 0, .int .u32 0, .int .u32 0] 288)).setRow w1.heap.size (vw 16 f0)) 288 #[.int .u32 0, .int .u32 0, .int .u32 0, .int .u32 0, .int .u32 0, .int .u32 0, .int .u32 0, .int .u32 0, .int .u32 0, .int .u32 0, .int .u32 0, .int .u32 0, .int .u32 0, .int .u32 0, .int .u32 0, .int .u32 0]
    rwa [show ((w1.alloc (.cells #[.int .u32 0, .int .u32 0, .int .u32 0, .int .u32 0, .int .u32 0, .int .u32 0, .int .u32 0, .int .u32 0, .int .u32 0, .int .u32 0, .int .u32 0, .int .u32 0, .int .u32 0, .int .u32 0, .int .u32 0, .int .u32 0] 288)).setRow w1.heap.size (vw 16 f0)).heap.size = w1.heap.size + 1 by simp [World.setRow]] at h
  have HC0 : Hid (CB w1 f0 f0 ((((w1.alloc (.cells #[.int .u32 0, .int .u32 0, .int .u32 0, .int .u32 0, .int .u32 0, .int .u32 0, .int .u32 0, .int .u32 0, .int .u32 0, .int .u32 0, .int .u32 0, .int .u32 0, .int .u32 0, .int .u32 0, .int .u32 0, .int .u32 0] 288)).setRow w1.heap.size (vw 16 f0)).alloc (.cells #[.int .u32 0, .int .u32 0, .int .u32 0, .int .u32 0, .int .u32 0, .int .u32 0, .int .u32 0, .int .u32 0, .int .u32 0, .int .u32 0, .int .u32 0, .int .u32 0, .int .u32 0, .int .u32 0, .int .u32 0, .int .u32 0] 288)).setRow (w1.heap.size + 1) (vw 16 f0))) :=
    ⟨(((HA0.out w1).row _).alloc _).farRow (by omega) _, HA1.out.row _, below_setRow ((below_setRow ((Below.refl _ _).alloc (Nat.le_refl _) _) (Nat.le_refl _) _).alloc (by simp [World.setRow]) _) (by omega) _⟩
  go_wp2_with (first
    | (refine wpList_store_row rfl 288 (.tmp 7) (.tmp 21) (by rfl) w1.heap.size (vw 16 f0) (by rfl) (by rfl) 288 _ (HA0.out w1) (by rw [vw_size]; exact info288) (by rw [vw_size]; rfl) (vw_one _ _) ?_)
    | (refine wpList_load_row rfl 288 (.tmp 7) (by rfl) w1.heap.size (by rfl) 288 (vw 16 f0) (0, 0) _ ((HA0.out w1).row _) Tryz.underlying288 rfl (by rw [vw_size]; exact info288) ?_)
    | (refine wpList_store_row rfl 288 (.tmp 8) (.tmp 22) (by rfl) (w1.heap.size + 1) (vw 16 f0) (by rfl) (by rfl) 288 _ HA1.out (by rw [vw_size]; exact info288) (by rw [vw_size]; rfl) (vw_one _ _) ?_))
  clear HA1 HA0
  generalize (((w1.alloc (.cells #[.int .u32 0, .int .u32 0, .int .u32 0, .int .u32 0, .int .u32 0, .int .u32 0, .int .u32 0, .int .u32 0, .int .u32 0, .int .u32 0, .int .u32 0, .int .u32 0, .int .u32 0, .int .u32 0, .int .u32 0, .int .u32 0] 288)).setRow w1.heap.size (vw 16 f0)).alloc (.cells #[.int .u32 0, .int .u32 0, .int .u32 0, .int .u32 0, .int .u32 0, .int .u32 0, .int .u32 0, .int .u32 0, .int .u32 0, .int .u32 0, .int .u32 0, .int .u32 0, .int .u32 0, .int .u32 0, .int .u32 0, .int .u32 0] 288)).setRow (w1.heap.size + 1) (vw 16 f0) = wa at *
  go_loopg [23] (10 : Nat) (fun q i wr => ∃ (j : Nat), q + j = 10 ∧ i = .int .i64 (j : Int) ∧ CB w1 f0 (dblF f0 j) wr)
  case atStart => exact ⟨0, rfl, rfl, HC0.out⟩
  case round =>
    obtain ⟨j, hj, rfl, hc⟩ := hrel
    have HC := Lib.hid hc
    clear hc HC0
    obtain ⟨wo, rfl⟩ : ∃ wo : World, wo = wr := ⟨_, rfl⟩
    by_cases hlt : j < 10
    · have HD : Hid (dblF f0 (j + 1) = diaF (colF (dblF f0 j) 4) 4) := rfl
      generalize dblF f0 j = fj at *
      have hd : decide ((j : Int) < 10) = true := by simp; omega
      go_upto_block 2 with fail
      go_cut [] (fun wc => CB w1 f0 (colF fj 4) wc)
      case first =>
        go_wp2_with fail
        go_loopg [25] (4 : Nat) (fun q i wr => ∃ (k : Nat), q + k = 4 ∧ i = .int .i64 (k : Int) ∧ CB w1 f0 (colF fj k) wr)
        case atStart => exact ⟨0, rfl, rfl, HC.out⟩
        case round =>
          obtain ⟨k, hk, rfl, hc⟩ := hrel
          have HK := Lib.hid hc
          clear hc HC
          by_cases hlt2 : k < 4
          · have HQ := Lib.hid (quarter_ok (w1.heap.size + 1) (colF fj k) k (4 + k) (8 + k) (12 + k) (by omega) (by omega) (by omega) (by omega) wr HK.out.b1)
            have HS : Hid (colF fj (k + 1) = quarterF (colF fj k) k (4 + k) (8 + k) (12 + k)) := rfl
            simp only [Int.natCast_add] at HQ
            go_wp2_with (go_at_call 211; refine HQ.out.mono ?_; rintro e w2 ⟨rfl, hq, ho⟩; have HQ2 := Lib.hid hq; have HO2 := Lib.hid ho; clear hq ho)
            go_roundg (gk - 1)
            case measure => omega
            case rel => exact ⟨k + 1, by omega, by go_num, by rw [HS.out]; exact HK.out.only HQ2.out HO2.out⟩
          · obtain rfl : k = 4 := by omega
            go_wp2_with fail
            go_meet
            exact HK.out
      case rest =>
        have HC2 := Lib.hid hcut
        generalize colF fj 4 = fc at *
        clear hcut HC
        obtain ⟨gko, rfl⟩ : ∃ g : Nat, g = gk := ⟨_, rfl⟩
        go_wp2_with fail
        go_loopg [37] (4 : Nat) (fun q i wr => ∃ (k : Nat), q + k = 4 ∧ i = .int .i64 (k : Int) ∧ CB w1 f0 (diaF fc k) wr)
        case atStart => exact ⟨0, rfl, rfl, HC2.out⟩
        case round =>
          obtain ⟨k, hk, rfl, hc⟩ := hrel
          have HK := Lib.hid hc
          clear hc HC2
          by_cases hlt2 : k < 4
          · have HQ := Lib.hid (quarter_ok (w1.heap.size + 1) (diaF fc k) k (4 + (k + 1) % 4) (8 + (k + 2) % 4) (12 + (k + 3) % 4) (by omega) (by omega) (by omega) (by omega) wr HK.out.b1)
            have HS : Hid (diaF fc (k + 1) = quarterF (diaF fc k) k (4 + (k + 1) % 4) (8 + (k + 2) % 4) (12 + (k + 3) % 4)) := rfl
            simp only [Int.natCast_add, Int.natCast_emod] at HQ
            go_wp2_with (go_at_call 211; refine HQ.out.mono ?_; rintro e w2 ⟨rfl, hq, ho⟩; have HQ2 := Lib.hid hq; have HO2 := Lib.hid ho; clear hq ho)
            go_roundg (gk - 1)
            case measure => omega
            case rel => exact ⟨k + 1, by omega, by go_num, by rw [HS.out]; exact HK.out.only HQ2.out HO2.out⟩
          · obtain rfl : k = 4 := by omega
            go_wp2_with fail
            go_roundg (gko - 1)
            case measure => omega
            case rel => exact ⟨j + 1, by omega, by go_num, by rw [HD.out]; exact HK.out⟩
    · obtain rfl : j = 10 := by omega
      generalize dblF f0 10 = ff at *
      go_wp2_with (first
        | (refine wpList_load_row rfl 288 (.tmp 8) (by rfl) (w1.heap.size + 1) (by rfl) 288 (vw 16 ff) (0, 0) _ HC.out.b1 Tryz.underlying288 rfl (by rw [vw_size]; exact info288) ?_))
      have hs2 := HC.out.b1.lt
      go_loopg [57, 11] (16 : Nat) (fun q i v wr => ∃ (j : Nat), q + j = 16 ∧ i = .int .i64 (j : Int) ∧ CB w1 f0 ff wr ∧ Mid wr (w1.heap.size + 2) 5 1 v (4 * j) (bv (outB f0 ff j)))
      case atStart => exact ⟨0, rfl, rfl, HC.out, Mid.nil _ _ _ _⟩
      case round =>
        obtain ⟨j, hj, rfl, hc, hm⟩ := hrel
        have HK := Lib.hid hc
        have HM := Lib.hid hm
        have hsz := HK.out.b1.lt
        clear hc hm
        by_cases hlt : j < 16
        · have HIX := fun w => ix_vw 16 ff 288 Tryz.underlying288 j hlt w
          have c1 := HK.out.b0.word j hlt
          have HS : Hid (outB f0 ff (j + 1) = outB f0 ff j ++ [b8 (ff j + f0 j), b8 ((ff j + f0 j) >>> 8), b8 ((ff j + f0 j) >>> 16), b8 ((ff j + f0 j) >>> 24)]) := rfl
          have HCC : Hid (CB w1 f0 ff (wr.alloc (.cells (bv [b8 (ff j + f0 j), b8 ((ff j + f0 j) >>> 8), b8 ((ff j + f0 j) >>> 16), b8 ((ff j + f0 j) >>> 24)]).toArray 5))) := ⟨HK.out.b0.alloc _, HK.out.b1.alloc _, HK.out.hb.alloc HK.out.hb.size _⟩
          have HSZ : Hid (w1.heap.size + 2 ≤ (wr.alloc (.cells (bv [b8 (ff j + f0 j), b8 ((ff j + f0 j) >>> 8), b8 ((ff j + f0 j) >>> 16), b8 ((ff j + f0 j) >>> 24)]).toArray 5)).heap.size) := by show _ ≤ _; simp; omega
          go_wp2_with (at_builtin; go_must (refine wpList_append_mid _ rfl (.tmp 66) (.tmp 78) 57 rfl (w1.heap.size + 2) 5 i5 _ 1 1 Tryz.underlying57 hi5 hz0 hz1 hz2 rfl (by decide) u11 (4 * j) _ (by rfl) (HM.out.alloc _) (some ⟨wr.heap.size, 0, none⟩) 4 4 (bv [b8 (ff j + f0 j), b8 ((ff j + f0 j) >>> 8), b8 ((ff j + f0 j) >>> 16), b8 ((ff j + f0 j) >>> 24)]) (by rfl) rfl (row_cells _ _ _) (bv_one _) (by simp only [maxLen]; omega) (by omega) HSZ.out ?_; intro v1 w2 hm1 hg1 ho1; have HM1 := Lib.hid hm1; have HC1 : Hid (CB w1 f0 ff w2) := ⟨HCC.out.b0.grown hg1 (fun e => by have := (HM.out.block _ e.symm).1; omega), HCC.out.b1.grown hg1 (fun e => by have := (HM.out.block _ e.symm).1; omega), HCC.out.hb.grown hg1 HCC.out.hb.size (fun q hq => by have := (HM.out.block _ hq).1; omega)⟩; clear hm1 hg1 ho1))
          go_roundg (gk - 1)
          case measure => omega
          case rel => exact ⟨j + 1, by omega, by go_num, HC1.out, by rw [HS.out, bv_app]; exact HM1.out⟩
        · obtain rfl : j = 16 := by omega
          have HCV : Hid ((convert 57 9 u11).run Tryz.prog wr = .ok (.string ⟨(outB f0 ff 16).toArray⟩) wr) := conv_mid (by rw [outB_len]; exact HM.out)
          have hcv := HCV.out
          go_wp2_with fail
          go_ret
          exact ⟨by rw [HBB.out]; rfl, HB1.out.trans (HK.out.hb.mono HB1.out.size)⟩

end Go.Proofs.YtimpjlnbbdfehaaGreatDoor
namespace Go.Proofs.YtimpjlnbbdfehaaGreatDoor
open Go.RowKit Go.Shelf Go.Lib Go.Sort
set_option linter.unusedVariables false
attribute [local go_sem ↓] shr_32_1 shl_32_1 shr_32_2 shl_32_2 shr_32_3 shl_32_3 shr_32_4 shl_32_4 shr_32_5 shl_32_5 shr_32_6 shl_32_6 shr_32_7 shl_32_7 shr_32_8 shl_32_8 shr_32_9 shl_32_9 shr_32_10 shl_32_10 shr_32_11 shl_32_11 shr_32_12 shl_32_12 shr_32_13 shl_32_13 shr_32_14 shl_32_14 shr_32_15 shl_32_15 shr_32_16 shl_32_16 shr_32_17 shl_32_17 shr_32_18 shl_32_18 shr_32_19 shl_32_19 shr_32_20 shl_32_20 shr_32_21 shl_32_21 shr_32_22 shl_32_22 shr_32_23 shl_32_23 shr_32_24 shl_32_24 shr_32_25 shl_32_25 shr_32_26 shl_32_26 shr_32_27 shl_32_27 shr_32_28 shl_32_28 shr_32_29 shl_32_29 shr_32_30 shl_32_30 shr_32_31 shl_32_31 shr_64_3 shl_64_3 shr_64_7 shl_64_7 shr_64_8 shl_64_8 shr_64_16 shl_64_16 shr_64_24 shl_64_24 shr_64_32 shl_64_32 shr_64_40 shl_64_40 shr_64_48 shl_64_48 shr_64_56 shl_64_56
attribute [local go_sem] add_u32 add_u64 and_u8 or_u8 xor_u8 and_u32 or_u32 xor_u32 and_u64 or_u64 xor_u64 conv_32_8 conv_64_8 conv_64_32 conv_8_32 conv_8_64 conv_32_64

/-! ### A slice of bytes of the call's own; its block may bear the mark of a conversion -/
def OwnB (w : World) (B : Nat) (v : Value) (l : List UInt8) : Prop :=
  (v = .slice none 0 0 ∧ l = []) ∨
  ∃ g off cap, v = .slice (some ⟨g, off, none⟩) l.length cap ∧ B ≤ g ∧ g < w.heap.size ∧ l.length ≤ cap ∧
    (∀ j u, (bv l)[j]? = some u → w.cell? ⟨g, off + j, none⟩ = some u) ∧ (∀ j, j < cap → (w.cell? ⟨g, off + j, none⟩).isSome = true ∧ w.frozen? ⟨g, off + j, none⟩ = false)
theorem OwnB.below {w w' : World} {B B' : Nat} {v : Value} {l : List UInt8} (h : OwnB w B v l) (hb : Below w.heap.size w w') (hB : B' ≤ B) : OwnB w' B' v l := by
  rcases h with h | ⟨g, off, cap, hv, hg, hl, hc, h1, h2⟩
  · exact .inl h
  · refine .inr ⟨g, off, cap, hv, by omega, Nat.lt_of_lt_of_le hl hb.size, hc, fun j u hj => (hb.cell (p := ⟨g, off + j, none⟩) hl).trans (h1 j u hj), fun j hj => ?_⟩
    obtain ⟨a, b⟩ := h2 j hj
    exact ⟨by rw [hb.cell (p := ⟨g, off + j, none⟩) hl]; exact a, by rw [hb.frozen (p := ⟨g, off + j, none⟩) hl]; exact b⟩
theorem OwnB.form {w : World} {B : Nat} {v : Value} {l : List UInt8} (h : OwnB w B v l) : ∃ A cap, v = .slice A l.length cap := by
  rcases h with ⟨rfl, rfl⟩ | ⟨g, off, cap, hv, _⟩
  · exact ⟨none, 0, rfl⟩
  · exact ⟨_, cap, hv⟩
theorem OwnB.nil (w : World) (B : Nat) : OwnB w B (.slice none 0 0) [] := .inl ⟨rfl, rfl⟩
theorem OwnB.drew {w : World} {B : Nat} {v : Value} {l : List UInt8} (h : OwnB w B v l) : OwnB w.drew B v l := h
theorem OwnB.drewN {w : World} {B : Nat} {v : Value} {l : List UInt8} (h : OwnB w B v l) (n : Nat) : OwnB (w.drewN n) B v l := h
theorem OwnB.of_own {w : World} {B : Nat} {v : Value} {l : List UInt8} (h : w.ownsRow B 5 1 v l.length (bv l)) (hl : l ≠ []) : OwnB w B v l := by
  rcases h.2 with ⟨_, hn⟩ | ⟨g, cap, cur, rfl, hb, hh, hnc, hcm, hcs, ht⟩
  · exact absurd (List.eq_nil_of_length_eq_zero hn) hl
  · have hB : Blk w g 5 cur := hh
    refine .inr ⟨g, 0, cap, rfl, hb, hB.lt, hnc, fun j u hj => ?_, fun j hj => ?_⟩
    · rw [hB.cell, ← Array.getElem?_toList, Nat.zero_add]
      rw [← ht, List.getElem?_take] at hj
      split at hj
      · exact hj
      · cases hj
    · rw [hB.cell, hB.frozen]
      refine ⟨?_, rfl⟩
      rw [Array.getElem?_eq_getElem (by omega)]
      rfl
theorem below_setCells {B g : Nat} (hg : B ≤ g) : ∀ (vs : List Value) (o : Nat) {a w : World}, Below B a w → Below B a (w.setCells g o vs)
  | [], _, _, _, h => h
  | v :: r, o, a, w, h => below_setCells hg r (o + 1) (h.setCell (p := ⟨g, o, none⟩) hg v)
theorem size_setCells {g : Nat} : ∀ (vs : List Value) (o : Nat) (w : World), (w.setCells g o vs).heap.size = w.heap.size
  | [], _, _ => rfl
  | v :: r, o, w => by
    show ((w.setCell ⟨g, o, none⟩ v).setCells g (o + 1) r).heap.size = _
    rw [size_setCells r]; simp [World.setCell]
theorem run_append_ob (w : World) (B ty : Nat) (v : Value) (l : List UInt8) (h : OwnB w B v l) (ad : Addr) (c : Nat) (nl : List UInt8) (hnl : nl ≠ []) (hr : ∀ j u, (bv nl)[j]? = some u → w.cell? (ad.add j) = some u)
    (hb : l.length + nl.length ≤ 140737488355328) (hbase : B ≤ w.heap.size) :
    ∃ v' w', (Builtin.append_ #[57, 57] ty #[v, .slice (some ad) nl.length c]).run Tryz.prog w = .ok v' w' ∧ OwnB w' B v' (l ++ nl) ∧ Below B w w' := by
  obtain ⟨i5, hi5, hz0, hz1, hz2⟩ := info_parts info5
  have hne : l ++ nl ≠ [] := by simp [hnl]
  have h63 : l.length + nl.length ≤ maxLen := by simp only [maxLen]; omega
  rcases h with ⟨rfl, rfl⟩ | ⟨g, off, cap, rfl, hg, hgl, hnc, h1, h2⟩
  · obtain ⟨v', w', hrun, ho, hgr, _⟩ := run_append_own_at (P := Tryz.prog) w B 57 ty 5 i5 _ 1 1 Tryz.underlying57 hi5 hz0 hz1 hz2 rfl (by decide) (.slice none 0 0) 0 [] (World.ownsRow_nil w B 5 1) ad nl.length c (bv nl) (by rw [bv_len, Nat.mul_one]) hr (bv_one nl) (by simpa using h63) (by simpa using hb) hbase
    refine ⟨v', w', hrun, ?_, ?_⟩
    · rw [List.nil_append]
      exact OwnB.of_own (by simpa using ho) hnl
    · exact (Below.refl _ _).grown hgr hbase (fun q hq => by simp [Value.ownBlock] at hq)
  · by_cases hroom : l.length + nl.length ≤ cap
    · have hrun := run_append_room_cells (P := Tryz.prog) w 57 ty 5 i5 Tryz.underlying57 hi5 g off l.length cap ad nl.length c (bv nl) (by rw [bv_len, hz1, Nat.mul_one]) hr (bv_one nl) hroom (fun j hj => by rw [hz1, Nat.mul_one, Nat.add_assoc]; rw [bv_len] at hj; exact (h2 (l.length + j) (by omega)).1) (fun j hj => by rw [hz1, Nat.mul_one, Nat.add_assoc]; rw [bv_len] at hj; exact (h2 (l.length + j) (by omega)).2)
      rw [hz1, Nat.mul_one] at hrun
      refine ⟨_, _, hrun, .inr ⟨g, off, cap, by rw [List.length_append], hg, by rw [size_setCells]; exact hgl, by rw [List.length_append]; exact hroom, fun j u hj => ?_, fun j hj => ?_⟩, below_setCells hg _ _ (Below.refl _ _)⟩
      · rw [bv_app] at hj
        by_cases hjl : j < l.length
        · rw [List.getElem?_append_left (by rw [bv_len]; exact hjl)] at hj
          rw [World.cell?_setCells_out]
          · exact h1 j u hj
          · intro _ _; left; show off + j < off + l.length; omega
        · rw [List.getElem?_append_right (by rw [bv_len]; omega), bv_len] at hj
          have ht : w.there g (off + l.length) (bv nl).length := fun k hk => by
            rw [bv_len] at hk
            rw [Nat.add_assoc]
            exact h2 (l.length + k) (by omega)
          have := World.rangeAt_setCells_same w g (off + l.length) (bv nl) ht (j - l.length) u hj
          rwa [show off + l.length + (j - l.length) = off + j by omega] at this
      · obtain ⟨a, b⟩ := h2 j hj
        have := World.there_setCells (w := w) (b' := g) (o' := off + j) (n := 1) (fun k hk => by
          obtain rfl : k = 0 := by omega
          exact ⟨a, b⟩) g (off + l.length) (bv nl) 0 (by omega)
        exact this
    · obtain ⟨v', w', hrun, ho, hgr⟩ := run_append_arg_grows (P := Tryz.prog) w 57 ty 5 i5 _ 1 1 Tryz.underlying57 hi5 hz0 hz1 hz2 rfl (by decide) ⟨g, off, none⟩ l.length cap (bv l) (by rw [bv_len, Nat.mul_one]) (fun j u hj => by rw [add_at]; exact h1 j u hj) ad nl.length c (bv nl) (by rw [bv_len, Nat.mul_one]) hr (by omega) h63 (by omega)
      rw [← bv_app, ← List.length_append] at ho
      exact ⟨v', w', hrun, (OwnB.of_own ho hne).below (Below.refl _ _) hbase, ((Below.refl _ _).grown hgr (Nat.le_refl _) (fun q hq => by cases hq)).mono hbase⟩
theorem wpList_append_ob {w : World} {ops : Array Oper} {rest : List Oper} {o : Oper} {a : Act} {Q : Exit → Act → World → Prop} (hgd : o.guard = none) (s x : Operand)
    (ho : o.op = .call { callee := .builtin .append, args := #[s, x], argTypes := #[57, 57] }) (B : Nat) (v : Value) (l : List UInt8) (hs : a.eval s = v) (h : OwnB w B v l)
    (ad : Addr) (m c : Nat) (nl : List UInt8) (hx : a.eval x = .slice (some ad) m c) (hm : m = nl.length) (hnl : nl ≠ []) (hr : ∀ j u, (bv nl)[j]? = some u → w.cell? (ad.add j) = some u)
    (hb : l.length + nl.length ≤ 140737488355328) (hbase : B ≤ w.heap.size)
    (hK : ∀ v' w', OwnB w' B v' (l ++ nl) → Below B w w' → wpList Tryz.prog ops Q rest (a.put o.dst v') w') : wpList Tryz.prog ops Q (o :: rest) a w := by
  subst hm
  obtain ⟨v', w', hrun, h2, h3⟩ := run_append_ob w B o.type v l h ad c nl hnl hr hb hbase
  refine wpList_plain hgd fun K hK' => ?_
  unfold Oper.wp execOp
  simp only [ho, resolve, invoke, builtin, Sem.run_bind, Sem.run_pure, Result.andThen_ok, List.map_toArray, List.map_cons, List.map_nil, hs, hx, hrun]
  exact hK' _ _ (hK v' w' h2 h3)
theorem conv_ob {w : World} {B : Nat} {v : Value} {l : List UInt8} (h : OwnB w B v l) : (convert 57 9 v).run Tryz.prog w = .ok (.string ⟨l.toArray⟩) w := by
  rcases h with ⟨rfl, rfl⟩ | ⟨g, off, cap, rfl, _, _, _, h1, _⟩
  · exact run_convert_bytes_nil w 57 5 Tryz.underlying57 Tryz.underlying5 0 0 9 Tryz.underlying9
  · exact conv_cells l (fun j u hj => by rw [add_at]; exact h1 j u hj)
theorem wpList_toBytes {w : World} {ops : Array Oper} {rest : List Oper} {o : Oper} {a : Act} {Q : Exit → Act → World → Prop} (hgd : o.guard = none) (x : Operand)
    (ho : o.op = .convert 9 57 x) (s : ByteArray) (hx : a.eval x = .string s)
    (hK : ∀ cap w', OwnB w' w.heap.size (.slice (some ⟨w.heap.size, 0, none⟩) s.size cap) s.data.toList → Below w.heap.size w w' → w'.heap.size = w.heap.size + 1 → wpList Tryz.prog ops Q rest (a.put o.dst (.slice (some ⟨w.heap.size, 0, none⟩) s.size cap)) w') : wpList Tryz.prog ops Q (o :: rest) a w := by
  refine wpList_plain hgd fun K hK' => ?_
  have hrun := run_bytes_of_string (P := Tryz.prog) w 9 57 5 s Tryz.underlying9 Tryz.underlying57 Tryz.underlying5
  unfold Oper.wp execOp
  simp only [ho, hx, hrun, Sem.run_bind, Result.andThen]
  have hge := grownCap_ge w s.size 0 5
  have hsz : (bytesRow s (grownCap w s.size 0 5)).size = grownCap w s.size 0 5 := by
    unfold bytesRow
    rw [Array.size_append, Array.size_map, Array.size_replicate]
    show s.size + _ = _
    omega
  refine hK' _ _ (hK (grownCap w s.size 0 5) _ (.inr ⟨w.heap.size, 0, grownCap w s.size 0 5, rfl, Nat.le_refl _, by simp, hge, ?_, ?_⟩) ?_ (by simp))
  · intro j u hj
    have hjl : j < s.data.toList.length := by have := (List.getElem?_eq_some_iff.1 hj).1; rwa [bv_len] at this
    have hh : (w.drew.alloc (.cells (bytesRow s (grownCap w s.size 0 5)) 5 ((bytesRow s (grownCap w s.size 0 5)).size, (bytesRow s (grownCap w s.size 0 5)).size + 1))).heap[w.heap.size]? = some (.cells (bytesRow s (grownCap w s.size 0 5)) 5 ((bytesRow s (grownCap w s.size 0 5)).size, (bytesRow s (grownCap w s.size 0 5)).size + 1)) := heap_alloc_new w.drew _
    rw [bv_get _ j hjl] at hj
    rw [← hj, Nat.zero_add]
    unfold World.cell?
    rw [hh]
    have hjs : j < s.data.size := by simpa using hjl
    have hjs2 : j < s.size := hjs
    simp [bytesRow, Array.getElem?_append, hjs2, n8]
  · intro j hj
    have hh : (w.drew.alloc (.cells (bytesRow s (grownCap w s.size 0 5)) 5 ((bytesRow s (grownCap w s.size 0 5)).size, (bytesRow s (grownCap w s.size 0 5)).size + 1))).heap[w.heap.size]? = some (.cells (bytesRow s (grownCap w s.size 0 5)) 5 ((bytesRow s (grownCap w s.size 0 5)).size, (bytesRow s (grownCap w s.size 0 5)).size + 1)) := heap_alloc_new w.drew _
    rw [Nat.zero_add]
    constructor
    · unfold World.cell?
      rw [hh]
      simp only [Option.isSome_none, Bool.false_eq_true, if_false]
      rw [Array.getElem?_eq_getElem (by omega)]
      rfl
    · unfold World.frozen?
      rw [hh]
      simp only [hsz]
      simp
      omega
  · exact (below_drewN ((Below.refl w.heap.size w)) 1).alloc (Nat.le_refl _) _

theorem OwnB.at_ {w : World} {B g o n cap : Nat} {l : List UInt8} (h : OwnB w B (.slice (some ⟨g, o, none⟩) n cap) l) : l.length = n ∧ B ≤ g ∧ g < w.heap.size ∧ n ≤ cap ∧ (∀ j (hj : j < l.length), w.cell? ⟨g, o + j, none⟩ = some (.int .u8 (n8 l[j]))) ∧ (∀ j, j < cap → w.frozen? ⟨g, o + j, none⟩ = false) := by
  rcases h with ⟨hv, _⟩ | ⟨g', o', cap', hv, hg, hl, hc, h1, h2⟩
  · cases hv
  · injection hv with e1 e2 e3
    injection e1 with e1
    injection e1 with e4 e5 _
    subst e4; subst e5; subst e2; subst e3
    exact ⟨rfl, hg, hl, hc, fun j hj => h1 j _ (bv_get l j hj), fun j hj => (h2 j hj).2⟩
theorem OwnB.set {w : World} {B g o n cap : Nat} {l : List UInt8} (h : OwnB w B (.slice (some ⟨g, o, none⟩) n cap) l) (j : Nat) (hj : j < n) (x : UInt8) : OwnB (w.setCell ⟨g, o + j, none⟩ (.int .u8 (n8 x))) B (.slice (some ⟨g, o, none⟩) n cap) (l.set j x) := by
  rcases h with ⟨hv, _⟩ | ⟨g', o', cap', hv, hg, hl, hc, h1, h2⟩
  · cases hv
  · injection hv with e1 e2 e3
    injection e1 with e1
    injection e1 with e4 e5 _
    subst e4; subst e5; subst e2; subst e3
    have hs : ∀ k, (w.setCell ⟨g, o + j, none⟩ (.int .u8 (n8 x))).cell? ⟨g, o + k, none⟩ = if k = j then some (.int .u8 (n8 x)) else w.cell? ⟨g, o + k, none⟩ := by
      intro k
      by_cases e : k = j
      · subst e
        rw [if_pos rfl]
        have := (h2 k (by omega)).1
        simp [go_sem, this]
      · rw [if_neg e]
        simp [go_sem]
    refine .inr ⟨g, o, cap, by rw [List.length_set], hg, by simpa [World.setCell] using hl, by rw [List.length_set]; exact hc, fun k u hk => ?_, fun k hk => ?_⟩
    · rw [hs]
      have hkl : k < l.length := by have := (List.getElem?_eq_some_iff.1 hk).1; rwa [bv_len, List.length_set] at this
      rw [bv_get _ k (by rw [List.length_set]; exact hkl)] at hk
      by_cases e : k = j
      · subst e; rw [if_pos rfl, ← hk]; simp
      · rw [if_neg e, h1 k _ (bv_get l k hkl), ← hk]; simp [Ne.symm e]
    · obtain ⟨a, b⟩ := h2 k hk
      refine ⟨?_, ?_⟩
      · rw [hs]; split
        · rfl
        · exact a
      · simpa [go_sem] using b

end Go.Proofs.YtimpjlnbbdfehaaGreatDoor
namespace Go.Proofs.YtimpjlnbbdfehaaGreatDoor
open Go.RowKit Go.Shelf Go.Lib Go.Sort
set_option linter.unusedVariables false
attribute [local go_sem ↓] shr_32_1 shl_32_1 shr_32_2 shl_32_2 shr_32_3 shl_32_3 shr_32_4 shl_32_4 shr_32_5 shl_32_5 shr_32_6 shl_32_6 shr_32_7 shl_32_7 shr_32_8 shl_32_8 shr_32_9 shl_32_9 shr_32_10 shl_32_10 shr_32_11 shl_32_11 shr_32_12 shl_32_12 shr_32_13 shl_32_13 shr_32_14 shl_32_14 shr_32_15 shl_32_15 shr_32_16 shl_32_16 shr_32_17 shl_32_17 shr_32_18 shl_32_18 shr_32_19 shl_32_19 shr_32_20 shl_32_20 shr_32_21 shl_32_21 shr_32_22 shl_32_22 shr_32_23 shl_32_23 shr_32_24 shl_32_24 shr_32_25 shl_32_25 shr_32_26 shl_32_26 shr_32_27 shl_32_27 shr_32_28 shl_32_28 shr_32_29 shl_32_29 shr_32_30 shl_32_30 shr_32_31 shl_32_31 shr_64_3 shl_64_3 shr_64_7 shl_64_7 shr_64_8 shl_64_8 shr_64_16 shl_64_16 shr_64_24 shl_64_24 shr_64_32 shl_64_32 shr_64_40 shl_64_40 shr_64_48 shl_64_48 shr_64_56 shl_64_56
attribute [local go_sem] add_u32 add_u64 and_u8 or_u8 xor_u8 and_u32 or_u32 xor_u32 and_u64 or_u64 xor_u64 conv_32_8 conv_64_8 conv_64_32 conv_8_32 conv_8_64 conv_32_64

/-- Bytes, each changed by one of a key's and a nonce's. -/
def padAt (key nonce : ByteArray) (i : Nat) : UInt8 := gb (blockB key nonce (UInt32.ofNat (i / 64))) (i % 64)
def turnL (key nonce : ByteArray) (l : List UInt8) : List UInt8 := l.zipIdx.map fun x => x.1 ^^^ padAt key nonce x.2
def turnB (key nonce s : ByteArray) : ByteArray := ⟨(turnL key nonce s.data.toList).toArray⟩
theorem turnL_len (key nonce : ByteArray) (l : List UInt8) : (turnL key nonce l).length = l.length := by simp [turnL]
theorem turnL_get (key nonce : ByteArray) (l : List UInt8) (i : Nat) (h : i < l.length) : (turnL key nonce l)[i]? = some (l[i] ^^^ padAt key nonce i) := by
  simp [turnL, h]
theorem turn_twice (key nonce : ByteArray) (l : List UInt8) : turnL key nonce (turnL key nonce l) = l := by
  apply List.ext_getElem?
  intro i
  by_cases h : i < l.length
  · have h2 : i < (turnL key nonce l).length := by rw [turnL_len]; exact h
    rw [turnL_get _ _ _ i h2]
    have e := turnL_get key nonce l i h
    rw [List.getElem?_eq_getElem h2] at e
    injection e with e
    rw [e, List.getElem?_eq_getElem h, UInt8.xor_assoc, UInt8.xor_self, UInt8.xor_zero]
  · rw [List.getElem?_eq_none (by rw [turnL_len, turnL_len]; omega), List.getElem?_eq_none (by omega)]
theorem turnB_twice (key nonce s : ByteArray) : turnB key nonce (turnB key nonce s) = s := by
  apply ByteArray.ext
  unfold turnB
  simp [turn_twice]
/-- What stands in the bytes when j of them are turned. -/
def turnT (key nonce : ByteArray) (l : List UInt8) (j : Nat) : List UInt8 := (turnL key nonce l).take j ++ l.drop j
theorem turnT_len (key nonce : ByteArray) (l : List UInt8) (j : Nat) (h : j ≤ l.length) : (turnT key nonce l j).length = l.length := by
  unfold turnT
  rw [List.length_append, List.length_take, List.length_drop, turnL_len]; omega
theorem turnT_get (key nonce : ByteArray) (l : List UInt8) (j : Nat) (h : j < l.length) (h' : j < (turnT key nonce l j).length) : (turnT key nonce l j)[j] = l[j] := by
  have e : (turnT key nonce l j)[j]? = some l[j] := by
    unfold turnT
    have hl : ((turnL key nonce l).take j).length = j := by rw [List.length_take, turnL_len]; omega
    rw [List.getElem?_append_right (by omega), hl, Nat.sub_self, List.getElem?_drop]
    simp [h]
  rw [List.getElem?_eq_getElem h'] at e
  exact Option.some.inj e
theorem turnT_set (key nonce : ByteArray) (l : List UInt8) (j : Nat) (h : j < l.length) : (turnT key nonce l j).set j (l[j] ^^^ padAt key nonce j) = turnT key nonce l (j + 1) := by
  apply List.ext_getElem?
  intro k
  have hl : ((turnL key nonce l).take j).length = j := by rw [List.length_take, turnL_len]; omega
  have hl1 : ((turnL key nonce l).take (j + 1)).length = j + 1 := by rw [List.length_take, turnL_len]; omega
  by_cases e : j = k
  · subst e
    rw [List.getElem?_set, if_pos rfl, if_pos (by rw [turnT_len _ _ _ _ (by omega)]; exact h)]
    unfold turnT
    rw [List.getElem?_append_left (by omega), List.getElem?_take, if_pos (by omega), turnL_get _ _ _ _ h]
  · rw [List.getElem?_set, if_neg e]
    unfold turnT
    by_cases hk : k < j
    · rw [List.getElem?_append_left (by omega), List.getElem?_append_left (by omega), List.getElem?_take, List.getElem?_take, if_pos hk, if_pos (by omega)]
    · rw [List.getElem?_append_right (by omega), List.getElem?_append_right (by omega), hl, hl1, List.getElem?_drop, List.getElem?_drop]
      congr 1
      omega
set_option maxHeartbeats 2000000 in
set_option maxRecDepth 100000 in
theorem turn_ok (key nonce s : ByteArray) (hk : key.size = 32) (hn : nonce.size = 12) (hs : s.size ≤ 100000) (w : World) :
    Calls Tryz.prog 151 #[.string key, .string nonce, .string s] w fun e w' => e = .returned (.string (turnB key nonce s)) ∧ Below w.heap.size w w' := by
  have HM := Lib.hid (fun w => may_true key nonce hk hn w)
  have HBK := Lib.hid (fun n w => block_ok key nonce n hk hn w)
  have HR : Hid (turnB key nonce s = ⟨(turnL key nonce s.data.toList).toArray⟩) := rfl
  obtain ⟨L, hL⟩ : ∃ L, L = s.data.toList := ⟨_, rfl⟩
  have hLl : L.length = s.size := by rw [hL]; simp
  have HLL := Lib.hid hLl
  clear hk hn hLl
  rw [← hL] at HR
  go_enter Tryz.func151, Tryz.ntmps151
  go_wp2_with fail
  refine (HM.out _).mono ?_
  rintro e w1 ⟨rfl, rfl⟩
  go_wp2_with (refine wpList_toBytes rfl (.tmp 14) (by rfl) s (by rfl) ?_; intro cap w2 ho hb hz; have HO := Lib.hid ho; have HB := Lib.hid hb; clear ho hb hz)
  rw [← hL] at HO
  clear hL
  go_loopg [18, 8] s.size (fun q i v wr => ∃ (j : Nat), q + j = s.size ∧ i = .int .i64 (j : Int) ∧ (j % 64 ≠ 0 → v = .string (blockB key nonce (UInt32.ofNat (j / 64)))) ∧ OwnB wr w.heap.size (.slice (some ⟨w.heap.size, 0, none⟩) s.size cap) (turnT key nonce L j) ∧ Below w.heap.size w wr)
  case atStart => exact ⟨0, rfl, rfl, fun h => absurd rfl h, by simpa [turnT] using HO.out, HB.out⟩
  case round =>
    obtain ⟨j, hj, rfl, hv, ho, hb⟩ := hrel
    have HO1 := Lib.hid ho
    have HB1 := Lib.hid hb
    have HV := Lib.hid hv
    clear ho hb hv HO HB
    by_cases hlt : j < s.size
    · have hd : decide ((j : Int) < (s.size : Int)) = true := by simp; omega
      go_upto_if 23 with fail
      go_cut [8] (fun v wc => v = .string (blockB key nonce (UInt32.ofNat (j / 64))) ∧ OwnB wc w.heap.size (.slice (some ⟨w.heap.size, 0, none⟩) s.size cap) (turnT key nonce L j) ∧ Below w.heap.size w wc)
      case first =>
        by_cases h0 : j % 64 = 0
        · have hn : (((j : Int) % 64) == 0) = true := by simp; omega
          have hw : IntKind.u32.wrap ((j : Int) / 64) = n32 (UInt32.ofNat (j / 64)) := by
            have e : (UInt32.ofNat (j / 64)).toNat = j / 64 := UInt32.toNat_ofNat_of_lt' (by simp [UInt32.size]; omega)
            rw [wrap_u32]; unfold n32
            rw [e]
            omega
          go_wp2_with (go_at_call 188; refine (HBK.out _ _).mono ?_; rintro e w3 ⟨rfl, hb⟩; have HB3 := Lib.hid hb; clear hb)
          go_meet
          exact ⟨rfl, HO1.out.below HB3.out (Nat.le_refl _), HB1.out.trans (HB3.out.mono HB1.out.size)⟩
        · have hn : (((j : Int) % 64) == 0) = false := by simp; omega
          have hv := HV.out h0
          subst hv
          go_wp2_with fail
          go_meet
          exact ⟨rfl, HO1.out, HB1.out⟩
      case rest =>
        obtain ⟨rfl, ho, hb⟩ := hcut
        have hjl : j < L.length := by rw [HLL.out]; exact hlt
        obtain ⟨_, hg1, hg2, hcap, hcell, hfr⟩ := ho.at_
        have hjt : j < (turnT key nonce L j).length := by rw [turnT_len _ _ _ _ (by omega)]; exact hjl
        have c1 := hcell j hjt
        have c2 := hfr j (by omega)
        rw [turnT_get _ _ _ _ hjl, Nat.zero_add] at c1
        rw [Nat.zero_add] at c2
        have HS : Hid (∀ W : World, OwnB W w.heap.size (.slice (some ⟨w.heap.size, 0, none⟩) s.size cap) (turnT key nonce L j) → OwnB (W.setCell ⟨w.heap.size, j, none⟩ (.int .u8 (n8 (L[j] ^^^ padAt key nonce j)))) w.heap.size (.slice (some ⟨w.heap.size, 0, none⟩) s.size cap) (turnT key nonce L (j + 1))) := fun W hW => by
          rw [← turnT_set key nonce L j hjl]
          have := hW.set j hlt (L[j] ^^^ padAt key nonce j)
          rwa [Nat.zero_add] at this
        have HIX := Lib.hid (fun w => ix_str (blockB key nonce (UInt32.ofNat (j / 64))) (j % 64) ((j : Int).tmod 64) (by rw [Int.tmod_eq_emod_of_nonneg (by omega)]; omega) (by rw [blockB_size]; omega) w)
        have HP : Hid (padAt key nonce j = gb (blockB key nonce (UInt32.ofNat (j / 64))) (j % 64)) := rfl
        rw [HP.out] at HS
        have HO2 := Lib.hid ho
        have HB2 := Lib.hid hb
        have hcp : (s.size : Int) ≤ cap := by omega
        have hj0 : (0 : Int) ≤ (j : Int) := by omega
        have hj1 : (j : Int) < (s.size : Int) := by omega
        have hj2 : (j : Int) < cap := by omega
        clear ho hb hcell hfr hjt HO1 HB1 HV
        generalize L[j] = x at *
        have hix := HIX.out
        have hsz := blockB_size key nonce (UInt32.ofNat (j / 64))
        have HBL : Hid (∀ k, k % 64 ≠ 0 → k = j + 1 → blockB key nonce (UInt32.ofNat (j / 64)) = blockB key nonce (UInt32.ofNat (k / 64))) := fun k hk e => by subst e; rw [show (j + 1) / 64 = j / 64 by omega]
        generalize blockB key nonce (UInt32.ofNat (j / 64)) = P at *
        clear HIX HP
        go_wp2_with fail
        refine wp_region_plan (fun w' => w'.cell? ⟨w.heap.size, j, none⟩ = some (.int .u8 (n8 x))) 9 [(true, 0), (true, 1), (true, 2), (true, 3), (true, 4), (true, 5), (true, 6), (true, 7), (true, 8)] (by kernel_rfl) (by kernel_rfl) c1 ?_
        simp only [List.map_cons, List.map_nil, List.getD_cons_zero, List.getD_cons_succ, List.drop_succ_cons, List.drop_zero]
        (refine plan_take (v := ?_) rfl ?_ ?_; rotate_left; (intro wS hSw; (try dsimp only at hSw); go_simp; try with_reducible rfl); simp only [Act.put, List.setIfInBounds_toArray, List.set_cons_zero, List.set_cons_succ])
        (refine plan_take (v := ?_) rfl ?_ ?_; rotate_left; (intro wS hSw; (try dsimp only at hSw); go_simp; try with_reducible rfl); simp only [Act.put, List.setIfInBounds_toArray, List.set_cons_zero, List.set_cons_succ])
        (refine plan_take (v := ?_) rfl ?_ ?_; rotate_left; (intro wS hSw; (try dsimp only at hSw); go_simp; try with_reducible rfl); simp only [Act.put, List.setIfInBounds_toArray, List.set_cons_zero, List.set_cons_succ])
        (refine plan_take (v := ?_) rfl ?_ ?_; rotate_left; (intro wS hSw; (try dsimp only at hSw); go_simp; try with_reducible rfl); simp only [Act.put, List.setIfInBounds_toArray, List.set_cons_zero, List.set_cons_succ])
        (refine plan_take (v := ?_) rfl ?_ ?_; rotate_left; (intro wS hSw; (try dsimp only at hSw); go_simp; try with_reducible rfl); simp only [Act.put, List.setIfInBounds_toArray, List.set_cons_zero, List.set_cons_succ])
        (refine plan_take (v := ?_) rfl ?_ ?_; rotate_left; (intro wS hSw; (try dsimp only at hSw); go_simp; try with_reducible rfl); simp only [Act.put, List.setIfInBounds_toArray, List.set_cons_zero, List.set_cons_succ])
        (refine plan_take (v := ?_) rfl ?_ ?_; rotate_left; (intro wS hSw; (try dsimp only at hSw); go_simp; try with_reducible rfl); simp only [Act.put, List.setIfInBounds_toArray, List.set_cons_zero, List.set_cons_succ])
        (refine plan_take (v := ?_) rfl ?_ ?_; rotate_left; (intro wS hSw; (try dsimp only at hSw); go_simp; try with_reducible rfl); simp only [Act.put, List.setIfInBounds_toArray, List.set_cons_zero, List.set_cons_succ])
        (refine plan_take (v := ?_) rfl ?_ ?_; rotate_left; (intro wS hSw; (try dsimp only at hSw); go_simp; try with_reducible rfl); simp only [Act.put, List.setIfInBounds_toArray, List.set_cons_zero, List.set_cons_succ])
        refine plan_nil ?_
        go_wp2_with fail
        refine NoPanic.normal ?_
        go_wp2_with fail
        go_roundg (gk - 1)
        case measure => omega
        case rel => exact ⟨j + 1, by omega, by go_num, fun hk => by rw [HBL.out (j + 1) hk rfl], (HS.out _ HO2.out).drew, below_drewN (HB2.out.setCell (p := ⟨w.heap.size, j, none⟩) (Nat.le_refl _) _) 1⟩
    · obtain rfl : j = s.size := by omega
      have hcv : (convert 57 9 (.slice (some ⟨w.heap.size, 0, none⟩) s.size cap)).run Tryz.prog wr = .ok (.string ⟨(turnL key nonce L).toArray⟩) wr := by
        have := conv_ob HO1.out
        have e : turnT key nonce L s.size = turnL key nonce L := by
          unfold turnT
          rw [List.take_of_length_le (by rw [turnL_len, HLL.out]; exact Nat.le_refl _), List.drop_of_length_le (by rw [HLL.out]; exact Nat.le_refl _), List.append_nil]
        rwa [e] at this
      go_wp2_with fail
      go_ret
      exact ⟨by rw [HR.out]; rfl, HB1.out⟩

end Go.Proofs.YtimpjlnbbdfehaaGreatDoor
