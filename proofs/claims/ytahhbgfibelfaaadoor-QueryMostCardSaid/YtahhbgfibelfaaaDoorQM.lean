import Derived.Test.YtahhbgfibelfaaaDoorQL
namespace Go.Proofs.YtahhbgfibelfaaaDoor
open Go.RowKit Go.Lib
set_option linter.unusedVariables false

attribute [local go_sem] wfld0 wfld1 wfld2 wfld3
/-! ### What such words say -/
def eE : Ed := ⟨⟨#[]⟩, ⟨#[]⟩, true⟩
def nE : Nd := ⟨⟨#[]⟩, ⟨#[]⟩, []⟩
def nA : Nd := ⟨aB, ⟨#[]⟩, []⟩
def cA : Co := ⟨aB, kB, 2, ⟨2, 1, ⟨#[]⟩⟩⟩
def iA : It := ⟨aB, ⟨#[]⟩⟩
def iK : It := ⟨aB, kB⟩
theorem edge_step (n1 n2 n3 n4 n5 n6 : Int) (y : Wd) (t : List Wd) : ∀ p : Ps, p = ⟨⟨4, mMinus, 0, n1⟩ :: ⟨4, mSq, 0, n2⟩ :: ⟨4, mUnsq, 0, n3⟩ :: ⟨4, mOn, 0, n4⟩ :: ⟨4, mOpen, 0, n5⟩ :: ⟨4, mClose, 0, n6⟩ :: y :: t, -1⟩ →
    p.is 4 mMinus = true ∧ p.edge.node = ⟨y :: t, -1⟩ ∧ p.edgeV = eE ∧ p.edge.nodeV = nE := by
  intro p hp; subst hp
  exact ⟨by kernel_rfl, by kernel_rfl, by kernel_rfl, by kernel_rfl⟩
theorem edges_go : ∀ (k f : Nat) (l r : List Wd) (es : List Ed) (ns : List Nd), EdWs k l r → r ≠ [] → edgesW (f + k) ⟨l, -1⟩ es ns = edgesW f ⟨r, -1⟩ (es ++ List.replicate k eE) (ns ++ List.replicate k nE)
  | 0, f, l, r, es, ns, h, hr => by cases h; simp
  | k + 1, f, l, r, es, ns, h, hr => by
    cases h with
    | cons n1 n2 n3 n4 n5 n6 h =>
      rename_i l'
      have hl : l' ≠ [] := by
        cases h with
        | nil => exact hr
        | cons => simp
      obtain ⟨y, t, rfl⟩ := List.exists_cons_of_ne_nil hl
      obtain ⟨h1, h2, h3, h4⟩ := edge_step n1 n2 n3 n4 n5 n6 y t _ rfl
      rw [show f + (k + 1) = (f + k) + 1 by omega, edgesW_go _ _ _ _ (.inl h1), h2, h3, h4, edges_go k f _ r _ _ h hr, List.append_assoc, List.append_assoc]
      rfl
theorem cond_step (n1 n2 n3 n4 n5 : Int) (y : Wd) (t : List Wd) : ∀ p : Ps, p = ⟨cdW n1 n2 n3 n4 n5 (y :: t), -1⟩ → p.cond = ⟨y :: t, -1⟩ ∧ p.condV = cA := by
  intro p hp; subst hp
  exact ⟨by kernel_rfl, by kernel_rfl⟩
theorem ands_go : ∀ (k f : Nat) (l r : List Wd) (acc : List Co) (n1 n2 n3 n4 n5 : Int), AdWs k l r → r ≠ [] → (⟨r, -1⟩ : Ps).is 1 kAnd = false → condsW (f + k + 1) ⟨cdW n1 n2 n3 n4 n5 l, -1⟩ acc = (⟨r, -1⟩, acc ++ List.replicate (k + 1) cA)
  | 0, f, l, r, acc, n1, n2, n3, n4, n5, h, hr, hs => by
    cases h
    obtain ⟨y, t, rfl⟩ := List.exists_cons_of_ne_nil hr
    obtain ⟨h1, h2⟩ := cond_step n1 n2 n3 n4 n5 y t _ rfl
    rw [show f + 0 + 1 = f + 1 by omega, condsW, h1, h2, hs]
    rfl
  | k + 1, f, l, r, acc, n1, n2, n3, n4, n5, h, hr, hs => by
    cases h with
    | cons a0 a1 a2 a3 a4 a5 h =>
      rename_i l'
      obtain ⟨h1, h2⟩ := cond_step n1 n2 n3 n4 n5 (⟨1, kAnd, 0, a0⟩) (cdW a1 a2 a3 a4 a5 l') _ rfl
      have h3 : (⟨⟨1, kAnd, 0, a0⟩ :: cdW a1 a2 a3 a4 a5 l', -1⟩ : Ps).is 1 kAnd = true := by kernel_rfl
      have h4 : (⟨⟨1, kAnd, 0, a0⟩ :: cdW a1 a2 a3 a4 a5 l', -1⟩ : Ps).nx = ⟨cdW a1 a2 a3 a4 a5 l', -1⟩ := by kernel_rfl
      rw [show f + (k + 1) + 1 = (f + k + 1) + 1 by omega, condsW, h1, h2, h3, if_pos rfl, h4, ands_go k f l' r _ a1 a2 a3 a4 a5 h hr hs, List.append_assoc]
      rfl
theorem item_step (n1 n2 n3 n4 : Int) (y : Wd) (t : List Wd) : ∀ p : Ps, p = ⟨⟨4, mComma, 0, n1⟩ :: ⟨1, aB, 0, n2⟩ :: ⟨4, mDot, 0, n3⟩ :: ⟨1, kB, 0, n4⟩ :: y :: t, -1⟩ → p.is 4 mComma = true ∧ p.nx.item = ⟨y :: t, -1⟩ ∧ p.nx.itemV = iK := by
  intro p hp; subst hp
  exact ⟨by kernel_rfl, by kernel_rfl, by kernel_rfl⟩
theorem items_go : ∀ (k f : Nat) (q : Ps) (l r : List Wd) (acc : List It) (x : It), ItWs k l r → r ≠ [] → (⟨r, -1⟩ : Ps).is 4 mComma = false → q.item = ⟨l, -1⟩ → q.itemV = x → itemsW (f + k + 1) q acc = (⟨r, -1⟩, acc ++ x :: List.replicate k iK)
  | 0, f, q, l, r, acc, x, h, hr, hs, hq, hx => by
    cases h
    rw [show f + 0 + 1 = f + 1 by omega, itemsW, hq, hx, hs]
    rfl
  | k + 1, f, q, l, r, acc, x, h, hr, hs, hq, hx => by
    cases h with
    | cons a1 a2 a3 a4 h =>
      rename_i l'
      have hl : l' ≠ [] := by
        cases h with
        | nil => exact hr
        | cons => simp
      obtain ⟨y, t, rfl⟩ := List.exists_cons_of_ne_nil hl
      obtain ⟨h1, h2, h3⟩ := item_step a1 a2 a3 a4 y t _ rfl
      rw [show f + (k + 1) + 1 = (f + k + 1) + 1 by omega, itemsW, hq, hx, h1, if_pos rfl, items_go k f _ (y :: t) r _ iK h hr hs h2 h3, List.append_assoc]
      rfl
def quM (a b c : Nat) (m : Int) : Qu := ⟨nA :: List.replicate a nE, List.replicate a eE, List.replicate b cA, iA :: List.replicate c iK, m⟩
theorem first_step (n1 n2 n3 n4 : Int) (y : Wd) (t : List Wd) : ∀ p : Ps, p = ⟨⟨1, kFind, 0, n1⟩ :: ⟨4, mOpen, 0, n2⟩ :: ⟨1, aB, 0, n3⟩ :: ⟨4, mClose, 0, n4⟩ :: y :: t, -1⟩ → (p.must 1 kFind).node = ⟨y :: t, -1⟩ ∧ (p.must 1 kFind).nodeV = nA := by
  intro p hp; subst hp
  exact ⟨by kernel_rfl, by kernel_rfl⟩
theorem ed_len {k : Nat} {l r : List Wd} (h : EdWs k l r) : k ≤ l.length := by
  induction h with
  | nil => omega
  | cons _ _ _ _ _ _ _ ih => simp only [List.length_cons]; omega
theorem ad_len {k : Nat} {l r : List Wd} (h : AdWs k l r) : k ≤ l.length := by
  induction h with
  | nil => omega
  | cons _ _ _ _ _ _ _ ih => simp only [cdW, List.length_cons]; omega
theorem it_len {k : Nat} {l r : List Wd} (h : ItWs k l r) : k ≤ l.length := by
  induction h with
  | nil => omega
  | cons _ _ _ _ _ ih => simp only [List.length_cons]; omega
/-- What the words of such a text say, up to what stands at their end. -/
theorem quest_most (a b c : Nat) (l1 l2 l4 l5 : List Wd) (n1 n2 n3 n4 m1 m2 : Int) (h1 : EdWs a l1 l2) (h2 : CdWs b l2 (⟨1, kTell, 0, m1⟩ :: ⟨1, aB, 0, m2⟩ :: l4)) (h4 : ItWs c l4 l5) (h5 : l5 ≠ [])
    (hc : (⟨l5, -1⟩ : Ps).is 4 mComma = false) (hd : (⟨l5, -1⟩ : Ps).is 4 mDot = false) :
    questW ⟨⟨1, kFind, 0, n1⟩ :: ⟨4, mOpen, 0, n2⟩ :: ⟨1, aB, 0, n3⟩ :: ⟨4, mClose, 0, n4⟩ :: l1, -1⟩ = ((⟨l5, -1⟩ : Ps).lim.fin, quM a b c (⟨l5, -1⟩ : Ps).limV) := by
  have e2 : l2 ≠ [] := by cases h2 <;> simp
  have e1 : l1 ≠ [] := by
    cases h1 with
    | nil => exact e2
    | cons => simp
  obtain ⟨y, t, rfl⟩ := List.exists_cons_of_ne_nil e1
  obtain ⟨f1, f2⟩ := first_step n1 n2 n3 n4 y t _ rfl
  have hE : edgesW (y :: t).length ⟨y :: t, -1⟩ [] [nA] = (⟨l2, -1⟩, List.replicate a eE, nA :: List.replicate a nE) := by
    have hl := ed_len h1
    have := edges_go a ((y :: t).length - a) (y :: t) l2 [] [nA] h1 e2
    rw [show (y :: t).length - a + a = (y :: t).length by omega] at this
    rw [this, edgesW_stop]
    · rfl
    · cases h2 <;> kernel_rfl
    · cases h2 <;> kernel_rfl
  have hW : (⟨l2, -1⟩ : Ps).whereP = (⟨⟨1, kTell, 0, m1⟩ :: ⟨1, aB, 0, m2⟩ :: l4, -1⟩, List.replicate b cA) := by
    cases h2 with
    | nil => rw [Ps.whereP, if_neg (by rw [show (⟨⟨1, kTell, 0, m1⟩ :: ⟨1, aB, 0, m2⟩ :: l4, -1⟩ : Ps).is 1 kWhere = false by kernel_rfl]; decide)]; rfl
    | cons a0 a1 a2 a3 a4 a5 h =>
      rename_i k l'
      have h3 : (⟨⟨1, kWhere, 0, a0⟩ :: cdW a1 a2 a3 a4 a5 l', -1⟩ : Ps).is 1 kWhere = true := by kernel_rfl
      have h4 : (⟨⟨1, kWhere, 0, a0⟩ :: cdW a1 a2 a3 a4 a5 l', -1⟩ : Ps).nx = ⟨cdW a1 a2 a3 a4 a5 l', -1⟩ := by kernel_rfl
      have hl := ad_len h
      rw [Ps.whereP, if_pos h3, h4]
      have := ands_go k ((⟨1, kWhere, 0, a0⟩ :: cdW a1 a2 a3 a4 a5 l' : List Wd).length - k - 1) l' _ [] a1 a2 a3 a4 a5 h (by simp) (by kernel_rfl)
      rw [show (⟨1, kWhere, 0, a0⟩ :: cdW a1 a2 a3 a4 a5 l' : List Wd).length - k - 1 + k + 1 = (⟨1, kWhere, 0, a0⟩ :: cdW a1 a2 a3 a4 a5 l' : List Wd).length by simp only [cdW, List.length_cons]; omega] at this
      rw [this]
      rfl
  have hT : (⟨⟨1, kTell, 0, m1⟩ :: ⟨1, aB, 0, m2⟩ :: l4, -1⟩ : Ps).tellP = (⟨l5, -1⟩, iA :: List.replicate c iK) := by
    have h3 : (⟨⟨1, kTell, 0, m1⟩ :: ⟨1, aB, 0, m2⟩ :: l4, -1⟩ : Ps).is 1 kTell = true := by kernel_rfl
    have h6 : (⟨⟨1, kTell, 0, m1⟩ :: ⟨1, aB, 0, m2⟩ :: l4, -1⟩ : Ps).nx = ⟨⟨1, aB, 0, m2⟩ :: l4, -1⟩ := by kernel_rfl
    have e4 : l4 ≠ [] := by
      cases h4 with
      | nil => exact h5
      | cons => simp
    have hdot : (⟨l4, -1⟩ : Ps).is 4 mDot = false := by
      cases h4 with
      | nil => exact hd
      | cons => kernel_rfl
    obtain ⟨y4, t4, rfl⟩ := List.exists_cons_of_ne_nil e4
    have hn : (⟨⟨1, aB, 0, m2⟩ :: y4 :: t4, -1⟩ : Ps).name true = ⟨y4 :: t4, -1⟩ := by kernel_rfl
    have hs : (⟨⟨1, aB, 0, m2⟩ :: y4 :: t4, -1⟩ : Ps).nameS = aB := by kernel_rfl
    have hi : (⟨⟨1, aB, 0, m2⟩ :: y4 :: t4, -1⟩ : Ps).item = ⟨y4 :: t4, -1⟩ := by rw [Ps.item, hn, (opt_neg hdot).1]
    have hv : (⟨⟨1, aB, 0, m2⟩ :: y4 :: t4, -1⟩ : Ps).itemV = iA := by rw [Ps.itemV, hn, hs, (opt_neg hdot).2.1]; rfl
    have hl := it_len h4
    rw [Ps.tellP, if_pos h3, h6]
    have := items_go c ((⟨1, kTell, 0, m1⟩ :: ⟨1, aB, 0, m2⟩ :: y4 :: t4 : List Wd).length - c - 1) _ (y4 :: t4) l5 [] iA h4 h5 hc hi hv
    rw [show (⟨1, kTell, 0, m1⟩ :: ⟨1, aB, 0, m2⟩ :: y4 :: t4 : List Wd).length - c - 1 + c + 1 = (⟨1, kTell, 0, m1⟩ :: ⟨1, aB, 0, m2⟩ :: y4 :: t4 : List Wd).length by simp only [List.length_cons] at hl ⊢; omega] at this
    rw [this]
    rfl
  unfold questW
  simp only [f1, f2]
  rw [hE]
  simp only [hW, hT]
  rfl
theorem names_most (a b c : Nat) (m : Int) : (quM a b c m).names = [[97]] := by
  have h0 : ∀ (k : Nat) (l : List (List UInt8)), fullL (List.replicate k [] ++ l) = fullL l := fun k l => by
    induction k with
    | zero => rfl
    | succ k ih => rw [List.replicate_succ, List.cons_append]; unfold fullL at *; rw [List.filter_cons_of_neg (by simp)]; exact ih
  unfold Qu.names quM
  simp only [List.map_cons, List.map_append, List.map_replicate, List.cons_append]
  show fullL ([97] :: (List.replicate a [] ++ List.replicate a [])) = _
  unfold fullL
  rw [List.filter_cons_of_pos (by simp)]
  have h1 := h0 a (List.replicate a [])
  have h2 := h0 a []
  rw [List.append_nil] at h2
  unfold fullL at h1 h2
  rw [h1, h2]
  rfl
theorem may_most (a b c : Nat) : (quM a b c 256).may = (decide (a ≤ 6) && (decide (b ≤ 8) && decide (c + 1 ≤ 8))) := by
  unfold Qu.may
  rw [names_most]
  have hw : (quM a b c 256).ws.all (fun x => decide (x.v.data.toList ∈ [[97]])) = true := by
    rw [List.all_eq_true]; intro x hx
    have := List.eq_of_mem_replicate (show x ∈ List.replicate b cA from hx)
    subst this; decide
  have ht : (quM a b c 256).ts.all (fun x => decide (x.v.data.toList ∈ [[97]])) = true := by
    rw [List.all_eq_true]; intro x hx
    rcases List.mem_cons.1 (show x ∈ iA :: List.replicate c iK from hx) with rfl | hx
    · decide
    · have := List.eq_of_mem_replicate hx
      subst this; decide
  rw [hw, ht]
  show (decide ((nA :: List.replicate a nE).length = (List.replicate a eE).length + 1) && (decide ((List.replicate a eE).length ≤ 6) && (decide ((List.replicate b cA).length ≤ 8) && (decide (1 ≤ (iA :: List.replicate c iK).length) && (decide ((iA :: List.replicate c iK).length ≤ 8) && (decide ((0 : Int) ≤ 256) && (decide ((256 : Int) ≤ 256) && (decide ([[97]] : List (List UInt8)).Nodup && (true && true))))))))) = _
  simp only [List.length_cons, List.length_replicate]
  simp

end Go.Proofs.YtahhbgfibelfaaaDoor
