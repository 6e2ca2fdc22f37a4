import Derived.Test.YtahhbgfibelfaaaDoorQN
namespace Go.Proofs.YtahhbgfibelfaaaDoor
open Go.RowKit Go.Lib
set_option linter.unusedVariables false

attribute [local go_sem] wfld0 wfld1 wfld2 wfld3
theorem EdWs.app {k : Nat} {l r : List Wd} (h : EdWs k l r) (E : List Wd) : EdWs k (l ++ E) (r ++ E) := by
  induction h with
  | nil => exact .nil _
  | cons n1 n2 n3 n4 n5 n6 _ ih => exact .cons n1 n2 n3 n4 n5 n6 ih
theorem AdWs.app {k : Nat} {l r : List Wd} (h : AdWs k l r) (E : List Wd) : AdWs k (l ++ E) (r ++ E) := by
  induction h with
  | nil => exact .nil _
  | cons n0 n1 n2 n3 n4 n5 _ ih => exact .cons n0 n1 n2 n3 n4 n5 ih
theorem CdWs.app {k : Nat} {l r : List Wd} (h : CdWs k l r) (E : List Wd) : CdWs k (l ++ E) (r ++ E) := by
  cases h with
  | nil => exact .nil _
  | cons n0 n1 n2 n3 n4 n5 h => exact .cons n0 n1 n2 n3 n4 n5 (h.app E)
theorem ItWs.app {k : Nat} {l r : List Wd} (h : ItWs k l r) (E : List Wd) : ItWs k (l ++ E) (r ++ E) := by
  induction h with
  | nil => exact .nil _
  | cons n1 n2 n3 n4 _ ih => exact .cons n1 n2 n3 n4 ih
def mkS (l : List UInt8) : ByteArray := ⟨l.toArray⟩
theorem mkS_size (l : List UInt8) : (mkS l).size = l.length := rfl
theorem mkS_app (l m : List UInt8) : mkS l ++ mkS m = mkS (l ++ m) := by
  apply ByteArray.ext
  rw [ByteArray.data_append]
  simp [mkS]
theorem mkS_rem (l : List UInt8) : rem (mkS l) 0 = l := by unfold rem mkS; simp
theorem rep_len (k : Nat) (P : List UInt8) : (rep k P).length = k * P.length := by
  induction k with
  | zero => simp [rep]
  | succ k ih => rw [rep_succ, List.length_append, ih, Nat.add_mul]; omega
theorem txt_len_most (a b c : Nat) (d : Option UInt8) (ha : a ≤ 7) (hb : b ≤ 15) (hc : c ≤ 15) : (txtM a b c d).length ≤ 400 := by
  have h1 : (rep a pEdge).length = a * 7 := rep_len _ _
  have h2 := cnd_len b
  have h3 : (rep c pItem).length = c * 4 := rep_len _ _
  have h4 : (lexEnd d).length ≤ 10 := by cases d <;> simp [lexEnd, pLim]
  unfold txtM
  simp only [List.length_append, h1, h2, h3]
  have h5 : pFind.length = 8 := rfl
  have h6 : pTell.length = 7 := rfl
  split <;> omega
/-- What is answered to such a text: by how much there is, and by its end. -/
theorem code_most (a b c : Nat) (d : Option UInt8) (hd : ∀ x, d = some x → x = 54 ∨ x = 55) (ha : a ≤ 7) (hb : b ≤ 15) (hc : c ≤ 15) (r : (Int × Int) ⊕ Qu) (h : ParseR (mkS (txtM a b c d)) r) :
    (d = some 55 → codeOf r = 330) ∧ (d ≠ some 55 → codeOf r = if (decide (a ≤ 6) && (decide (b ≤ 8) && decide (c + 1 ≤ 8))) then 0 else 330) := by
  obtain ⟨l1, l2, l3, l4, l5, n1, n2, n3, n4, m1, m2, hlex, e1, e2, rfl, e4, e5⟩ := lex_all a b c d hd
  have hz : (mkS (txtM a b c d)).size ≤ 400 := txt_len_most a b c d ha hb hc
  generalize hs : mkS (txtM a b c d) = s at *
  have hw := hlex.wds (s := s) (s.size + 1) [] (by rw [← hs, mkS_rem]) (Nat.zero_le _) (by omega)
  rw [List.nil_append] at hw
  have hq := quest_most a b c (l1 ++ [endW s]) (l2 ++ [endW s]) (l4 ++ [endW s]) (l5 ++ [endW s]) n1 n2 n3 n4 m1 m2 (e1.app _) (by have := e2.app [endW s]; exact this) (e4.app _) (by simp)
    (by cases d with
        | none => rw [show l5 = [] from e5]; kernel_rfl
        | some x => obtain ⟨q1, q2, _, rfl⟩ := e5; kernel_rfl)
    (by cases d with
        | none => rw [show l5 = [] from e5]; kernel_rfl
        | some x => obtain ⟨q1, q2, _, rfl⟩ := e5; kernel_rfl)
  have hr : r = finW s (questW ⟨⟨1, kFind, 0, n1⟩ :: ⟨4, mOpen, 0, n2⟩ :: ⟨1, aB, 0, n3⟩ :: ⟨4, mClose, 0, n4⟩ :: (l1 ++ [endW s]), -1⟩) :=
    ParseR.uniq h (.inr ⟨by omega, .inr ⟨_, hw, rfl⟩⟩)
  rw [hq] at hr
  have hgood : ∀ p : Ps, p.b < 0 → codeOf (finW s (p, quM a b c 256)) = if (decide (a ≤ 6) && (decide (b ≤ 8) && decide (c + 1 ≤ 8))) then 0 else 330 := fun p hp => by
    unfold finW
    rw [if_pos hp, may_most]
    split <;> rfl
  cases d with
  | none =>
    rw [show l5 = [] from e5, List.nil_append] at hr
    refine ⟨(fun e => by cases e), fun _ => ?_⟩
    have h1 : (⟨[endW s], -1⟩ : Ps).lim.fin = ⟨[endW s], -1⟩ := by kernel_rfl
    have h2 : (⟨[endW s], -1⟩ : Ps).limV = 256 := by kernel_rfl
    rw [h1, h2] at hr
    rw [hr]
    exact hgood _ (by show (-1 : Int) < 0; omega)
  | some x =>
    obtain ⟨q1, q2, hq2, rfl⟩ := e5
    rcases hd x rfl with rfl | rfl
    · refine ⟨(fun e => by cases e), fun _ => ?_⟩
      have h1 : (⟨[⟨1, kLimit, 0, q1⟩, ⟨2, ⟨#[]⟩, 250 + ((((54 : UInt8).toNat : Nat) : Int) - 48), q2⟩] ++ [endW s], -1⟩ : Ps).lim.fin = ⟨[endW s], -1⟩ := by kernel_rfl
      have h2 : (⟨[⟨1, kLimit, 0, q1⟩, ⟨2, ⟨#[]⟩, 250 + ((((54 : UInt8).toNat : Nat) : Int) - 48), q2⟩] ++ [endW s], -1⟩ : Ps).limV = 256 := by kernel_rfl
      rw [h1, h2] at hr
      rw [hr]
      exact hgood _ (by show (-1 : Int) < 0; omega)
    · refine ⟨fun _ => ?_, fun e => absurd rfl e⟩
      have h1 : (⟨[⟨1, kLimit, 0, q1⟩, ⟨2, ⟨#[]⟩, 250 + ((((55 : UInt8).toNat : Nat) : Int) - 48), q2⟩] ++ [endW s], -1⟩ : Ps).lim.fin = ⟨[endW s], q2⟩ := by kernel_rfl
      rw [h1] at hr
      rw [hr]
      unfold finW
      rw [if_neg (by show ¬ q2 < 0; omega)]
      rfl
theorem cnd_snoc : ∀ k, cnd (k + 2) = cnd (k + 1) ++ (pAnd ++ pCond) := fun k => by
  show pWhere ++ (pCond ++ rep (k + 1) (pAnd ++ pCond)) = pWhere ++ (pCond ++ rep k (pAnd ++ pCond)) ++ (pAnd ++ pCond)
  rw [rep_snoc]
  simp only [List.append_assoc]

end Go.Proofs.YtahhbgfibelfaaaDoor
