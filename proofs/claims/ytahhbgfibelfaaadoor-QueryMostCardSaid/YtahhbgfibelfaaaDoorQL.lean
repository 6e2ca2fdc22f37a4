import Derived.Test.YtahhbgfibelfaaaDoorQK
namespace Go.Proofs.YtahhbgfibelfaaaDoor
open Go.RowKit Go.Lib
set_option linter.unusedVariables false

attribute [local go_sem] wfld0 wfld1 wfld2 wfld3
/-! ### The texts of QueryMost, and what they say -/
def rep (k : Nat) (P : List UInt8) : List UInt8 := (List.replicate k P).flatten
theorem rep_succ (k : Nat) (P : List UInt8) : rep (k + 1) P = P ++ rep k P := by unfold rep; rw [List.replicate_succ, List.flatten_cons]
theorem rep_snoc (k : Nat) (P : List UInt8) : rep (k + 1) P = rep k P ++ P := by unfold rep; rw [List.replicate_succ', List.flatten_append]; simp
def pFind : List UInt8 := [102, 105, 110, 100, 32, 40, 97, 41]
def pEdge : List UInt8 := [45, 91, 93, 45, 62, 40, 41]
def pWhere : List UInt8 := [32, 119, 104, 101, 114, 101]
def pAnd : List UInt8 := [32, 97, 110, 100]
def pCond : List UInt8 := [32, 97, 46, 107, 32, 61, 32, 49]
def pTell : List UInt8 := [32, 116, 101, 108, 108, 32, 97]
def pItem : List UInt8 := [44, 97, 46, 107]
def pLim (d : UInt8) : List UInt8 := [32, 108, 105, 109, 105, 116, 32, 50, 53, d]
def cnd : Nat → List UInt8
  | 0 => []
  | k + 1 => pWhere ++ (pCond ++ rep k (pAnd ++ pCond))
def aB : ByteArray := ⟨#[97]⟩
def kB : ByteArray := ⟨#[107]⟩
/-- Words of edges, of conditions, of items. -/
inductive EdWs : Nat → List Wd → List Wd → Prop where
  | nil (r : List Wd) : EdWs 0 r r
  | cons {k : Nat} {l r : List Wd} (n1 n2 n3 n4 n5 n6 : Int) : EdWs k l r → EdWs (k + 1) (⟨4, mMinus, 0, n1⟩ :: ⟨4, mSq, 0, n2⟩ :: ⟨4, mUnsq, 0, n3⟩ :: ⟨4, mOn, 0, n4⟩ :: ⟨4, mOpen, 0, n5⟩ :: ⟨4, mClose, 0, n6⟩ :: l) r
def cdW (n1 n2 n3 n4 n5 : Int) (l : List Wd) : List Wd := ⟨1, aB, 0, n1⟩ :: ⟨4, mDot, 0, n2⟩ :: ⟨1, kB, 0, n3⟩ :: ⟨4, ⟨#[61]⟩, 0, n4⟩ :: ⟨2, ⟨#[]⟩, 1, n5⟩ :: l
inductive AdWs : Nat → List Wd → List Wd → Prop where
  | nil (r : List Wd) : AdWs 0 r r
  | cons {k : Nat} {l r : List Wd} (n0 n1 n2 n3 n4 n5 : Int) : AdWs k l r → AdWs (k + 1) (⟨1, kAnd, 0, n0⟩ :: cdW n1 n2 n3 n4 n5 l) r
inductive ItWs : Nat → List Wd → List Wd → Prop where
  | nil (r : List Wd) : ItWs 0 r r
  | cons {k : Nat} {l r : List Wd} (n1 n2 n3 n4 : Int) : ItWs k l r → ItWs (k + 1) (⟨4, mComma, 0, n1⟩ :: ⟨1, aB, 0, n2⟩ :: ⟨4, mDot, 0, n3⟩ :: ⟨1, kB, 0, n4⟩ :: l) r
def Stop (R : List UInt8) : Prop := R.takeWhile isN = []
theorem lex_edges : ∀ (k n : Nat) (R : List UInt8) (ws : List Wd), Lex (n + k * 7) R ws → ∃ l, Lex n (rep k pEdge ++ R) l ∧ EdWs k l ws
  | 0, n, R, ws, h => ⟨ws, by simpa [rep] using h, .nil ws⟩
  | k + 1, n, R, ws, h => by
    obtain ⟨l, hl, he⟩ := lex_edges k (n + 7) R ws (by rw [show n + 7 + k * 7 = n + (k + 1) * 7 by omega]; exact h)
    refine ⟨_, ?_, .cons (n : Int) ((n + 1 : Nat) : Int) ((n + 2 : Nat) : Int) ((n + 3 : Nat) : Int) ((n + 5 : Nat) : Int) ((n + 6 : Nat) : Int) he⟩
    rw [rep_succ, List.append_assoc]
    refine Lex.word (m := 1) (by decide) (by rfl) ?_
    refine Lex.word (m := 1) (by decide) (by rfl) ?_
    refine Lex.word (m := 1) (by decide) (by rfl) ?_
    refine Lex.word (m := 2) (by decide) (by rfl) ?_
    refine Lex.word (m := 1) (by decide) (by rfl) ?_
    refine Lex.word (m := 1) (by decide) (one_mk1 _ _ (by decide) (fun b => by simp [mk2]) (by decide) (by decide) (by decide)) ?_
    exact hl
theorem lex_cond {n : Nat} {R : List UInt8} {ws : List Wd} (hR : Stop R) (h : Lex (n + 8) R ws) : Lex n (pCond ++ R) (cdW ((n + 1 : Nat) : Int) ((n + 2 : Nat) : Int) ((n + 3 : Nat) : Int) ((n + 5 : Nat) : Int) ((n + 7 : Nat) : Int) ws) := by
  refine Lex.blank (by decide) ?_
  refine Lex.word (m := 1) (by decide) (by rfl) ?_
  refine Lex.word (m := 1) (by decide) (by rfl) ?_
  refine Lex.word (m := 1) (by decide) (by rfl) ?_
  refine Lex.blank (by decide) ?_
  refine Lex.word (m := 1) (by decide) (by rfl) ?_
  refine Lex.blank (by decide) ?_
  refine Lex.word (m := 1) (by decide) (one_num (c := 49) _ 1 [] R (by decide) (by decide) rfl hR (by rfl)) ?_
  exact h
theorem lex_ands : ∀ (k n : Nat) (R : List UInt8) (ws : List Wd), Stop R → Lex (n + k * 12) R ws → ∃ l, Lex n (rep k (pAnd ++ pCond) ++ R) l ∧ AdWs k l ws
  | 0, n, R, ws, hR, h => ⟨ws, by simpa [rep] using h, .nil ws⟩
  | k + 1, n, R, ws, hR, h => by
    obtain ⟨l, hl, he⟩ := lex_ands k (n + 12) R ws hR (by rw [show n + 12 + k * 12 = n + (k + 1) * 12 by omega]; exact h)
    have hS : Stop (rep k (pAnd ++ pCond) ++ R) := by
      cases k with
      | zero => simpa [rep] using hR
      | succ k => rw [rep_succ]; rfl
    have hc := lex_cond (n := n + 4) hS (by rw [show n + 4 + 8 = n + 12 by omega]; exact hl)
    refine ⟨_, ?_, .cons ((n + 1 : Nat) : Int) ((n + 4 + 1 : Nat) : Int) ((n + 4 + 2 : Nat) : Int) ((n + 4 + 3 : Nat) : Int) ((n + 4 + 5 : Nat) : Int) ((n + 4 + 7 : Nat) : Int) he⟩
    rw [rep_succ, List.append_assoc, List.append_assoc]
    refine Lex.blank (by decide) ?_
    refine Lex.word (m := 3) (by decide) (by rfl) ?_
    exact hc
theorem lex_items : ∀ (k n : Nat) (R : List UInt8) (ws : List Wd), Stop R → Lex (n + k * 4) R ws → ∃ l, Lex n (rep k pItem ++ R) l ∧ ItWs k l ws
  | 0, n, R, ws, hR, h => ⟨ws, by simpa [rep] using h, .nil ws⟩
  | k + 1, n, R, ws, hR, h => by
    obtain ⟨l, hl, he⟩ := lex_items k (n + 4) R ws hR (by rw [show n + 4 + k * 4 = n + (k + 1) * 4 by omega]; exact h)
    have hS : Stop (rep k pItem ++ R) := by
      cases k with
      | zero => simpa [rep] using hR
      | succ k => rw [rep_succ]; rfl
    refine ⟨_, ?_, .cons (n : Int) ((n + 1 : Nat) : Int) ((n + 2 : Nat) : Int) ((n + 3 : Nat) : Int) he⟩
    rw [rep_succ, List.append_assoc]
    refine Lex.word (m := 1) (by decide) (by rfl) ?_
    refine Lex.word (m := 1) (by decide) (by rfl) ?_
    refine Lex.word (m := 1) (by decide) (by rfl) ?_
    refine Lex.word (m := 1) (by decide) (one_name (c := 107) _ [] _ (by decide) rfl hS) ?_
    exact hl
/-- All of a text's words. -/
inductive CdWs : Nat → List Wd → List Wd → Prop where
  | nil (r : List Wd) : CdWs 0 r r
  | cons {k : Nat} {l r : List Wd} (n0 n1 n2 n3 n4 n5 : Int) : AdWs k l r → CdWs (k + 1) (⟨1, kWhere, 0, n0⟩ :: cdW n1 n2 n3 n4 n5 l) r
theorem cnd_len : ∀ k, (cnd k).length = if k = 0 then 0 else k * 12 + 2
  | 0 => rfl
  | k + 1 => by
    have h : ∀ j, (rep j (pAnd ++ pCond)).length = j * 12 := fun j => by
      induction j with
      | zero => rfl
      | succ j ih => rw [rep_succ, List.length_append, ih]; simp [pAnd, pCond]; omega
    rw [if_neg (by omega), cnd, List.length_append, List.length_append, h]
    simp [pWhere, pCond]; omega
theorem lex_cnd (k n : Nat) (R : List UInt8) (ws : List Wd) (hR : Stop R) (h : Lex (n + (cnd k).length) R ws) : ∃ l, Lex n (cnd k ++ R) l ∧ CdWs k l ws := by
  cases k with
  | zero => exact ⟨ws, by simpa [cnd] using h, .nil ws⟩
  | succ k =>
    rw [cnd_len, if_neg (by omega)] at h
    obtain ⟨l, hl, he⟩ := lex_ands k (n + 14) R ws hR (by rw [show n + 14 + k * 12 = n + ((k + 1) * 12 + 2) by omega]; exact h)
    have hS : Stop (rep k (pAnd ++ pCond) ++ R) := by
      cases k with
      | zero => simpa [rep] using hR
      | succ k => rw [rep_succ]; rfl
    have hc := lex_cond (n := n + 6) hS (by rw [show n + 6 + 8 = n + 14 by omega]; exact hl)
    refine ⟨_, ?_, .cons ((n + 1 : Nat) : Int) ((n + 6 + 1 : Nat) : Int) ((n + 6 + 2 : Nat) : Int) ((n + 6 + 3 : Nat) : Int) ((n + 6 + 5 : Nat) : Int) ((n + 6 + 7 : Nat) : Int) he⟩
    rw [cnd, List.append_assoc, List.append_assoc]
    refine Lex.blank (by decide) ?_
    refine Lex.word (m := 5) (by decide) (by rfl) ?_
    exact hc
def lexEnd (d : Option UInt8) : List UInt8 := match d with | none => [] | some d => pLim d
def txtM (a b c : Nat) (d : Option UInt8) : List UInt8 := pFind ++ (rep a pEdge ++ (cnd b ++ (pTell ++ (rep c pItem ++ lexEnd d))))
def EnWs (d : Option UInt8) (l : List Wd) : Prop := match d with
  | none => l = []
  | some d => ∃ n1 n2 : Int, 0 ≤ n2 ∧ l = [⟨1, kLimit, 0, n1⟩, ⟨2, ⟨#[]⟩, 250 + ((d.toNat : Int) - 48), n2⟩]
theorem lex_end (d : Option UInt8) (hd : ∀ x, d = some x → x = 54 ∨ x = 55) (n : Nat) : ∃ l, Lex n (lexEnd d) l ∧ EnWs d l := by
  cases d with
  | none => exact ⟨[], .nil n, rfl⟩
  | some x =>
    rcases hd x rfl with rfl | rfl
    · refine ⟨_, ?_, ((n + 1 : Nat) : Int), ((n + 7 : Nat) : Int), by omega, rfl⟩
      refine Lex.blank (by decide) ?_
      refine Lex.word (m := 5) (by decide) (by rfl) ?_
      refine Lex.blank (by decide) ?_
      refine Lex.word (m := 3) (by decide) (by rfl) ?_
      exact .nil _
    · refine ⟨_, ?_, ((n + 1 : Nat) : Int), ((n + 7 : Nat) : Int), by omega, rfl⟩
      refine Lex.blank (by decide) ?_
      refine Lex.word (m := 5) (by decide) (by rfl) ?_
      refine Lex.blank (by decide) ?_
      refine Lex.word (m := 3) (by decide) (by rfl) ?_
      exact .nil _
theorem stop_end (d : Option UInt8) : Stop (lexEnd d) := by cases d <;> rfl
theorem lex_all (a b c : Nat) (d : Option UInt8) (hd : ∀ x, d = some x → x = 54 ∨ x = 55) : ∃ l1 l2 l3 l4 l5, ∃ n1 n2 n3 n4 m1 m2 : Int, Lex 0 (txtM a b c d) (⟨1, kFind, 0, n1⟩ :: ⟨4, mOpen, 0, n2⟩ :: ⟨1, aB, 0, n3⟩ :: ⟨4, mClose, 0, n4⟩ :: l1) ∧ EdWs a l1 l2 ∧ CdWs b l2 l3 ∧ l3 = (⟨1, kTell, 0, m1⟩ : Wd) :: ⟨1, aB, 0, m2⟩ :: l4 ∧ ItWs c l4 l5 ∧ EnWs d l5 := by
  obtain ⟨l5, h5, e5⟩ := lex_end d hd (8 + a * 7 + (cnd b).length + 7 + c * 4)
  obtain ⟨l4, h4, e4⟩ := lex_items c (8 + a * 7 + (cnd b).length + 7) (lexEnd d) l5 (stop_end d) h5
  have hS : Stop (rep c pItem ++ lexEnd d) := by
    cases c with
    | zero => simpa [rep] using stop_end d
    | succ c => rw [rep_succ]; rfl
  have h3 : Lex (8 + a * 7 + (cnd b).length) (pTell ++ (rep c pItem ++ lexEnd d)) (⟨1, kTell, 0, ((8 + a * 7 + (cnd b).length + 1 : Nat) : Int)⟩ :: ⟨1, aB, 0, ((8 + a * 7 + (cnd b).length + 1 + 4 + 1 : Nat) : Int)⟩ :: l4) := by
    refine Lex.blank (by decide) ?_
    refine Lex.word (m := 4) (by decide) (by rfl) ?_
    refine Lex.blank (by decide) ?_
    refine Lex.word (m := 1) (by decide) (one_name (c := 97) _ [] _ (by decide) rfl hS) ?_
    exact h4
  obtain ⟨l2, h2, e2⟩ := lex_cnd b (8 + a * 7) _ _ (by rfl) h3
  obtain ⟨l1, h1, e1⟩ := lex_edges a 8 _ _ h2
  refine ⟨l1, l2, _, l4, l5, ((0 : Nat) : Int), ((5 : Nat) : Int), ((6 : Nat) : Int), ((7 : Nat) : Int), _, _, ?_, e1, e2, rfl, e4, e5⟩
  refine Lex.word (m := 4) (by decide) (by rfl) ?_
  refine Lex.blank (by decide) ?_
  refine Lex.word (m := 1) (by decide) (by rfl) ?_
  refine Lex.word (m := 1) (by decide) (by rfl) ?_
  refine Lex.word (m := 1) (by decide) (one_mk1 _ _ (by decide) (fun b => by simp [mk2]) (by decide) (by decide) (by decide)) ?_
  exact h1

end Go.Proofs.YtahhbgfibelfaaaDoor
