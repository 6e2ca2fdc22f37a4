import Derived.Test.YtkcgnodmjmpnhaaDoorVB
namespace Go.Proofs.YtkcgnodmjmpnhaaDoor
open Go.RowKit Go.Shelf Go.Lib Go.Sort
set_option linter.unusedVariables false

theorem flat_get {α β : Type} (f : α → List β) (n : Nat) (hf : ∀ a, (f a).length = n) : ∀ (l : List α) (i k : Nat) (hi : i < l.length), k < n → (l.flatMap f)[i * n + k]? = (f l[i])[k]?
  | [], i, k, hi, _ => absurd hi (by simp)
  | a :: r, 0, k, _, hk => by
    rw [List.flatMap_cons, List.getElem?_append_left (by rw [hf]; omega)]
    simp
  | a :: r, i + 1, k, hi, hk => by
    rw [List.flatMap_cons, List.getElem?_append_right (by rw [hf, Nat.add_mul]; omega), hf, show (i + 1) * n + k - n = i * n + k by rw [Nat.add_mul]; omega]
    exact flat_get f n hf r i k (by simpa using hi) hk
theorem flat_take {α β : Type} (f : α → List β) (l : List α) (j : Nat) (h : j < l.length) : (l.take (j + 1)).flatMap f = (l.take j).flatMap f ++ f l[j] := by
  rw [List.take_succ_eq_append_getElem h, List.flatMap_append]; simp

/-- The first bytes of a text. -/
def cut10 (s : ByteArray) : ByteArray := s.extract 0 (min s.size 10)
theorem cut10_size (s : ByteArray) : (cut10 s).size ≤ 10 := by unfold cut10; rw [ByteArray.size_extract]; omega
def Pr.near (x : Pr) : Pr := ⟨cut10 x.p, x.v.near⟩
def Pr.cs (p : Pr) : List Value := [.string p.p, .int .i64 p.v.k, .int .i64 p.v.n, .string p.v.s]
def Inf.cs (x : Inf) : List Value := [.int .u64 (x.id : Int), .bool x.edge, .slice x.LA x.labels.length x.lc, .string x.ty, .int .u64 (x.fr : Int), .int .u64 (x.tw : Int), .slice x.PA x.props.length x.pc]
/-- What comes in. -/
structure Inf.wide (x : Inf) (w : World) : Prop where
  id : x.id < 18446744073709551616
  fr : x.fr < 18446744073709551616
  tw : x.tw < 18446744073709551616
  ty : x.ty.size ≤ 9223372036854775807
  lab : ∀ l ∈ x.labels, l.size ≤ 9223372036854775807
  nl : x.labels.length ≤ 9223372036854775807
  pr : ∀ p ∈ x.props, p.p.size ≤ 9223372036854775807 ∧ p.v.ok
  np : x.props.length ≤ 9223372036854775807
  rs : RowS w x.LA x.labels
  rp : RowP w x.PA x.props
theorem Inf.wide.below {x : Inf} {w w' : World} (h : x.wide w) (hb : Below w.heap.size w w') : x.wide w' :=
  ⟨h.id, h.fr, h.tw, h.ty, h.lab, h.nl, h.pr, h.np, h.rs.below hb, h.rp.below hb⟩

/-- Rows of strings and of pairs out of slices of the call's own. -/
theorem rowS_of_mid {w : World} {B n c : Nat} {A : Option Addr} {ls : List ByteArray} (h : Mid w B 9 1 (.slice A n c) n (ls.map Value.string)) : RowS w A ls := by
  rcases h.2 with ⟨hv, hn⟩ | ⟨g, off, cap, cur, hv, hb, hh, hnc, hcm, hcs, ht⟩
  · have := h.1
    subst hn
    exact .inl (List.eq_nil_of_length_eq_zero (by simpa using this))
  · injection hv with h1 h2 h3
    subst h1
    refine .inr ⟨g, off, rfl, hh.lt, fun i hi => ?_⟩
    have h0 : (ls.map Value.string)[i]? = some (.string ls[i]) := by rw [List.getElem?_map, List.getElem?_eq_getElem hi]; rfl
    rw [hh.cell, ← Array.getElem?_toList]
    rw [← ht, List.getElem?_take] at h0
    split at h0
    · rwa [List.getElem?_drop] at h0
    · cases h0
theorem mid_cell {w : World} {B e size n c : Nat} {A : Option Addr} {xs : List Value} {g o : Nat} (h : Mid w B e size (.slice (some ⟨g, o, none⟩) n c) n xs) (k : Nat) (u : Value) (hk : xs[k]? = some u) : w.cell? ⟨g, o + k, none⟩ = some u := by
  rcases h.2 with ⟨hv, _⟩ | ⟨g', off, cap, cur, hv, hb, hh, hnc, hcm, hcs, ht⟩
  · cases hv
  · injection hv with h1 h2 h3
    injection h1 with h1
    injection h1 with h4 h5 _
    subst h4; subst h5
    rw [hh.cell, ← Array.getElem?_toList]
    rw [← ht, List.getElem?_take] at hk
    split at hk
    · rwa [List.getElem?_drop] at hk
    · cases hk
theorem mid_cases {w : World} {B e size n c : Nat} {A : Option Addr} {xs : List Value} (h : Mid w B e size (.slice A n c) n xs) : xs = [] ∨ ∃ g o, A = some ⟨g, o, none⟩ ∧ g < w.heap.size ∧ B ≤ g := by
  rcases h.2 with ⟨hv, hn⟩ | ⟨g', off, cap, cur, hv, hb, hh, hnc, hcm, hcs, ht⟩
  · have := h.1
    subst hn
    exact .inl (List.eq_nil_of_length_eq_zero (by simpa using this))
  · injection hv with h1 h2 h3
    subst h1
    exact .inr ⟨g', off, rfl, hh.lt, hb⟩
theorem rowP_of_mid {w : World} {B n c : Nat} {A : Option Addr} {ps : List Pr} (h : Mid w B 59 4 (.slice A n c) n (ps.flatMap Pr.cs)) : RowP w A ps := by
  rcases mid_cases h with h0 | ⟨g, o, rfl, hg, _⟩
  · left
    cases ps with
    | nil => rfl
    | cons a r => simp [Pr.cs] at h0
  · refine .inr ⟨g, o, rfl, hg, fun i hi => ?_⟩
    have hf : ∀ a : Pr, (Pr.cs a).length = 4 := fun _ => rfl
    have c : ∀ k u, k < 4 → (Pr.cs ps[i])[k]? = some u → w.cell? ⟨g, o + (i * 4 + k), none⟩ = some u := fun k u hk hu =>
      mid_cell (A := none) h _ u ((flat_get Pr.cs 4 hf ps i k hi hk).trans hu)
    exact ⟨c 0 _ (by omega) rfl, c 1 _ (by omega) rfl, c 2 _ (by omega) rfl, c 3 _ (by omega) rfl⟩
end Go.Proofs.YtkcgnodmjmpnhaaDoor
