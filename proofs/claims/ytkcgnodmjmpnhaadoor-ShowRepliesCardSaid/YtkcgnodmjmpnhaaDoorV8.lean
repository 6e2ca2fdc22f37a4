import Derived.Test.YtkcgnodmjmpnhaaDoorV7
namespace Go.Proofs.YtkcgnodmjmpnhaaDoor
open Go.RowKit Go.Shelf Go.Lib Go.Sort
set_option linter.unusedVariables false

/-- A node or an edge. -/
structure Inf where
  id : Nat
  fr : Nat
  tw : Nat
  edge : Bool
  ty : ByteArray
  labels : List ByteArray
  props : List Pr
  LA : Option Addr
  PA : Option Addr
  lc : Nat
  pc : Nat
def Inf.cells (x : Inf) : Array Value := #[.int .u64 (x.id : Int), .bool x.edge, .slice x.LA x.labels.length x.lc, .string x.ty, .int .u64 (x.fr : Int), .int .u64 (x.tw : Int), .slice x.PA x.props.length x.pc]
structure Inf.ok (x : Inf) (w : World) : Prop where
  id : x.id < 18446744073709551616
  fr : x.fr < 18446744073709551616
  tw : x.tw < 18446744073709551616
  ty : x.ty.size ≤ 10
  lab : ∀ l ∈ x.labels, l.size ≤ 10
  nl : x.labels.length ≤ 1000
  pr : ∀ p ∈ x.props, p.short
  np : x.props.length ≤ 1000
  rs : RowS w x.LA x.labels
  rp : RowP w x.PA x.props
theorem Inf.ok.below {x : Inf} {w w' : World} (h : x.ok w) (hb : Below w.heap.size w w') : x.ok w' :=
  ⟨h.id, h.fr, h.tw, h.ty, h.lab, h.nl, h.pr, h.np, h.rs.below hb, h.rp.below hb⟩
def Inf.txt (x : Inf) : ByteArray := if x.edge then edgeT x.id x.fr x.tw x.ty x.props else nodeT x.id x.labels x.props
theorem Inf.txt_size {x : Inf} {w : World} (h : x.ok w) : x.txt.size ≤ 20000000 := by
  have z4 := propsT_size x.props h.pr h.np
  have z1 := num_size_u x.id h.id
  have z2 := num_size_u x.fr h.fr
  have z3 := num_size_u x.tw h.tw
  have z5 := h.ty
  unfold Inf.txt
  split
  · unfold edgeT
    simp only [ByteArray.size_append]
    have a : (⟨#[101, 100, 103, 101, 32]⟩ : ByteArray).size = 5 := rfl
    have b : (⟨#[32]⟩ : ByteArray).size = 1 := rfl
    have c : (⟨#[45]⟩ : ByteArray).size = 1 := rfl
    have d : (⟨#[45, 62]⟩ : ByteArray).size = 2 := rfl
    omega
  · unfold nodeT
    have hl := labT_size 10 x.labels ((⟨#[110, 111, 100, 101, 32]⟩ : ByteArray) ++ num (x.id : Int)) h.lab
    rw [ByteArray.size_append, show (⟨#[110, 111, 100, 101, 32]⟩ : ByteArray).size = 5 from rfl] at hl
    rw [ByteArray.size_append]
    have := h.nl
    omega
theorem info_show (x : Inf) (w : World) (h : x.ok w) (ht : Tab w) (hm : HasM w) :
    Calls Tryd.prog 24 #[.agg x.cells] w fun e w' => e = .returned (.string x.txt) ∧ Below w.heap.size w w' := by
  unfold Inf.txt Inf.cells
  cases he : x.edge with
  | true => exact edge_show x.id x.fr x.tw h.id h.fr h.tw x.ty h.ty x.LA x.PA _ x.lc _ x.pc x.props h.pr rfl h.np w ht hm h.rp
  | false => exact node_show x.id x.fr x.tw h.id x.ty x.LA x.PA _ x.lc _ x.pc x.labels x.props h.lab rfl h.nl h.pr rfl h.np w ht hm h.rp h.rs

/-- A row of values, as a slice. -/
structure Rw where
  A : Option Addr
  c : Nat
  vs : List Vl
def RowF (w : World) (A : Option Addr) (xs : List Inf) : Prop := xs = [] ∨ ∃ g o, A = some ⟨g, o, none⟩ ∧ g < w.heap.size ∧ ∀ i (h : i < xs.length), xs[i].ok w ∧
  w.cell? ⟨g, o + i * 7, none⟩ = some (.int .u64 (xs[i].id : Int)) ∧ w.cell? ⟨g, o + i * 7 + 1, none⟩ = some (.bool xs[i].edge) ∧ w.cell? ⟨g, o + i * 7 + 2, none⟩ = some (.slice xs[i].LA xs[i].labels.length xs[i].lc) ∧
  w.cell? ⟨g, o + i * 7 + 3, none⟩ = some (.string xs[i].ty) ∧ w.cell? ⟨g, o + i * 7 + 4, none⟩ = some (.int .u64 (xs[i].fr : Int)) ∧ w.cell? ⟨g, o + i * 7 + 5, none⟩ = some (.int .u64 (xs[i].tw : Int)) ∧ w.cell? ⟨g, o + i * 7 + 6, none⟩ = some (.slice xs[i].PA xs[i].props.length xs[i].pc)
theorem RowF.below {w w' : World} {A : Option Addr} {xs : List Inf} (h : RowF w A xs) (hb : Below w.heap.size w w') : RowF w' A xs := by
  rcases h with h | ⟨g, o, e, hg, hl⟩
  · exact .inl h
  · refine .inr ⟨g, o, e, Nat.lt_of_lt_of_le hg hb.size, fun i hi => ?_⟩
    obtain ⟨h0, h1, h2, h3, h4, h5, h6, h7⟩ := hl i hi
    exact ⟨h0.below hb, below_cell hb hg h1, below_cell hb hg h2, below_cell hb hg h3, below_cell hb hg h4, below_cell hb hg h5, below_cell hb hg h6, below_cell hb hg h7⟩
def Rw.ok (x : Rw) (w : World) : Prop := (∀ v ∈ x.vs, v.short) ∧ x.vs.length ≤ 1000 ∧ RowV w x.A x.vs
def RowR (w : World) (A : Option Addr) (xs : List Rw) : Prop := xs = [] ∨ ∃ g o, A = some ⟨g, o, none⟩ ∧ g < w.heap.size ∧ ∀ i (h : i < xs.length), xs[i].ok w ∧ w.cell? ⟨g, o + i, none⟩ = some (.slice xs[i].A xs[i].vs.length xs[i].c)
theorem RowR.below {w w' : World} {A : Option Addr} {xs : List Rw} (h : RowR w A xs) (hb : Below w.heap.size w w') : RowR w' A xs := by
  rcases h with h | ⟨g, o, e, hg, hl⟩
  · exact .inl h
  · refine .inr ⟨g, o, e, Nat.lt_of_lt_of_le hg hb.size, fun i hi => ?_⟩
    obtain ⟨h0, h1⟩ := hl i hi
    exact ⟨⟨h0.1, h0.2.1, h0.2.2.below hb⟩, below_cell hb hg h1⟩
theorem rowT_size (vs : List Vl) (h : ∀ v ∈ vs, v.short) (hN : vs.length ≤ 1000) : (rowT vs).size ≤ 10000000 := by
  unfold rowT
  have hsz3 := joinOf_size (vs.map Vl.txt) ⟨#[44, 32]⟩ 4202 (fun y hy => by
    obtain ⟨x, hx, rfl⟩ := List.mem_map.1 hy
    exact x.txt_size (h x hx))
  rw [List.length_map, show (⟨#[44, 32]⟩ : ByteArray).size = 2 from rfl] at hsz3
  rw [ByteArray.size_append, ByteArray.size_append, show (⟨#[40]⟩ : ByteArray).size = 1 from rfl, show (⟨#[41]⟩ : ByteArray).size = 1 from rfl]
  omega
theorem idsT_size (xs : List Nat) (h : ∀ x ∈ xs, x < 18446744073709551616) (hN : xs.length ≤ 1000) : (idsT xs).size ≤ 100000 := by
  unfold idsT
  have hsz3 := joinOf_size (xs.map fun x : Nat => num (x : Int)) ⟨#[32]⟩ 21 (fun y hy => by
    obtain ⟨x, hx, rfl⟩ := List.mem_map.1 hy
    exact num_size_u x (h x hx))
  rw [List.length_map, show (⟨#[32]⟩ : ByteArray).size = 1 from rfl] at hsz3
  rw [ByteArray.size_append, ByteArray.size_append, show (⟨#[91]⟩ : ByteArray).size = 1 from rfl, show (⟨#[93]⟩ : ByteArray).size = 1 from rfl]
  omega

/-- Texts, each behind a blank. -/
def spT (s : ByteArray) (ts : List ByteArray) : ByteArray := ts.foldl (fun s t => s ++ ((⟨#[32]⟩ : ByteArray) ++ t)) s
theorem spT_snoc {α : Type} (f : α → ByteArray) (s : ByteArray) (ls : List α) (j : Nat) (h : j < ls.length) : spT s ((ls.take (j + 1)).map f) = spT s ((ls.take j).map f) ++ ((⟨#[32]⟩ : ByteArray) ++ f ls[j]) := by
  rw [map_take f ls j h]
  unfold spT
  rw [List.foldl_append]
  rfl
theorem spT_size (M : Nat) : ∀ (ls : List ByteArray) (s : ByteArray), (∀ l ∈ ls, l.size ≤ M) → (spT s ls).size ≤ s.size + ls.length * (M + 1)
  | [], s, _ => by show s.size ≤ _; simp
  | l :: r, s, h => by
    show (spT (s ++ ((⟨#[32]⟩ : ByteArray) ++ l)) r).size ≤ _
    have ih := spT_size M r (s ++ ((⟨#[32]⟩ : ByteArray) ++ l)) (fun x hx => h x (List.mem_cons_of_mem _ hx))
    have := h l (by simp)
    rw [ByteArray.size_append, ByteArray.size_append, show (⟨#[32]⟩ : ByteArray).size = 1 from rfl] at ih
    simp only [List.length_cons, Nat.add_mul] at ih ⊢
    omega
end Go.Proofs.YtkcgnodmjmpnhaaDoor
