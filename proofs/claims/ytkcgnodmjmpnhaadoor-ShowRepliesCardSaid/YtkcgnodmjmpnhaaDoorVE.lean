import Derived.Test.YtkcgnodmjmpnhaaDoorVD
namespace Go.Proofs.YtkcgnodmjmpnhaaDoor
open Go.RowKit Go.Shelf Go.Lib Go.Sort
set_option linter.unusedVariables false

/-- The part of a thing that does not speak of places. -/
structure Inf.ok0 (x : Inf) : Prop where
  id : x.id < 18446744073709551616
  fr : x.fr < 18446744073709551616
  tw : x.tw < 18446744073709551616
  ty : x.ty.size ≤ 10
  lab : ∀ l ∈ x.labels, l.size ≤ 10
  nl : x.labels.length ≤ 1000
  pr : ∀ p ∈ x.props, p.short
  np : x.props.length ≤ 1000
def Inf.N (x : Inf) : Inf := ⟨x.id, x.fr, x.tw, x.edge, x.ty, x.labels, x.props, none, none, 0, 0⟩
def Inf.nearN (x : Inf) : Inf := x.near none none 0 0
theorem Inf.N_txt (x : Inf) : x.N.txt = x.txt := rfl
theorem Inf.N_ok0 {x : Inf} (h : x.N.ok0) : x.ok0 := ⟨h.id, h.fr, h.tw, h.ty, h.lab, h.nl, h.pr, h.np⟩
theorem Inf.near_N (x : Inf) (LA PA : Option Addr) (lc pc : Nat) : (x.near LA PA lc pc).N = x.nearN := rfl
theorem Inf.nearN_ok0 {x : Inf} {w : World} (h : x.wide w) : x.nearN.ok0 := by
  refine ⟨h.id, h.fr, h.tw, cut10_size _, fun l hl => ?_, ?_, fun p hp => ?_, ?_⟩
  · obtain ⟨y, _, rfl⟩ := List.mem_map.1 hl
    exact cut10_size _
  · show ((x.labels.take 4).map cut10).length ≤ 1000
    rw [List.length_map, List.length_take]; omega
  · obtain ⟨y, hy, rfl⟩ := List.mem_map.1 hp
    exact ⟨cut10_size _, y.v.near_short (h.pr y (List.mem_of_mem_take hy)).2⟩
  · show ((x.props.take 4).map Pr.near).length ≤ 1000
    rw [List.length_map, List.length_take]; omega
theorem Inf.txt_size0 {x : Inf} (h : x.ok0) : x.txt.size ≤ 20000000 := by
  have z4 := propsT_size x.props h.pr h.np
  have z1 := num_size_u x.id h.id
  have z2 := num_size_u x.fr h.fr
  have z3 := num_size_u x.tw h.tw
  have z5 := h.ty
  unfold Inf.txt
  split
  · unfold edgeT
    simp only [ByteArray.size_append]
    have a : (⟨#[101, 100, 103, 101, 32]⟩ : ByteArray).size = 5 := rfl
    have b : (⟨#[32]⟩ : ByteArray).size = 1 := rfl
    have c : (⟨#[45]⟩ : ByteArray).size = 1 := rfl
    have d : (⟨#[45, 62]⟩ : ByteArray).size = 2 := rfl
    omega
  · unfold nodeT
    have hl := labT_size 10 x.labels ((⟨#[110, 111, 100, 101, 32]⟩ : ByteArray) ++ num (x.id : Int)) h.lab
    rw [ByteArray.size_append, show (⟨#[110, 111, 100, 101, 32]⟩ : ByteArray).size = 5 from rfl] at hl
    rw [ByteArray.size_append]
    have := h.nl
    omega
/-- A thing whose slices are the call's own. -/
def Inf.own (x : Inf) (B : Nat) (w : World) : Prop :=
  Mid w B 9 1 (.slice x.LA x.labels.length x.lc) x.labels.length (x.labels.map Value.string) ∧ Mid w B 59 4 (.slice x.PA x.props.length x.pc) x.props.length (x.props.flatMap Pr.cs)
theorem Inf.own.ok {x : Inf} {B : Nat} {w : World} (h : x.own B w) (h0 : x.ok0) : x.ok w :=
  ⟨h0.id, h0.fr, h0.tw, h0.ty, h0.lab, h0.nl, h0.pr, h0.np, rowS_of_mid h.1, rowP_of_mid h.2⟩
theorem Inf.own.up {x : Inf} {B : Nat} {w w' : World} (h : x.own B w) (hb : Below w.heap.size w w') : x.own B w' := ⟨mid_up h.1 hb, mid_up h.2 hb⟩
theorem Inf.own.mono {x : Inf} {B B' : Nat} {w : World} (h : x.own B w) (hb : B' ≤ B) : x.own B' w := ⟨h.1.mono hb, h.2.mono hb⟩
theorem Inf.own.set {x : Inf} {B : Nat} {w : World} {p : Addr} (h : x.own B w) (hp : p.block < B) (u : Value) : x.own B (w.setCell p u) := ⟨mid_set h.1 hp u, mid_set h.2 hp u⟩
theorem Inf.own.grown {x : Inf} {B B2 e s n : Nat} {w w' : World} {v : Value} {xs : List Value} (h : x.own B w) (hm : Mid w B2 e s v n xs) (h9 : 9 ≠ e) (h59 : 59 ≠ e) (hg : w.grownBy w' v.ownBlock) : x.own B w' :=
  ⟨mid_grown h.1 hm h9 hg, mid_grown h.2 hm h59 hg⟩

/-! ### What comes in -/
def RowI (w : World) (A : Option Addr) (xs : List Nat) : Prop := xs = [] ∨ ∃ g o, A = some ⟨g, o, none⟩ ∧ g < w.heap.size ∧ ∀ i (h : i < xs.length), w.cell? ⟨g, o + i, none⟩ = some (.int .u64 (xs[i] : Int))
def RowFw (w : World) (A : Option Addr) (xs : List Inf) : Prop := xs = [] ∨ ∃ g o, A = some ⟨g, o, none⟩ ∧ g < w.heap.size ∧ ∀ i (h : i < xs.length),
  w.cell? ⟨g, o + i * 7, none⟩ = some (.int .u64 (xs[i].id : Int)) ∧ w.cell? ⟨g, o + i * 7 + 1, none⟩ = some (.bool xs[i].edge) ∧ w.cell? ⟨g, o + i * 7 + 2, none⟩ = some (.slice xs[i].LA xs[i].labels.length xs[i].lc) ∧
  w.cell? ⟨g, o + i * 7 + 3, none⟩ = some (.string xs[i].ty) ∧ w.cell? ⟨g, o + i * 7 + 4, none⟩ = some (.int .u64 (xs[i].fr : Int)) ∧ w.cell? ⟨g, o + i * 7 + 5, none⟩ = some (.int .u64 (xs[i].tw : Int)) ∧ w.cell? ⟨g, o + i * 7 + 6, none⟩ = some (.slice xs[i].PA xs[i].props.length xs[i].pc)
def Rw.wide (x : Rw) (w : World) : Prop := (∀ v ∈ x.vs, v.ok) ∧ x.vs.length ≤ 9223372036854775807 ∧ RowV w x.A x.vs
def RowRw (w : World) (A : Option Addr) (xs : List Rw) : Prop := xs = [] ∨ ∃ g o, A = some ⟨g, o, none⟩ ∧ g < w.heap.size ∧ ∀ i (h : i < xs.length), w.cell? ⟨g, o + i, none⟩ = some (.slice xs[i].A xs[i].vs.length xs[i].c)
/-- A reply that comes in. -/
structure Rep where
  err : Int
  id : Nat
  ids : List Nat
  fs : List Inf
  rs : List Rw
  IA : Option Addr
  FA : Option Addr
  RA : Option Addr
  ic : Nat
  fc : Nat
  rc : Nat
def Rep.cells (r : Rep) : Array Value := #[.int .i64 r.err, .int .u64 (r.id : Int), .slice r.IA r.ids.length r.ic, .slice r.FA r.fs.length r.fc, .slice r.RA r.rs.length r.rc]
structure Rep.wide (r : Rep) (w : World) : Prop where
  err : In64 r.err
  id : r.id < 18446744073709551616
  ids : ∀ x ∈ r.ids, x < 18446744073709551616
  ni : r.ids.length ≤ 9223372036854775807
  nf : r.fs.length ≤ 9223372036854775807
  nr : r.rs.length ≤ 9223372036854775807
  fw : ∀ f ∈ r.fs, f.wide w
  rw : ∀ x ∈ r.rs, x.wide w
  ri : RowI w r.IA r.ids
  rf : RowFw w r.FA r.fs
  rr : RowRw w r.RA r.rs

/-! ### The law's boxes -/
structure QB (w : World) (r : Rep) (IV FV RV : Value) (y : World) : Prop where
  b0 : Blk y w.heap.size 39 r.cells
  b1 : Blk y (w.heap.size + 1) 39 #[.int .i64 (r.err % 8), .int .u64 (r.id : Int), IV, FV, RV]
  hb : Below w.heap.size w y
  hs : w.heap.size + 2 ≤ y.heap.size
section
variable {w : World} {r : Rep} {IV FV RV : Value} {y z : World}
theorem QB.step (h : QB w r IV FV RV y) (hb : Below (w.heap.size + 2) y z) : QB w r IV FV RV z :=
  ⟨h.b0.below hb (by omega), h.b1.below hb (by omega), h.hb.trans (hb.mono (by omega)), Nat.le_trans h.hs hb.size⟩
theorem QB.up (h : QB w r IV FV RV y) (hb : Below y.heap.size y z) : QB w r IV FV RV z := h.step (hb.mono h.hs)
theorem QB.grown {e s n : Nat} {v : Value} {xs : List Value} (h : QB w r IV FV RV y) (hm : Mid y (w.heap.size + 2) e s v n xs) (hg : y.grownBy z v.ownBlock) : QB w r IV FV RV z :=
  h.step ((Below.refl _ _).grown hg h.hs fun q hq => (hm.block q hq).1)
theorem QB.setI (h : QB w r IV FV RV y) (u : Value) : QB w r u FV RV (y.setCell ⟨w.heap.size + 1, 2, none⟩ u) :=
  ⟨h.b0.far (by show w.heap.size ≠ w.heap.size + 1; omega) u, h.b1.set_ 2 u, h.hb.setCell (by show w.heap.size ≤ w.heap.size + 1; omega) u, by have := h.hs; simpa [World.setCell] using this⟩
theorem QB.setF (h : QB w r IV FV RV y) (u : Value) : QB w r IV u RV (y.setCell ⟨w.heap.size + 1, 3, none⟩ u) :=
  ⟨h.b0.far (by show w.heap.size ≠ w.heap.size + 1; omega) u, h.b1.set_ 3 u, h.hb.setCell (by show w.heap.size ≤ w.heap.size + 1; omega) u, by have := h.hs; simpa [World.setCell] using this⟩
theorem QB.setR (h : QB w r IV FV RV y) (u : Value) : QB w r IV FV u (y.setCell ⟨w.heap.size + 1, 4, none⟩ u) :=
  ⟨h.b0.far (by show w.heap.size ≠ w.heap.size + 1; omega) u, h.b1.set_ 4 u, h.hb.setCell (by show w.heap.size ≤ w.heap.size + 1; omega) u, by have := h.hs; simpa [World.setCell] using this⟩
end

/-- The numbers, as the law tells them. -/
def idsL (s : ByteArray) (ids : List Nat) : Nat → ByteArray
  | 0 => s
  | j + 1 => (idsL s ids j ++ (if j = 0 then (⟨#[32, 91]⟩ : ByteArray) else ⟨#[32]⟩)) ++ num (ids.getD j 0 : Int)
theorem idsL_join (s : ByteArray) (ids : List Nat) : ∀ j, j + 1 ≤ ids.length → idsL s ids (j + 1) = s ++ (⟨#[32, 91]⟩ : ByteArray) ++ joinOf ((ids.take (j + 1)).map fun x : Nat => num (x : Int)) ⟨#[32]⟩
  | 0, h => by
    rw [map_take (fun x : Nat => num (x : Int)) ids 0 (by omega)]
    simp only [idsL, if_true, List.take_zero, List.map_nil, List.nil_append, joinOf_one]
    rw [getD_at _ _ _ (by omega)]
  | j + 1, h => by
    have ih := idsL_join s ids j (by omega)
    rw [idsL, ih, map_take (fun x : Nat => num (x : Int)) ids (j + 1) (by omega), joinOf_snoc _ _ _ (fun e => by have := congrArg List.length e; rw [List.length_map, List.length_take] at this; have h0 : min (j + 1) ids.length = 0 := this; omega), if_neg (by omega), getD_at _ _ _ (by omega)]
    simp only [ByteArray.append_assoc]
theorem idsL_all (id : Nat) (ids : List Nat) (j : Nat) (h0 : j ≠ 0) (hj : j ≤ ids.length) : idsL (idT id) ids j ++ ⟨#[93]⟩ = idsT2 id (ids.take j) := by
  obtain ⟨k, rfl⟩ : ∃ k, j = k + 1 := ⟨j - 1, by omega⟩
  rw [idsL_join _ _ k (by omega)]
  unfold idsT2 idsT
  rw [if_neg (fun e => by have := congrArg List.length e; rw [List.length_take] at this; have h0 : min (k + 1) ids.length = 0 := this; omega)]
  have e1 : (⟨#[32, 91]⟩ : ByteArray) = (⟨#[32]⟩ : ByteArray) ++ (⟨#[91]⟩ : ByteArray) := by decide
  rw [e1]
  simp only [ByteArray.append_assoc]
theorem idsL_size (id : Nat) (h : id < 18446744073709551616) (ids : List Nat) (hx : ∀ x ∈ ids, x < 18446744073709551616) : ∀ j, j ≤ ids.length → (idsL (idT id) ids j).size ≤ 24 + j * 23
  | 0, _ => by simpa [idsL] using idT_size id h
  | j + 1, hj => by
    have ih := idsL_size id h ids hx j (by omega)
    rw [idsL, ByteArray.size_append, ByteArray.size_append, getD_at _ _ _ (by omega)]
    have := num_size_u ids[j] (hx _ (List.getElem_mem (by omega)))
    have h2 : (if j = 0 then (⟨#[32, 91]⟩ : ByteArray) else ⟨#[32]⟩).size ≤ 2 := by split <;> decide
    omega
/-- A row, as the law tells it. -/
def rowL (s : ByteArray) (vs : List Vl) : Nat → ByteArray
  | 0 => s
  | j + 1 => (if j = 0 then rowL s vs j else rowL s vs j ++ ⟨#[44, 32]⟩) ++ (vs.getD j ⟨0, 0, ⟨#[]⟩⟩).txt
theorem rowL_join (s : ByteArray) (vs : List Vl) : ∀ j, j + 1 ≤ vs.length → rowL s vs (j + 1) = s ++ joinOf ((vs.take (j + 1)).map Vl.txt) ⟨#[44, 32]⟩
  | 0, h => by
    rw [map_take Vl.txt vs 0 (by omega)]
    simp only [rowL, if_true, List.take_zero, List.map_nil, List.nil_append, joinOf_one]
    rw [getD_at _ _ _ (by omega)]
  | j + 1, h => by
    have ih := rowL_join s vs j (by omega)
    rw [rowL, ih, map_take Vl.txt vs (j + 1) (by omega), joinOf_snoc _ _ _ (fun e => by have := congrArg List.length e; rw [List.length_map, List.length_take] at this; have h0 : min (j + 1) vs.length = 0 := this; omega), if_neg (by omega), getD_at _ _ _ (by omega)]
    simp only [ByteArray.append_assoc]
theorem rowL_all (s : ByteArray) (vs : List Vl) : rowL (s ++ ⟨#[32, 40]⟩) vs vs.length ++ ⟨#[41]⟩ = s ++ ((⟨#[32]⟩ : ByteArray) ++ rowT vs) := by
  have e1 : (⟨#[32, 40]⟩ : ByteArray) = (⟨#[32]⟩ : ByteArray) ++ (⟨#[40]⟩ : ByteArray) := by decide
  rw [e1]
  unfold rowT
  rcases Nat.eq_zero_or_pos vs.length with h0 | h0
  · have : vs = [] := List.eq_nil_of_length_eq_zero h0
    subst this
    have e2 : joinOf ([].map Vl.txt) ⟨#[44, 32]⟩ = ⟨#[]⟩ := by decide
    rw [e2]
    simp only [List.length_nil, rowL]
    have e3 : (⟨#[40]⟩ : ByteArray) ++ (⟨#[]⟩ : ByteArray) = ⟨#[40]⟩ := by decide
    rw [e3]
    simp only [ByteArray.append_assoc]
  · obtain ⟨k, hk⟩ : ∃ k, vs.length = k + 1 := ⟨vs.length - 1, by omega⟩
    rw [hk, rowL_join _ _ k (by omega), List.take_of_length_le (by omega)]
    simp only [ByteArray.append_assoc]
theorem rowL_size (s : ByteArray) (vs : List Vl) (h : ∀ v ∈ vs, v.short) : ∀ j, j ≤ vs.length → (rowL s vs j).size ≤ s.size + j * 4204
  | 0, _ => by simp [rowL]
  | j + 1, hj => by
    have ih := rowL_size s vs h j (by omega)
    rw [rowL, ByteArray.size_append, getD_at _ _ _ (by omega)]
    have := (vs[j]).txt_size (h _ (List.getElem_mem (by omega)))
    have h2 : (if j = 0 then rowL s vs j else rowL s vs j ++ ⟨#[44, 32]⟩).size ≤ (rowL s vs j).size + 2 := by
      split
      · omega
      · rw [ByteArray.size_append]; exact Nat.le_refl _
    omega

/-! ### What has been gathered -/
def Vl.cs (v : Vl) : List Value := [.int .i64 v.k, .int .i64 v.n, .string v.s]
structure FSt (w : World) (r : Rep) (FV : Value) (j : Nat) (fs : List Inf) (y : World) : Prop where
  m : Mid y (w.heap.size + 2) 43 7 FV j (fs.flatMap Inf.cs)
  n : fs.map Inf.N = (r.fs.take j).map Inf.nearN
  own : ∀ f ∈ fs, f.own (w.heap.size + 2) y
structure RSt (w : World) (r : Rep) (RV : Value) (j : Nat) (rs : List Rw) (y : World) : Prop where
  m : Mid y (w.heap.size + 2) 46 1 RV j (rs.map fun x => Value.slice x.A x.vs.length x.c)
  n : rs.map Rw.vs = (r.rs.take j).map fun x => (x.vs.take 3).map Vl.near
  own : ∀ x ∈ rs, Mid y (w.heap.size + 2) 48 3 (.slice x.A x.vs.length x.c) x.vs.length (x.vs.flatMap Vl.cs)
section
variable {w : World} {r : Rep} {IV FV RV : Value} {j : Nat} {fs : List Inf} {rs : List Rw} {y z : World}
theorem FSt.up (h : FSt w r FV j fs y) (hb : Below y.heap.size y z) : FSt w r FV j fs z := ⟨mid_up h.m hb, h.n, fun f hf => (h.own f hf).up hb⟩
theorem FSt.set {p : Addr} (h : FSt w r FV j fs y) (hp : p.block < w.heap.size + 2) (u : Value) : FSt w r FV j fs (y.setCell p u) := ⟨mid_set h.m hp u, h.n, fun f hf => (h.own f hf).set hp u⟩
theorem FSt.grown {B2 e s n : Nat} {v : Value} {xs : List Value} (h : FSt w r FV j fs y) (hm : Mid y B2 e s v n xs) (h9 : 9 ≠ e) (h59 : 59 ≠ e) (h43 : 43 ≠ e) (hg : y.grownBy z v.ownBlock) : FSt w r FV j fs z :=
  ⟨mid_grown h.m hm h43 hg, h.n, fun f hf => (h.own f hf).grown hm h9 h59 hg⟩
theorem RSt.up (h : RSt w r RV j rs y) (hb : Below y.heap.size y z) : RSt w r RV j rs z := ⟨mid_up h.m hb, h.n, fun f hf => mid_up (h.own f hf) hb⟩
theorem RSt.set {p : Addr} (h : RSt w r RV j rs y) (hp : p.block < w.heap.size + 2) (u : Value) : RSt w r RV j rs (y.setCell p u) := ⟨mid_set h.m hp u, h.n, fun f hf => mid_set (h.own f hf) hp u⟩
theorem FSt.rowF {FA : Option Addr} {fc : Nat} (h : FSt w r (.slice FA j fc) j fs y) (hw : ∀ f ∈ r.fs, f.wide w) : fs.length = (r.fs.take j).length ∧ RowF y FA fs := by
  have hl : fs.length = (r.fs.take j).length := by have := congrArg List.length h.n; simpa using this
  refine ⟨hl, ?_⟩
  rcases mid_cases h.m with h0 | ⟨g, o, rfl, hg, _⟩
  · left
    cases fs with
    | nil => rfl
    | cons a r => simp [Inf.cs] at h0
  · refine .inr ⟨g, o, rfl, hg, fun i hi => ?_⟩
    have hf : ∀ a : Inf, (Inf.cs a).length = 7 := fun _ => rfl
    have c : ∀ k u, k < 7 → (Inf.cs fs[i])[k]? = some u → y.cell? ⟨g, o + (i * 7 + k), none⟩ = some u := fun k u hk hu =>
      mid_cell (A := none) h.m _ u ((flat_get Inf.cs 7 hf fs i k hi hk).trans hu)
    have hok0 : fs[i].ok0 := by
      have hm : fs[i].N ∈ fs.map Inf.N := List.mem_map_of_mem (List.getElem_mem hi)
      rw [h.n] at hm
      obtain ⟨x, hx, e⟩ := List.mem_map.1 hm
      exact Inf.N_ok0 (e ▸ Inf.nearN_ok0 (hw x (List.mem_of_mem_take hx)))
    exact ⟨(h.own _ (List.getElem_mem hi)).ok hok0, c 0 _ (by omega) rfl, c 1 _ (by omega) rfl, c 2 _ (by omega) rfl, c 3 _ (by omega) rfl, c 4 _ (by omega) rfl, c 5 _ (by omega) rfl, c 6 _ (by omega) rfl⟩
theorem rowV_of_mid {B n c : Nat} {A : Option Addr} {vs : List Vl} (h : Mid y B 48 3 (.slice A n c) n (vs.flatMap Vl.cs)) : RowV y A vs := by
  rcases mid_cases h with h0 | ⟨g, o, rfl, hg, _⟩
  · left
    cases vs with
    | nil => rfl
    | cons a r => simp [Vl.cs] at h0
  · refine .inr ⟨g, o, rfl, hg, fun i hi => ?_⟩
    have hf : ∀ a : Vl, (Vl.cs a).length = 3 := fun _ => rfl
    have c : ∀ k u, k < 3 → (Vl.cs vs[i])[k]? = some u → y.cell? ⟨g, o + (i * 3 + k), none⟩ = some u := fun k u hk hu =>
      mid_cell (A := none) h _ u ((flat_get Vl.cs 3 hf vs i k hi hk).trans hu)
    exact ⟨c 0 _ (by omega) rfl, c 1 _ (by omega) rfl, c 2 _ (by omega) rfl⟩
theorem nears_short {x : Rw} (h : ∀ v ∈ x.vs, v.ok) : ∀ v ∈ (x.vs.take 3).map Vl.near, v.short := fun v hv => by
  obtain ⟨u, hu, rfl⟩ := List.mem_map.1 hv
  exact u.near_short (h u (List.mem_of_mem_take hu))
theorem RSt.rowR {RA : Option Addr} {rc : Nat} (h : RSt w r (.slice RA j rc) j rs y) (hw : ∀ x ∈ r.rs, x.wide w) : rs.length = (r.rs.take j).length ∧ RowR y RA rs := by
  have hl : rs.length = (r.rs.take j).length := by have := congrArg List.length h.n; simpa using this
  refine ⟨hl, ?_⟩
  rcases mid_cases h.m with h0 | ⟨g, o, rfl, hg, _⟩
  · left
    cases rs with
    | nil => rfl
    | cons a r => simp at h0
  · refine .inr ⟨g, o, rfl, hg, fun i hi => ?_⟩
    have hm : rs[i].vs ∈ rs.map Rw.vs := List.mem_map_of_mem (List.getElem_mem hi)
    rw [h.n] at hm
    obtain ⟨x, hx, e⟩ := List.mem_map.1 hm
    have hs := nears_short (hw x (List.mem_of_mem_take hx)).1
    rw [e] at hs
    refine ⟨⟨hs, ?_, rowV_of_mid (h.own _ (List.getElem_mem hi))⟩, mid_cell (A := none) h.m i _ (by rw [List.getElem?_map, List.getElem?_eq_getElem hi]; rfl)⟩
    rw [← e, List.length_map, List.length_take]; omega
theorem FSt.txts (h : FSt w r FV j fs y) : fs.map Inf.txt = (r.fs.take j).map fun x => x.nearN.txt := by
  have : fs.map Inf.txt = (fs.map Inf.N).map Inf.txt := by rw [List.map_map]; rfl
  rw [this, h.n, List.map_map]; rfl
theorem RSt.txts (h : RSt w r RV j rs y) : (rs.map fun x => rowT x.vs) = (r.rs.take j).map fun x => rowT ((x.vs.take 3).map Vl.near) := by
  have : (rs.map fun x => rowT x.vs) = (rs.map Rw.vs).map rowT := by rw [List.map_map]; rfl
  rw [this, h.n, List.map_map]; rfl
theorem row_of_mid {B e s n c : Nat} {A : Option Addr} {xs : List Value} (h : Mid y B e s (.slice A n c) n xs) : Row y A xs := by
  obtain ⟨A', c', e', _, _, hr⟩ := h.form
  injection e' with e1 _ _
  rw [e1]; exact hr
end
end Go.Proofs.YtkcgnodmjmpnhaaDoor
