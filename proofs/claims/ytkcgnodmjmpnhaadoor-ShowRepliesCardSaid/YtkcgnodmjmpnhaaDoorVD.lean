import Derived.Test.YtkcgnodmjmpnhaaDoorVC
import Derived.Test.YtkcgnodmjmpnhaaDoorRT
namespace Go.Proofs.YtkcgnodmjmpnhaaDoor
open Go.RowKit Go.Shelf Go.Lib Go.Sort
set_option linter.unusedVariables false

/-- The boxes of a thing that is cut. -/
structure NB (w : World) (x : Inf) (LV PV : Value) (y : World) : Prop where
  b0 : Blk y w.heap.size 43 x.cells
  b1 : Blk y (w.heap.size + 1) 43 #[.int .u64 0, .bool false, .slice none 0 0, .string ⟨#[]⟩, .int .u64 0, .int .u64 0, .slice none 0 0]
  b2 : Blk y (w.heap.size + 2) 43 #[.int .u64 (x.id : Int), .bool x.edge, LV, .string (cut10 x.ty), .int .u64 (x.fr : Int), .int .u64 (x.tw : Int), PV]
  hb : Below w.heap.size w y
  hs : w.heap.size + 3 ≤ y.heap.size
theorem NB.step {w : World} {x : Inf} {LV PV : Value} {y z : World} (h : NB w x LV PV y) (hb : Below (w.heap.size + 3) y z) : NB w x LV PV z :=
  ⟨h.b0.below hb (by omega), h.b1.below hb (by omega), h.b2.below hb (by omega), h.hb.trans (hb.mono (by omega)), Nat.le_trans h.hs hb.size⟩
theorem NB.up {w : World} {x : Inf} {LV PV : Value} {y z : World} (h : NB w x LV PV y) (hb : Below y.heap.size y z) : NB w x LV PV z := h.step (hb.mono h.hs)
theorem NB.setL {w : World} {x : Inf} {LV PV : Value} {y : World} (h : NB w x LV PV y) (u : Value) : NB w x u PV (y.setCell ⟨w.heap.size + 2, 2, none⟩ u) :=
  ⟨h.b0.far (by show w.heap.size ≠ w.heap.size + 2; omega) u, h.b1.far (by show w.heap.size + 1 ≠ w.heap.size + 2; omega) u, h.b2.set_ 2 u, h.hb.setCell (by show w.heap.size ≤ w.heap.size + 2; omega) u, by have := h.hs; simpa [World.setCell] using this⟩
theorem NB.setP {w : World} {x : Inf} {LV PV : Value} {y : World} (h : NB w x LV PV y) (u : Value) : NB w x LV u (y.setCell ⟨w.heap.size + 2, 6, none⟩ u) :=
  ⟨h.b0.far (by show w.heap.size ≠ w.heap.size + 2; omega) u, h.b1.far (by show w.heap.size + 1 ≠ w.heap.size + 2; omega) u, h.b2.set_ 6 u, h.hb.setCell (by show w.heap.size ≤ w.heap.size + 2; omega) u, by have := h.hs; simpa [World.setCell] using this⟩
theorem mid_set {w : World} {B e size n : Nat} {v : Value} {xs : List Value} {p : Addr} (h : Mid w B e size v n xs) (hp : p.block < B) (u : Value) : Mid (w.setCell p u) B e size v n xs :=
  h.kept fun g hg => Below.heap_setCell w p u g (by have := (h.block g hg).1; omega)

theorem nl_step {w : World} {x : Inf} {g o a : Nat} {l : ByteArray} {LV PV : Value} {y z : World} (hg : g < w.heap.size) (hb : Below (w.heap.size + 3) y z) (h : y.cell? ⟨w.heap.size, 2, none⟩ = some (.slice (some ⟨g, o, none⟩) x.labels.length x.lc) ∧ y.cell? ⟨g, a, none⟩ = some (.string l) ∧ y.cell? ⟨w.heap.size + 2, 2, none⟩ = some LV ∧ y.frozen? ⟨w.heap.size + 2, 2, none⟩ = false ∧ NB w x LV PV y) : z.cell? ⟨w.heap.size, 2, none⟩ = some (.slice (some ⟨g, o, none⟩) x.labels.length x.lc) ∧ z.cell? ⟨g, a, none⟩ = some (.string l) ∧ z.cell? ⟨w.heap.size + 2, 2, none⟩ = some LV ∧ z.frozen? ⟨w.heap.size + 2, 2, none⟩ = false ∧ NB w x LV PV z := by
  obtain ⟨h0, h1, h2, h3, h4⟩ := h
  have h5 := h4.step hb
  exact ⟨below_cell hb (by omega) h0, below_cell hb (by omega) h1, below_cell hb (by omega) h2, h5.b2.frozen 2, h5⟩
theorem nl_drew {w : World} {x : Inf} {g o a : Nat} {l : ByteArray} {LV PV : Value} {y : World} (hg : g < w.heap.size) (h : y.cell? ⟨w.heap.size, 2, none⟩ = some (.slice (some ⟨g, o, none⟩) x.labels.length x.lc) ∧ y.cell? ⟨g, a, none⟩ = some (.string l) ∧ y.cell? ⟨w.heap.size + 2, 2, none⟩ = some LV ∧ y.frozen? ⟨w.heap.size + 2, 2, none⟩ = false ∧ NB w x LV PV y) : y.drew.cell? ⟨w.heap.size, 2, none⟩ = some (.slice (some ⟨g, o, none⟩) x.labels.length x.lc) ∧ y.drew.cell? ⟨g, a, none⟩ = some (.string l) ∧ y.drew.cell? ⟨w.heap.size + 2, 2, none⟩ = some LV ∧ y.drew.frozen? ⟨w.heap.size + 2, 2, none⟩ = false ∧ NB w x LV PV y.drew := nl_step hg (below_drew (Below.refl _ _)) h
theorem nl_alloc {w : World} {x : Inf} {g o a : Nat} {l : ByteArray} {LV PV : Value} {y : World} (hg : g < w.heap.size) (ob : Obj) (h : y.cell? ⟨w.heap.size, 2, none⟩ = some (.slice (some ⟨g, o, none⟩) x.labels.length x.lc) ∧ y.cell? ⟨g, a, none⟩ = some (.string l) ∧ y.cell? ⟨w.heap.size + 2, 2, none⟩ = some LV ∧ y.frozen? ⟨w.heap.size + 2, 2, none⟩ = false ∧ NB w x LV PV y) : (y.alloc ob).cell? ⟨w.heap.size, 2, none⟩ = some (.slice (some ⟨g, o, none⟩) x.labels.length x.lc) ∧ (y.alloc ob).cell? ⟨g, a, none⟩ = some (.string l) ∧ (y.alloc ob).cell? ⟨w.heap.size + 2, 2, none⟩ = some LV ∧ (y.alloc ob).frozen? ⟨w.heap.size + 2, 2, none⟩ = false ∧ NB w x LV PV (y.alloc ob) := nl_step hg ((Below.refl _ _).alloc h.2.2.2.2.hs _) h
theorem nl_grown {w : World} {x : Inf} {g o a : Nat} {l : ByteArray} {LV PV : Value} {y z : World} {row : Option Nat} (hg : g < w.heap.size) (hgr : y.grownBy z row) (hr : ∀ q, row = some q → w.heap.size + 3 ≤ q) (h : y.cell? ⟨w.heap.size, 2, none⟩ = some (.slice (some ⟨g, o, none⟩) x.labels.length x.lc) ∧ y.cell? ⟨g, a, none⟩ = some (.string l) ∧ y.cell? ⟨w.heap.size + 2, 2, none⟩ = some LV ∧ y.frozen? ⟨w.heap.size + 2, 2, none⟩ = false ∧ NB w x LV PV y) : z.cell? ⟨w.heap.size, 2, none⟩ = some (.slice (some ⟨g, o, none⟩) x.labels.length x.lc) ∧ z.cell? ⟨g, a, none⟩ = some (.string l) ∧ z.cell? ⟨w.heap.size + 2, 2, none⟩ = some LV ∧ z.frozen? ⟨w.heap.size + 2, 2, none⟩ = false ∧ NB w x LV PV z := nl_step hg ((Below.refl _ _).grown hgr h.2.2.2.2.hs hr) h
theorem nl_size {w : World} {x : Inf} {g o a : Nat} {l : ByteArray} {LV PV : Value} {y : World} (h : y.cell? ⟨w.heap.size, 2, none⟩ = some (.slice (some ⟨g, o, none⟩) x.labels.length x.lc) ∧ y.cell? ⟨g, a, none⟩ = some (.string l) ∧ y.cell? ⟨w.heap.size + 2, 2, none⟩ = some LV ∧ y.frozen? ⟨w.heap.size + 2, 2, none⟩ = false ∧ NB w x LV PV y) : w.heap.size + 3 ≤ y.heap.size := h.2.2.2.2.hs
theorem np_size {w : World} {x : Inf} {g o a : Nat} {p s : ByteArray} {k n : Int} {LV PV : Value} {y : World} (h : y.cell? ⟨w.heap.size, 6, none⟩ = some (.slice (some ⟨g, o, none⟩) x.props.length x.pc) ∧ y.cell? ⟨g, a, none⟩ = some (.string p) ∧ y.cell? ⟨g, a + 1, none⟩ = some (.int .i64 k) ∧ y.cell? ⟨g, a + 2, none⟩ = some (.int .i64 n) ∧ y.cell? ⟨g, a + 3, none⟩ = some (.string s) ∧ y.cell? ⟨w.heap.size + 2, 6, none⟩ = some PV ∧ y.frozen? ⟨w.heap.size + 2, 6, none⟩ = false ∧ NB w x LV PV y) : w.heap.size + 3 ≤ y.heap.size := h.2.2.2.2.2.2.2.hs
theorem np_step {w : World} {x : Inf} {g o a : Nat} {p s : ByteArray} {k n : Int} {LV PV : Value} {y z : World} (hg : g < w.heap.size) (hb : Below (w.heap.size + 3) y z) (h : y.cell? ⟨w.heap.size, 6, none⟩ = some (.slice (some ⟨g, o, none⟩) x.props.length x.pc) ∧ y.cell? ⟨g, a, none⟩ = some (.string p) ∧ y.cell? ⟨g, a + 1, none⟩ = some (.int .i64 k) ∧ y.cell? ⟨g, a + 2, none⟩ = some (.int .i64 n) ∧ y.cell? ⟨g, a + 3, none⟩ = some (.string s) ∧ y.cell? ⟨w.heap.size + 2, 6, none⟩ = some PV ∧ y.frozen? ⟨w.heap.size + 2, 6, none⟩ = false ∧ NB w x LV PV y) : z.cell? ⟨w.heap.size, 6, none⟩ = some (.slice (some ⟨g, o, none⟩) x.props.length x.pc) ∧ z.cell? ⟨g, a, none⟩ = some (.string p) ∧ z.cell? ⟨g, a + 1, none⟩ = some (.int .i64 k) ∧ z.cell? ⟨g, a + 2, none⟩ = some (.int .i64 n) ∧ z.cell? ⟨g, a + 3, none⟩ = some (.string s) ∧ z.cell? ⟨w.heap.size + 2, 6, none⟩ = some PV ∧ z.frozen? ⟨w.heap.size + 2, 6, none⟩ = false ∧ NB w x LV PV z := by
  obtain ⟨h0, h1, h2, h3, h4, h5, h6, h7⟩ := h
  have h8 := h7.step hb
  exact ⟨below_cell hb (by omega) h0, below_cell hb (by omega) h1, below_cell hb (by omega) h2, below_cell hb (by omega) h3, below_cell hb (by omega) h4, below_cell hb (by omega) h5, h8.b2.frozen 6, h8⟩
theorem np_drew {w : World} {x : Inf} {g o a : Nat} {p s : ByteArray} {k n : Int} {LV PV : Value} {y : World} (hg : g < w.heap.size) (h : y.cell? ⟨w.heap.size, 6, none⟩ = some (.slice (some ⟨g, o, none⟩) x.props.length x.pc) ∧ y.cell? ⟨g, a, none⟩ = some (.string p) ∧ y.cell? ⟨g, a + 1, none⟩ = some (.int .i64 k) ∧ y.cell? ⟨g, a + 2, none⟩ = some (.int .i64 n) ∧ y.cell? ⟨g, a + 3, none⟩ = some (.string s) ∧ y.cell? ⟨w.heap.size + 2, 6, none⟩ = some PV ∧ y.frozen? ⟨w.heap.size + 2, 6, none⟩ = false ∧ NB w x LV PV y) : y.drew.cell? ⟨w.heap.size, 6, none⟩ = some (.slice (some ⟨g, o, none⟩) x.props.length x.pc) ∧ y.drew.cell? ⟨g, a, none⟩ = some (.string p) ∧ y.drew.cell? ⟨g, a + 1, none⟩ = some (.int .i64 k) ∧ y.drew.cell? ⟨g, a + 2, none⟩ = some (.int .i64 n) ∧ y.drew.cell? ⟨g, a + 3, none⟩ = some (.string s) ∧ y.drew.cell? ⟨w.heap.size + 2, 6, none⟩ = some PV ∧ y.drew.frozen? ⟨w.heap.size + 2, 6, none⟩ = false ∧ NB w x LV PV y.drew := np_step hg (below_drew (Below.refl _ _)) h
theorem np_up {w : World} {x : Inf} {g o a : Nat} {p s : ByteArray} {k n : Int} {LV PV : Value} {y z : World} (hg : g < w.heap.size) (hb : Below y.heap.size y z) (h : y.cell? ⟨w.heap.size, 6, none⟩ = some (.slice (some ⟨g, o, none⟩) x.props.length x.pc) ∧ y.cell? ⟨g, a, none⟩ = some (.string p) ∧ y.cell? ⟨g, a + 1, none⟩ = some (.int .i64 k) ∧ y.cell? ⟨g, a + 2, none⟩ = some (.int .i64 n) ∧ y.cell? ⟨g, a + 3, none⟩ = some (.string s) ∧ y.cell? ⟨w.heap.size + 2, 6, none⟩ = some PV ∧ y.frozen? ⟨w.heap.size + 2, 6, none⟩ = false ∧ NB w x LV PV y) : z.cell? ⟨w.heap.size, 6, none⟩ = some (.slice (some ⟨g, o, none⟩) x.props.length x.pc) ∧ z.cell? ⟨g, a, none⟩ = some (.string p) ∧ z.cell? ⟨g, a + 1, none⟩ = some (.int .i64 k) ∧ z.cell? ⟨g, a + 2, none⟩ = some (.int .i64 n) ∧ z.cell? ⟨g, a + 3, none⟩ = some (.string s) ∧ z.cell? ⟨w.heap.size + 2, 6, none⟩ = some PV ∧ z.frozen? ⟨w.heap.size + 2, 6, none⟩ = false ∧ NB w x LV PV z := np_step hg (hb.mono h.2.2.2.2.2.2.2.hs) h
theorem np_alloc {w : World} {x : Inf} {g o a : Nat} {p s : ByteArray} {k n : Int} {LV PV : Value} {y : World} (hg : g < w.heap.size) (ob : Obj) (h : y.cell? ⟨w.heap.size, 6, none⟩ = some (.slice (some ⟨g, o, none⟩) x.props.length x.pc) ∧ y.cell? ⟨g, a, none⟩ = some (.string p) ∧ y.cell? ⟨g, a + 1, none⟩ = some (.int .i64 k) ∧ y.cell? ⟨g, a + 2, none⟩ = some (.int .i64 n) ∧ y.cell? ⟨g, a + 3, none⟩ = some (.string s) ∧ y.cell? ⟨w.heap.size + 2, 6, none⟩ = some PV ∧ y.frozen? ⟨w.heap.size + 2, 6, none⟩ = false ∧ NB w x LV PV y) : (y.alloc ob).cell? ⟨w.heap.size, 6, none⟩ = some (.slice (some ⟨g, o, none⟩) x.props.length x.pc) ∧ (y.alloc ob).cell? ⟨g, a, none⟩ = some (.string p) ∧ (y.alloc ob).cell? ⟨g, a + 1, none⟩ = some (.int .i64 k) ∧ (y.alloc ob).cell? ⟨g, a + 2, none⟩ = some (.int .i64 n) ∧ (y.alloc ob).cell? ⟨g, a + 3, none⟩ = some (.string s) ∧ (y.alloc ob).cell? ⟨w.heap.size + 2, 6, none⟩ = some PV ∧ (y.alloc ob).frozen? ⟨w.heap.size + 2, 6, none⟩ = false ∧ NB w x LV PV (y.alloc ob) := np_step hg ((Below.refl _ _).alloc h.2.2.2.2.2.2.2.hs _) h
theorem np_grown {w : World} {x : Inf} {g o a : Nat} {p s : ByteArray} {k n : Int} {LV PV : Value} {y z : World} {row : Option Nat} (hg : g < w.heap.size) (hgr : y.grownBy z row) (hr : ∀ q, row = some q → w.heap.size + 3 ≤ q) (h : y.cell? ⟨w.heap.size, 6, none⟩ = some (.slice (some ⟨g, o, none⟩) x.props.length x.pc) ∧ y.cell? ⟨g, a, none⟩ = some (.string p) ∧ y.cell? ⟨g, a + 1, none⟩ = some (.int .i64 k) ∧ y.cell? ⟨g, a + 2, none⟩ = some (.int .i64 n) ∧ y.cell? ⟨g, a + 3, none⟩ = some (.string s) ∧ y.cell? ⟨w.heap.size + 2, 6, none⟩ = some PV ∧ y.frozen? ⟨w.heap.size + 2, 6, none⟩ = false ∧ NB w x LV PV y) : z.cell? ⟨w.heap.size, 6, none⟩ = some (.slice (some ⟨g, o, none⟩) x.props.length x.pc) ∧ z.cell? ⟨g, a, none⟩ = some (.string p) ∧ z.cell? ⟨g, a + 1, none⟩ = some (.int .i64 k) ∧ z.cell? ⟨g, a + 2, none⟩ = some (.int .i64 n) ∧ z.cell? ⟨g, a + 3, none⟩ = some (.string s) ∧ z.cell? ⟨w.heap.size + 2, 6, none⟩ = some PV ∧ z.frozen? ⟨w.heap.size + 2, 6, none⟩ = false ∧ NB w x LV PV z := np_step hg ((Below.refl _ _).grown hgr h.2.2.2.2.2.2.2.hs hr) h
theorem nh_step {w : World} {x : Inf} {y z : World} (hb : Below y.heap.size y z) (h : y.cell? ⟨w.heap.size, 0, none⟩ = some (.int .u64 (x.id : Int)) ∧ y.cell? ⟨w.heap.size, 1, none⟩ = some (.bool x.edge) ∧ y.cell? ⟨w.heap.size, 3, none⟩ = some (.string x.ty) ∧ y.cell? ⟨w.heap.size, 4, none⟩ = some (.int .u64 (x.fr : Int)) ∧ y.cell? ⟨w.heap.size, 5, none⟩ = some (.int .u64 (x.tw : Int)) ∧ w.heap.size + 2 ≤ y.heap.size) : z.cell? ⟨w.heap.size, 0, none⟩ = some (.int .u64 (x.id : Int)) ∧ z.cell? ⟨w.heap.size, 1, none⟩ = some (.bool x.edge) ∧ z.cell? ⟨w.heap.size, 3, none⟩ = some (.string x.ty) ∧ z.cell? ⟨w.heap.size, 4, none⟩ = some (.int .u64 (x.fr : Int)) ∧ z.cell? ⟨w.heap.size, 5, none⟩ = some (.int .u64 (x.tw : Int)) ∧ w.heap.size + 2 ≤ z.heap.size := by
  obtain ⟨h0, h1, h3, h4, h5, hs⟩ := h
  have hg : w.heap.size < y.heap.size := by omega
  exact ⟨below_cell hb hg h0, below_cell hb hg h1, below_cell hb hg h3, below_cell hb hg h4, below_cell hb hg h5, Nat.le_trans hs hb.size⟩
theorem nh_drew {w : World} {x : Inf} {y : World} (h : y.cell? ⟨w.heap.size, 0, none⟩ = some (.int .u64 (x.id : Int)) ∧ y.cell? ⟨w.heap.size, 1, none⟩ = some (.bool x.edge) ∧ y.cell? ⟨w.heap.size, 3, none⟩ = some (.string x.ty) ∧ y.cell? ⟨w.heap.size, 4, none⟩ = some (.int .u64 (x.fr : Int)) ∧ y.cell? ⟨w.heap.size, 5, none⟩ = some (.int .u64 (x.tw : Int)) ∧ w.heap.size + 2 ≤ y.heap.size) : y.drew.cell? ⟨w.heap.size, 0, none⟩ = some (.int .u64 (x.id : Int)) ∧ y.drew.cell? ⟨w.heap.size, 1, none⟩ = some (.bool x.edge) ∧ y.drew.cell? ⟨w.heap.size, 3, none⟩ = some (.string x.ty) ∧ y.drew.cell? ⟨w.heap.size, 4, none⟩ = some (.int .u64 (x.fr : Int)) ∧ y.drew.cell? ⟨w.heap.size, 5, none⟩ = some (.int .u64 (x.tw : Int)) ∧ w.heap.size + 2 ≤ y.drew.heap.size := nh_step (below_drew (Below.refl _ _)) h
theorem nh_alloc {w : World} {x : Inf} {y : World} {o : Obj} (h : y.cell? ⟨w.heap.size, 0, none⟩ = some (.int .u64 (x.id : Int)) ∧ y.cell? ⟨w.heap.size, 1, none⟩ = some (.bool x.edge) ∧ y.cell? ⟨w.heap.size, 3, none⟩ = some (.string x.ty) ∧ y.cell? ⟨w.heap.size, 4, none⟩ = some (.int .u64 (x.fr : Int)) ∧ y.cell? ⟨w.heap.size, 5, none⟩ = some (.int .u64 (x.tw : Int)) ∧ w.heap.size + 2 ≤ y.heap.size) : (y.alloc o).cell? ⟨w.heap.size, 0, none⟩ = some (.int .u64 (x.id : Int)) ∧ (y.alloc o).cell? ⟨w.heap.size, 1, none⟩ = some (.bool x.edge) ∧ (y.alloc o).cell? ⟨w.heap.size, 3, none⟩ = some (.string x.ty) ∧ (y.alloc o).cell? ⟨w.heap.size, 4, none⟩ = some (.int .u64 (x.fr : Int)) ∧ (y.alloc o).cell? ⟨w.heap.size, 5, none⟩ = some (.int .u64 (x.tw : Int)) ∧ w.heap.size + 2 ≤ (y.alloc o).heap.size := nh_step ((Below.refl _ _).alloc (Nat.le_refl _) _) h

theorem mid_grown {w w' : World} {B1 B2 e1 e2 s1 s2 n1 n2 : Nat} {v1 v2 : Value} {xs1 xs2 : List Value} (h1 : Mid w B1 e1 s1 v1 n1 xs1) (h2 : Mid w B2 e2 s2 v2 n2 xs2) (hne : e1 ≠ e2) (hg : w.grownBy w' v2.ownBlock) : Mid w' B1 e1 s1 v1 n1 xs1 :=
  h1.kept fun g hg1 => by
    obtain ⟨_, c1, hc1⟩ := h1.block g hg1
    refine hg.block g hc1.lt (fun e => ?_)
    obtain ⟨_, c2, hc2⟩ := h2.block g e.symm
    exact Blk.ne_ hc1 hc2 hne rfl
theorem mid_up {w w' : World} {B e s n : Nat} {v : Value} {xs : List Value} (h : Mid w B e s v n xs) (hb : Below w.heap.size w w') : Mid w' B e s v n xs := h.only (Only.of_below hb []) (by simp)
theorem row_four (w : World) (a b c d : Value) (t : TypeId) : Row (w.alloc (.cells #[a, b, c, d] t)) (some ⟨w.heap.size, 0, none⟩) [a, b, c, d] := fun _ => ⟨_, rfl, fun j v hj => by
  have hb : Blk (w.alloc (.cells #[a, b, c, d] t)) w.heap.size t #[a, b, c, d] := Blk.new _ _ _
  rw [add_at, hb.cell, ← Array.getElem?_toList, Nat.zero_add]
  exact hj⟩
theorem info59 : (Tryd.prog.info? 59).map (fun i => (i.zero, i.size, i.bytes)) = some (some (.agg #[.string ⟨#[]⟩, .int .i64 0, .int .i64 0, .string ⟨#[]⟩]), 4, 48) := by kernel_rfl
theorem blk_new1 (w : World) (ob : Obj) (t : TypeId) (cs : Array Value) : Blk ((w.alloc ob).alloc (.cells cs t)) (w.heap.size + 1) t cs := by
  have h := Blk.new (w.alloc ob) t cs
  rwa [show (w.alloc ob).heap.size = w.heap.size + 1 by simp] at h
/-- A thing, cut, at other places. -/
def Inf.near (x : Inf) (LA PA : Option Addr) (lc pc : Nat) : Inf := ⟨x.id, x.fr, x.tw, x.edge, cut10 x.ty, (x.labels.take 4).map cut10, (x.props.take 4).map Pr.near, LA, PA, lc, pc⟩
/-- What near hands back: a thing of slices of its own. -/
def NearPost (x : Inf) (w : World) (e : Ending) (w' : World) : Prop :=
  ∃ LA PA lc pc, e = .returned (.agg (x.near LA PA lc pc).cells) ∧ Below w.heap.size w w' ∧
    Mid w' w.heap.size 9 1 (.slice LA (x.near LA PA lc pc).labels.length lc) (x.near LA PA lc pc).labels.length ((x.near LA PA lc pc).labels.map Value.string) ∧
    Mid w' w.heap.size 59 4 (.slice PA (x.near LA PA lc pc).props.length pc) (x.near LA PA lc pc).props.length ((x.near LA PA lc pc).props.flatMap Pr.cs)
set_option maxHeartbeats 2000000 in
set_option maxRecDepth 10000 in
theorem near_info (x : Inf) (w : World) (hx : x.wide w) :
    Calls Tryd.prog 13 #[.agg x.cells] w (NearPost x w) := by
  obtain ⟨i0, hi0, hz0, hz1, hz2⟩ := info_parts info9
  obtain ⟨i1, hi1, hy0, hy1, hy2⟩ := info_parts info59
  obtain ⟨m, hm⟩ : ∃ m : Nat, m = min x.ty.size 10 := ⟨_, rfl⟩
  have hmin : min (x.ty.size : Int) 10 = (m : Int) := by omega
  have hE := fun w => slice_to (s := x.ty) (k := m) (by omega) w
  have hc : x.ty.extract 0 m = cut10 x.ty := by rw [hm]; rfl
  rw [hc] at hE
  have HX := Lib.hid hx
  have HC : Hid (x.cells = #[.int .u64 (x.id : Int), .bool x.edge, .slice x.LA x.labels.length x.lc, .string x.ty, .int .u64 (x.fr : Int), .int .u64 (x.tw : Int), .slice x.PA x.props.length x.pc]) := rfl
  clear hm hc hx
  unfold Inf.cells
  go_enter Tryd.func13, Tryd.ntmps13
  go_wp2_with fail
  have HB0 := Lib.hid ((Blk.new w 43 x.cells).alloc (.cells #[.int .u64 0, .bool false, .slice none 0 0, .string ⟨#[]⟩, .int .u64 0, .int .u64 0, .slice none 0 0] 43))
  have HB1 := Lib.hid (blk_new1 w (.cells x.cells 43) 43 #[.int .u64 0, .bool false, .slice none 0 0, .string ⟨#[]⟩, .int .u64 0, .int .u64 0, .slice none 0 0])
  have HBB := Lib.hid (((Below.refl w.heap.size w).alloc (Nat.le_refl _) (.cells x.cells 43)).alloc (by simp) (.cells #[.int .u64 0, .bool false, .slice none 0 0, .string ⟨#[]⟩, .int .u64 0, .int .u64 0, .slice none 0 0] 43))
  rw [HC.out] at HB0 HB1 HBB
  have HZ : Hid (((w.alloc (.cells #[.int .u64 (x.id : Int), .bool x.edge, .slice x.LA x.labels.length x.lc, .string x.ty, .int .u64 (x.fr : Int), .int .u64 (x.tw : Int), .slice x.PA x.props.length x.pc] 43)).alloc (.cells #[.int .u64 0, .bool false, .slice none 0 0, .string ⟨#[]⟩, .int .u64 0, .int .u64 0, .slice none 0 0] 43)).heap.size = w.heap.size + 2) := by show _ = _; simp
  generalize (w.alloc (.cells #[.int .u64 (x.id : Int), .bool x.edge, .slice x.LA x.labels.length x.lc, .string x.ty, .int .u64 (x.fr : Int), .int .u64 (x.tw : Int), .slice x.PA x.props.length x.pc] 43)).alloc (.cells #[.int .u64 0, .bool false, .slice none 0 0, .string ⟨#[]⟩, .int .u64 0, .int .u64 0, .slice none 0 0] 43) = w0 at *
  have HSS : (w0.cell? ⟨w.heap.size, 0, none⟩ = some (.int .u64 (x.id : Int)) ∧ w0.cell? ⟨w.heap.size, 1, none⟩ = some (.bool x.edge) ∧ w0.cell? ⟨w.heap.size, 3, none⟩ = some (.string x.ty) ∧ w0.cell? ⟨w.heap.size, 4, none⟩ = some (.int .u64 (x.fr : Int)) ∧ w0.cell? ⟨w.heap.size, 5, none⟩ = some (.int .u64 (x.tw : Int)) ∧ w.heap.size + 2 ≤ w0.heap.size) := ⟨HB0.out.cell 0, HB0.out.cell 1, HB0.out.cell 3, HB0.out.cell 4, HB0.out.cell 5, by rw [HZ.out]; exact Nat.le_refl _⟩
  go_cut [3] (fun v wc => v = .pointer (some ⟨w.heap.size + 2, 0, none⟩) ∧ NB w x (.slice none 0 0) (.slice none 0 0) wc)
  case first =>
    go_region_held3 (fun w' => w'.cell? ⟨w.heap.size, 0, none⟩ = some (.int .u64 (x.id : Int)) ∧ w'.cell? ⟨w.heap.size, 1, none⟩ = some (.bool x.edge) ∧ w'.cell? ⟨w.heap.size, 3, none⟩ = some (.string x.ty) ∧ w'.cell? ⟨w.heap.size, 4, none⟩ = some (.int .u64 (x.fr : Int)) ∧ w'.cell? ⟨w.heap.size, 5, none⟩ = some (.int .u64 (x.tw : Int)) ∧ w.heap.size + 2 ≤ w'.heap.size) (first | assumption | (apply nh_drew; assumption) | (apply nh_drew; apply nh_alloc; assumption) | (apply nh_alloc; assumption) | go_keep) (first | (go_at_call 15; skip))
    all_goals
      go_wp2_with fail
      go_meet
      refine ⟨by rw [HZ.out], (HB0.out.alloc _).drew, (HB1.out.alloc _).drew, ?_, below_drew (HBB.out.alloc (by rw [HZ.out]; omega) _), by simp [HZ.out]⟩
      have hn := Blk.new w0 43 #[.int .u64 (x.id : Int), .bool x.edge, .slice none 0 0, .string (cut10 x.ty), .int .u64 (x.fr : Int), .int .u64 (x.tw : Int), .slice none 0 0]
      rw [HZ.out] at hn
      exact hn.drew
  case rest =>
    obtain ⟨rfl, hnb⟩ := hcut
    have HNB := Lib.hid hnb
    clear hnb HB0 HB1 HBB HSS HZ hE hmin
    go_upto_block 0 with fail
    go_cut [4] (fun v wc => ∃ LV, NB w x LV (.slice none 0 0) wc ∧ Mid wc (w.heap.size + 3) 9 1 LV (x.labels.take 4).length (((x.labels.take 4).map cut10).map Value.string))
    case first =>
      have c2 : wc.cell? ⟨w.heap.size, 2, none⟩ = some (.slice x.LA x.labels.length x.lc) := HNB.out.b0.cell 2
      go_wp2_with fail
      go_loopg [4] (4 : Nat) (fun q i wr => ∃ (j : Nat) (LV : Value), q + j = 4 ∧ j ≤ x.labels.length ∧ i = .int .i64 (j : Int) ∧ NB w x LV (.slice none 0 0) wr ∧ Mid wr (w.heap.size + 3) 9 1 LV j ((x.labels.take j).map fun l => Value.string (cut10 l)))
      case atStart => exact ⟨0, _, rfl, Nat.zero_le _, rfl, HNB.out, Mid.nil _ _ _ _⟩
      case round =>
        obtain ⟨j, LV, hj, hjn, rfl, hnb, hm⟩ := hrel
        have HN := Lib.hid hnb
        have HM := Lib.hid hm
        have c2 : wr.cell? ⟨w.heap.size, 2, none⟩ = some (.slice x.LA x.labels.length x.lc) := hnb.b0.cell 2
        have hnl := HX.out.nl
        clear hnb hm
        by_cases hlt : j < x.labels.length ∧ j < 4
        · obtain ⟨h1, h2⟩ := hlt
          rcases HX.out.rs with h0 | ⟨g, o, eA, hg, hl⟩
          · exact absurd h1 (by rw [h0]; simp)
          have c3 := below_cell HN.out.hb hg (hl j h1)
          have c4 : wr.cell? ⟨w.heap.size + 2, 2, none⟩ = some LV := HN.out.b2.cell 2
          have HS := Lib.hid (map_take (fun l => Value.string (cut10 l)) x.labels j h1)
          have HL := Lib.hid (HX.out.lab _ (List.getElem_mem h1))
          clear hl
          generalize x.labels[j] = l at *
          obtain ⟨m, hm⟩ : ∃ m : Nat, m = min l.size 10 := ⟨_, rfl⟩
          have hmin : min (l.size : Int) 10 = (m : Int) := by omega
          have hE := fun w => slice_to (s := l) (k := m) (by omega) w
          have hc : l.extract 0 m = cut10 l := by rw [hm]; rfl
          rw [hc] at hE
          have hlz := HL.out
          clear hm hc
          generalize cut10 l = T at *
          rw [eA] at c2
          have HEA := Lib.hid eA
          clear eA
          have HOB : Hid (∀ q, LV.ownBlock = some q → w.heap.size + 3 ≤ q) := fun q hq => (HM.out.block q hq).1
          go_upto_block 1 with fail
          have HSS : wr.cell? ⟨w.heap.size, 2, none⟩ = some (.slice (some ⟨g, o, none⟩) x.labels.length x.lc) ∧ wr.cell? ⟨g, o + j, none⟩ = some (.string l) ∧ wr.cell? ⟨w.heap.size + 2, 2, none⟩ = some LV ∧ wr.frozen? ⟨w.heap.size + 2, 2, none⟩ = false ∧ NB w x LV (.slice none 0 0) wr := ⟨c2, c3, c4, HN.out.b2.frozen 2, HN.out⟩
          clear c2 c3 c4
          go_cut [49] (fun v wc => ∃ LV', NB w x LV' (.slice none 0 0) wc ∧ Mid wc (w.heap.size + 3) 9 1 LV' (j + 1) ((x.labels.take (j + 1)).map fun l => Value.string (cut10 l)))
          case first =>
            go_wp2_with fail
            refine wp_region_held_tail (fun w' => w'.cell? ⟨w.heap.size, 2, none⟩ = some (.slice (some ⟨g, o, none⟩) x.labels.length x.lc) ∧ w'.cell? ⟨g, o + j, none⟩ = some (.string l) ∧ w'.cell? ⟨w.heap.size + 2, 2, none⟩ = some LV ∧ w'.frozen? ⟨w.heap.size + 2, 2, none⟩ = false ∧ NB w x LV (.slice none 0 0) w') 15 16 (by kernel_rfl) (by kernel_rfl) (nl_drew hg HSS) ?_
            simp only [List.take_succ_cons, List.take_zero, List.drop_succ_cons, List.drop_zero]
            repeat
              refine take_step (v := ?_) rfl ?_ ?_
              rotate_left
              · (intro w hSw; (try dsimp only at hSw); go_simp; try with_reducible rfl)
              simp only [Act.put, List.setIfInBounds_toArray, List.set_cons_zero, List.set_cons_succ]
            refine take_nil ?_
            refine mid_step rfl (fun K hK => ?_)
            go_simp
            refine hK.out _ _ (nl_drew hg (nl_alloc hg _ HSS)) ?_
            clear hK K
            try simp only [Act.put, List.setIfInBounds_toArray, List.set_cons_zero, List.set_cons_succ]
            refine mid_nil ?_
            have hK := nl_drew hg (nl_alloc hg (.cells #[.string T] 9) HSS)
            obtain ⟨e2, e3⟩ : ((wr.alloc (.cells #[.string T] 9)).drew.cell? ⟨w.heap.size + 2, 2, none⟩ = some LV) ∧ ((wr.alloc (.cells #[.string T] 9)).drew.frozen? ⟨w.heap.size + 2, 2, none⟩ = false) := ⟨hK.2.2.1, hK.2.2.2.1⟩
            have HK := Lib.hid hK
            clear hK HSS
            go_wp2_with (refine wpList_append_mid _ rfl (.tmp 34) (.tmp 48) 40 rfl (w.heap.size + 3) 9 i0 _ 1 16 Tryd.underlying40 hi0 hz0 hz1 hz2 rfl (by decide) LV j _ (by rfl) (HM.out.alloc _).drew (some ⟨wr.heap.size, 0, none⟩) 1 1 [.string T] (by rfl) rfl (row_one _ _ _) (by simp [Value.oneCell']) (by simp only [maxLen]; omega) (by omega) (nl_size HK.out) ?_; intro v1 w2 hm1 hg1 ho1; obtain ⟨A1, k1, rfl, hnc1, hcm1, _⟩ := hm1.form; have hK2 := nl_grown hg hg1 HOB.out HK.out; have d2 := hK2.2.2.1; have d3 := hK2.2.2.2.1; have HK2 := Lib.hid hK2; have HM1 := Lib.hid hm1; clear hK2 hm1 hg1 ho1 e2 e3)
            refine NoPanic.normal ?_
            go_wp2_with fail
            go_meet
            refine ⟨_, HK2.out.2.2.2.2.setL _, ?_⟩
            rw [HS.out]
            exact mid_set HM1.out (by show w.heap.size + 2 < w.heap.size + 3; omega) _
          case rest =>
            obtain ⟨LV', hnb, hm⟩ := hcut
            have HN' := Lib.hid hnb
            have HM' := Lib.hid hm
            clear hnb hm HN HM HS HSS hE hmin
            go_wp2_with fail
            go_roundg (gk - 1)
            case measure => omega
            case rel => exact ⟨j + 1, LV', by omega, by omega, by go_num, HN'.out, HM'.out⟩
        · by_cases h1 : j < x.labels.length
          · have h2 : ¬ j < 4 := fun h => hlt ⟨h1, h⟩
            go_wp2_with fail
            go_meet
            obtain rfl : j = 4 := by omega
            refine ⟨LV, HN.out, ?_⟩
            have hm := HM.out
            rw [List.map_map, List.length_take, Nat.min_eq_left (by omega)]
            exact hm
          · go_wp2_with fail
            go_meet
            refine ⟨LV, HN.out, ?_⟩
            have hm := HM.out
            obtain rfl : j = x.labels.length := by omega
            rw [List.take_of_length_le (Nat.le_refl _)] at hm
            rw [List.map_map, List.take_of_length_le (by omega)]
            exact hm
    case rest =>
      obtain ⟨LV, hnb, hm⟩ := hcut
      have HN := Lib.hid hnb
      have HML := Lib.hid hm
      clear hnb hm HNB
      go_upto_block 2 with fail
      go_cut [5] (fun v wc => ∃ PV, NB w x LV PV wc ∧ Mid wc (w.heap.size + 3) 9 1 LV (x.labels.take 4).length (((x.labels.take 4).map cut10).map Value.string) ∧ Mid wc (w.heap.size + 3) 59 4 PV (x.props.take 4).length (((x.props.take 4).map Pr.near).flatMap Pr.cs))
      case first =>
        have c6 : wc.cell? ⟨w.heap.size, 6, none⟩ = some (.slice x.PA x.props.length x.pc) := HN.out.b0.cell 6
        go_wp2_with fail
        go_loopg [5] (4 : Nat) (fun q i wr => ∃ (j : Nat) (PV : Value), q + j = 4 ∧ j ≤ x.props.length ∧ i = .int .i64 (j : Int) ∧ NB w x LV PV wr ∧ Mid wr (w.heap.size + 3) 9 1 LV (x.labels.take 4).length (((x.labels.take 4).map cut10).map Value.string) ∧ Mid wr (w.heap.size + 3) 59 4 PV j (((x.props.take j).map Pr.near).flatMap Pr.cs))
        case atStart => exact ⟨0, _, rfl, Nat.zero_le _, rfl, HN.out, HML.out, Mid.nil _ _ _ _⟩
        case round =>
          obtain ⟨j, PV, hj, hjn, rfl, hnb, hml, hm⟩ := hrel
          have HO := Lib.hid hnb
          have HL := Lib.hid hml
          have HM := Lib.hid hm
          have c6 : wr.cell? ⟨w.heap.size, 6, none⟩ = some (.slice x.PA x.props.length x.pc) := hnb.b0.cell 6
          have hnp := HX.out.np
          clear hnb hm hml HN HML
          by_cases hlt : j < x.props.length ∧ j < 4
          · obtain ⟨h1, h2⟩ := hlt
            rcases HX.out.rp with h0 | ⟨g, o, eA, hg, hl⟩
            · exact absurd h1 (by rw [h0]; simp)
            obtain ⟨d0, d1, d2, d3⟩ := hl j h1
            have e0 := below_cell HO.out.hb hg d0
            have e1 := below_cell HO.out.hb hg d1
            have e2 := below_cell HO.out.hb hg d2
            have e3 := below_cell HO.out.hb hg d3
            have c4 : wr.cell? ⟨w.heap.size + 2, 6, none⟩ = some PV := HO.out.b2.cell 6
            have HS : Hid (((x.props.take (j + 1)).map Pr.near).flatMap Pr.cs = ((x.props.take j).map Pr.near).flatMap Pr.cs ++ (x.props[j]).near.cs) := by
              show _ = _
              rw [map_take Pr.near x.props j h1, List.flatMap_append]
              simp
            obtain ⟨hlz, hvo⟩ := HX.out.pr _ (List.getElem_mem h1)
            clear hl d0 d1 d2 d3
            generalize x.props[j] = p at *
            obtain ⟨p, v⟩ := p
            simp only at e0 e1 e2 e3 hlz hvo
            have HV := Lib.hid (fun w => near_val v hvo w)
            obtain ⟨m, hm⟩ : ∃ m : Nat, m = min p.size 10 := ⟨_, rfl⟩
            have hmin : min (p.size : Int) 10 = (m : Int) := by omega
            have hE := fun w => slice_to (s := p) (k := m) (by omega) w
            have hc : p.extract 0 m = cut10 p := by rw [hm]; rfl
            rw [hc] at hE
            have HS2 : Hid ((Pr.mk p v).near.cs = [.string (cut10 p), .int .i64 v.near.k, .int .i64 v.near.n, .string v.near.s]) := rfl
            clear hm hc hvo
            generalize cut10 p = T at *
            generalize v.near = nv at *
            obtain ⟨k, n, s⟩ := v
            obtain ⟨k', n', s'⟩ := nv
            simp only at e1 e2 e3 HS2
            unfold Vl.val at HV
            simp only at HV
            rw [eA] at c6
            have HEA := Lib.hid eA
            clear eA
            have HOB : Hid (∀ q, PV.ownBlock = some q → w.heap.size + 3 ≤ q) := fun q hq => (HM.out.block q hq).1
            go_upto_block 3 with fail
            have HSS := (⟨c6, e0, e1, e2, e3, c4, HO.out.b2.frozen 6, HO.out⟩ : wr.cell? ⟨w.heap.size, 6, none⟩ = some (.slice (some ⟨g, o, none⟩) x.props.length x.pc) ∧ wr.cell? ⟨g, o + j * 4, none⟩ = some (.string p) ∧ wr.cell? ⟨g, o + j * 4 + 1, none⟩ = some (.int .i64 k) ∧ wr.cell? ⟨g, o + j * 4 + 2, none⟩ = some (.int .i64 n) ∧ wr.cell? ⟨g, o + j * 4 + 3, none⟩ = some (.string s) ∧ wr.cell? ⟨w.heap.size + 2, 6, none⟩ = some PV ∧ wr.frozen? ⟨w.heap.size + 2, 6, none⟩ = false ∧ NB w x LV PV wr)
            clear c6 e0 e1 e2 e3 c4
            go_cut [88] (fun v wc => ∃ PV', NB w x LV PV' wc ∧ Mid wc (w.heap.size + 3) 9 1 LV (x.labels.take 4).length (((x.labels.take 4).map cut10).map Value.string) ∧ Mid wc (w.heap.size + 3) 59 4 PV' (j + 1) (((x.props.take (j + 1)).map Pr.near).flatMap Pr.cs))
            case first =>
              go_wp2_with fail
              refine wp_region_held_tail (fun w' => w'.cell? ⟨w.heap.size, 6, none⟩ = some (.slice (some ⟨g, o, none⟩) x.props.length x.pc) ∧ w'.cell? ⟨g, o + j * 4, none⟩ = some (.string p) ∧ w'.cell? ⟨g, o + j * 4 + 1, none⟩ = some (.int .i64 k) ∧ w'.cell? ⟨g, o + j * 4 + 2, none⟩ = some (.int .i64 n) ∧ w'.cell? ⟨g, o + j * 4 + 3, none⟩ = some (.string s) ∧ w'.cell? ⟨w.heap.size + 2, 6, none⟩ = some PV ∧ w'.frozen? ⟨w.heap.size + 2, 6, none⟩ = false ∧ NB w x LV PV w') 23 26 (by kernel_rfl) (by kernel_rfl) (np_drew hg HSS) ?_
              simp only [List.take_succ_cons, List.take_zero, List.drop_succ_cons, List.drop_zero]
              repeat
                refine take_step (v := ?_) rfl ?_ ?_
                rotate_left
                · (intro w hSw; (try dsimp only at hSw); go_simp; try with_reducible rfl)
                simp only [Act.put, List.setIfInBounds_toArray, List.set_cons_zero, List.set_cons_succ]
              refine take_nil ?_
              refine mid_step rfl (fun K hK => ?_)
              go_simp
              refine (HV.out _).mono ?_
              rintro e w1 ⟨rfl, hb⟩
              have HSS1 := np_up hg hb (np_drew hg HSS)
              have HML1 := Lib.hid (mid_up HL.out.drew hb)
              have HM1 := Lib.hid (mid_up HM.out.drew hb)
              refine hK.out _ _ HSS1 ?_
              clear hK K HSS hb
              try simp only [Act.put, List.setIfInBounds_toArray, List.set_cons_zero, List.set_cons_succ]
              refine mid_step rfl (fun K hK => ?_)
              go_simp
              refine hK.out _ _ HSS1 ?_
              clear hK K
              try simp only [Act.put, List.setIfInBounds_toArray, List.set_cons_zero, List.set_cons_succ]
              refine mid_step rfl (fun K hK => ?_)
              go_simp
              refine hK.out _ _ (np_alloc hg _ HSS1) ?_
              clear hK K
              try simp only [Act.put, List.setIfInBounds_toArray, List.set_cons_zero, List.set_cons_succ]
              refine mid_nil ?_
              have HK := Lib.hid (np_alloc hg (.cells #[.string T, .int .i64 k', .int .i64 n', .string s'] 59) HSS1)
              have q2 := HK.out.2.2.2.2.2.1
              have q3 := HK.out.2.2.2.2.2.2.1
              clear HSS1
              go_wp2_with (refine wpList_append_mid _ rfl (.tmp 63) (.tmp 87) 41 rfl (w.heap.size + 3) 59 i1 _ 4 48 Tryd.underlying41 hi1 hy0 hy1 hy2 rfl (by decide) PV j _ (by rfl) (HM1.out.alloc _) (some ⟨w1.heap.size, 0, none⟩) 1 1 [.string T, .int .i64 k', .int .i64 n', .string s'] (by rfl) rfl (row_four _ _ _ _ _ _) (by simp [Value.oneCell']) (by simp only [maxLen]; omega) (by omega) (np_size HK.out) ?_; intro v1 w2 hm1 hg1 ho1; have HML2 := Lib.hid (mid_grown (HML1.out.alloc _) (HM1.out.alloc _) (by decide) hg1); obtain ⟨A1, k1, rfl, hnc1, hcm1, _⟩ := hm1.form; have hK2 := np_grown hg hg1 HOB.out HK.out; have d2 := hK2.2.2.2.2.2.1; have d3 := hK2.2.2.2.2.2.2.1; have HK2 := Lib.hid hK2; have HM2 := Lib.hid hm1; clear hK2 hm1 hg1 ho1 q2 q3)
              refine NoPanic.normal ?_
              go_wp2_with fail
              go_meet
              refine ⟨_, HK2.out.2.2.2.2.2.2.2.setP _, mid_set HML2.out (by show w.heap.size + 2 < w.heap.size + 3; omega) _, ?_⟩
              rw [HS.out, HS2.out]
              exact mid_set HM2.out (by show w.heap.size + 2 < w.heap.size + 3; omega) _
            case rest =>
              obtain ⟨PV', hnb, hml, hm⟩ := hcut
              have HN' := Lib.hid hnb
              have HL' := Lib.hid hml
              have HM' := Lib.hid hm
              clear hnb hm hml HO HL HM HS HSS hE hmin
              go_wp2_with fail
              go_roundg (gk - 1)
              case measure => omega
              case rel => exact ⟨j + 1, PV', by omega, by omega, by go_num, HN'.out, HL'.out, HM'.out⟩
          · by_cases h1 : j < x.props.length
            · have h2 : ¬ j < 4 := fun h => hlt ⟨h1, h⟩
              go_wp2_with fail
              go_meet
              obtain rfl : j = 4 := by omega
              refine ⟨PV, HO.out, HL.out, ?_⟩
              have hm := HM.out
              rw [List.length_take, Nat.min_eq_left (by omega)]
              exact hm
            · go_wp2_with fail
              go_meet
              refine ⟨PV, HO.out, HL.out, ?_⟩
              have hm := HM.out
              obtain rfl : j = x.props.length := by omega
              rw [List.take_of_length_le (Nat.le_refl _)] at hm
              rw [List.take_of_length_le (by omega)]
              exact hm
      case rest =>
        obtain ⟨PV, hnb, hml, hm⟩ := hcut
        obtain ⟨LA, lc, rfl, _, _, _⟩ := hml.form
        obtain ⟨PA, pc, rfl, _, _, _⟩ := hm.form
        have HN' := Lib.hid hnb
        have HL' := Lib.hid hml
        have HM' := Lib.hid hm
        have k0 : wc.cell? ⟨w.heap.size + 2, 0, none⟩ = some (.int .u64 (x.id : Int)) := hnb.b2.cell 0
        have k1 : wc.cell? ⟨w.heap.size + 2, 1, none⟩ = some (.bool x.edge) := hnb.b2.cell 1
        have k2 : wc.cell? ⟨w.heap.size + 2, 2, none⟩ = some (.slice LA (x.labels.take 4).length lc) := hnb.b2.cell 2
        have k3 : wc.cell? ⟨w.heap.size + 2, 3, none⟩ = some (.string (cut10 x.ty)) := hnb.b2.cell 3
        have k4 : wc.cell? ⟨w.heap.size + 2, 4, none⟩ = some (.int .u64 (x.fr : Int)) := hnb.b2.cell 4
        have k5 : wc.cell? ⟨w.heap.size + 2, 5, none⟩ = some (.int .u64 (x.tw : Int)) := hnb.b2.cell 5
        have k6 : wc.cell? ⟨w.heap.size + 2, 6, none⟩ = some (.slice PA (x.props.take 4).length pc) := hnb.b2.cell 6
        have z0 : wc.cell? ⟨w.heap.size + 1, 0, none⟩ = some (.int .u64 0) := hnb.b1.cell 0
        have z1 : wc.cell? ⟨w.heap.size + 1, 1, none⟩ = some (.bool false) := hnb.b1.cell 1
        have z2 : wc.cell? ⟨w.heap.size + 1, 2, none⟩ = some (.slice none 0 0) := hnb.b1.cell 2
        have z3 : wc.cell? ⟨w.heap.size + 1, 3, none⟩ = some (.string ⟨#[]⟩) := hnb.b1.cell 3
        have z4 : wc.cell? ⟨w.heap.size + 1, 4, none⟩ = some (.int .u64 0) := hnb.b1.cell 4
        have z5 : wc.cell? ⟨w.heap.size + 1, 5, none⟩ = some (.int .u64 0) := hnb.b1.cell 5
        have z6 : wc.cell? ⟨w.heap.size + 1, 6, none⟩ = some (.slice none 0 0) := hnb.b1.cell 6
        have y0 := hnb.b1.frozen 0
        have y1 := hnb.b1.frozen 1
        have y2 := hnb.b1.frozen 2
        have y3 := hnb.b1.frozen 3
        have y4 := hnb.b1.frozen 4
        have y5 := hnb.b1.frozen 5
        have y6 := hnb.b1.frozen 6
        clear hnb hml hm HN HML
        go_wp2_with fail
        refine bodyPost_ret (by rw [results_cell1 (fn := Tryd.f13) rfl]; go_simp; rfl) rfl ?_
        refine ⟨LA, PA, lc, pc, ?_, ?_, ?_, ?_⟩
        · unfold Inf.near Inf.cells
          simp
        · repeat (refine Below.setCell ?_ (by show w.heap.size ≤ w.heap.size + 1; omega) _)
          exact HN'.out.hb
        · have e : ((x.labels.take 4).map cut10).length = (x.labels.take 4).length := List.length_map ..
          show Mid _ _ 9 1 (.slice LA ((x.labels.take 4).map cut10).length lc) ((x.labels.take 4).map cut10).length (((x.labels.take 4).map cut10).map Value.string)
          rw [e]
          refine Mid.mono ?_ (by omega : w.heap.size ≤ w.heap.size + 3)
          repeat (refine mid_set ?_ (by show w.heap.size + 1 < w.heap.size + 3; omega) _)
          exact HL'.out
        · have e : ((x.props.take 4).map Pr.near).length = (x.props.take 4).length := List.length_map ..
          show Mid _ _ 59 4 (.slice PA ((x.props.take 4).map Pr.near).length pc) ((x.props.take 4).map Pr.near).length (((x.props.take 4).map Pr.near).flatMap Pr.cs)
          rw [e]
          refine Mid.mono ?_ (by omega : w.heap.size ≤ w.heap.size + 3)
          repeat (refine mid_set ?_ (by show w.heap.size + 1 < w.heap.size + 3; omega) _)
          exact HM'.out
end Go.Proofs.YtkcgnodmjmpnhaaDoor

