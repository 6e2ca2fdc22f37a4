import Derived.Test.YtahhbgfibelfaaaDoorQ1
namespace Go.Proofs.YtahhbgfibelfaaaDoor
open Go.RowKit Go.Lib
set_option linter.unusedVariables false

/-! ### The program's parser, in its box -/
structure WdOk (x : Wd) : Prop where
  v0 : 0 ≤ x.v
  v1 : x.v ≤ 9223372036854775807
  n0 : 0 ≤ x.n
  n1 : x.n ≤ 1000000
  s : x.s.size ≤ 1000000
  nm : x.k = 1 → 0 < x.s.size ∧ x.s.data.toList.all isN = true
structure Wok (ws : List Wd) (c : Nat) : Prop where
  ok : ∀ x ∈ ws, WdOk x
  len : ws.length ≤ 1000000
  cap : ws.length ≤ c
  cm : c ≤ 9223372036854775807
  last : ∀ x, ws.getLast? = some x → x.k = 0
/-- A reader that stands in such a list. -/
structure Suf (ws : List Wd) (p : Ps) (a : Nat) : Prop where
  l : p.l = ws.drop a
  a : a < ws.length
  b0 : -1 ≤ p.b
  b1 : p.b ≤ 1000000
theorem drop_cons {ws : List Wd} {a : Nat} (h : a < ws.length) : ws.drop a = ws[a] :: ws.drop (a + 1) := List.drop_eq_getElem_cons h
theorem Suf.cons {ws : List Wd} {p : Ps} {a : Nat} (h : Suf ws p a) : p.l = ws[a]'h.a :: ws.drop (a + 1) := h.l.trans (drop_cons h.a)
theorem Suf.len {ws : List Wd} {p : Ps} {a : Nat} (h : Suf ws p a) : p.l.length = ws.length - a := by rw [h.l, List.length_drop]
theorem Suf.now {ws : List Wd} {p : Ps} {a : Nat} (h : Suf ws p a) : p.now = ws[a]'h.a := by unfold Ps.now; rw [h.cons]; rfl
theorem Suf.now_mem {ws : List Wd} {p : Ps} {a : Nat} (h : Suf ws p a) : p.now ∈ ws := by rw [h.now]; exact List.getElem_mem _
/-- How far the next place lies. -/
def nxA (N a : Nat) : Nat := if a + 1 < N then a + 1 else a
theorem Suf.nx {ws : List Wd} {p : Ps} {a : Nat} (h : Suf ws p a) : Suf ws p.nx (nxA ws.length a) := by
  have ha := h.a
  have hc := h.cons
  unfold nxA
  by_cases h1 : a + 1 < ws.length
  · rw [if_pos h1]
    refine ⟨?_, h1, h.b0, h.b1⟩
    show nxL p.l = _
    rw [hc, drop_cons h1]; rfl
  · rw [if_neg h1]
    refine ⟨?_, ha, h.b0, h.b1⟩
    show nxL p.l = _
    rw [← h.l, hc, List.drop_eq_nil_of_le (by omega)]; rfl
theorem Suf.fl {ws : List Wd} {p : Ps} {a : Nat} {n : Int} (h : Suf ws p a) (h0 : 0 ≤ n) (h1 : n ≤ 1000000) : Suf ws (p.fl n) a := by
  unfold Ps.fl
  split
  · exact ⟨h.l, h.a, by show -1 ≤ n; omega, h1⟩
  · exact h
def pzC (g o c : Nat) (N a : Nat) (b : Int) : Array Value := #[.slice (some ⟨g, o + a * 4, none⟩) (N - a) (c - a), .bool (decide (0 ≤ b)), .int .i64 (if b < 0 then 0 else b)]
structure Pz (w : World) (q g o c : Nat) (ws : List Wd) (p : Ps) : Prop where
  at_ : ∃ a, Suf ws p a ∧ Blk w q 38 (pzC g o c ws.length a p.b)
  lies : Lies w g o ws
  gl : g < w.heap.size
  ql : q < w.heap.size
  ne : g ≠ q
def qP (q : Nat) : Value := .pointer (some ⟨q, 0, none⟩)
theorem Lies.only {w w' : World} {g o : Nat} {ws : List Wd} {S : List Nat} (h : Lies w g o ws) (ho : Only w w' S) (hg : g < w.heap.size) (hS : g ∉ S) : Lies w' g o ws := fun i hi j u hj hu => by
  rw [ho.cell (p := ⟨g, _, none⟩) hg hS]; exact h i hi j u hj hu
theorem Pz.only {w w' : World} {q g o c : Nat} {ws : List Wd} {p : Ps} {S : List Nat} (h : Pz w q g o c ws p) (ho : Only w w' S) (hg : g ∉ S) (hq : q ∉ S) : Pz w' q g o c ws p := by
  obtain ⟨⟨a, hs, hb⟩, hl, h1, h2, h3⟩ := h
  exact ⟨⟨a, hs, ho.blk hb hq⟩, hl.only ho h1 hg, Nat.lt_of_lt_of_le h1 ho.size, Nat.lt_of_lt_of_le h2 ho.size, h3⟩
/-- What a step of the parser leaves behind. -/
structure Pt (w : World) (q g o c : Nat) (ws : List Wd) (p : Ps) (w' : World) : Prop where
  z : Pz w' q g o c ws p
  o : Only w w' [q]
theorem Pt.trans {w w1 w2 : World} {q g o c : Nat} {ws : List Wd} {p p' : Ps} (h : Pt w q g o c ws p w1) (k : Pt w1 q g o c ws p' w2) : Pt w q g o c ws p' w2 := ⟨k.z, h.o.trans k.o⟩
theorem Pt.refl {w : World} {q g o c : Nat} {ws : List Wd} {p : Ps} (h : Pz w q g o c ws p) : Pt w q g o c ws p w := ⟨h, Only.refl _ _⟩
/-- New blocks behind a step. -/
theorem Pt.alloc {w w1 : World} {q g o c : Nat} {ws : List Wd} {p : Ps} (h : Pt w q g o c ws p w1) (ob : Obj) : Pt w q g o c ws p (w1.alloc ob) :=
  ⟨h.z.only ((Only.refl w1 []).alloc ob) (by simp) (by simp), h.o.alloc ob⟩
def Wd.val4 (x : Wd) : Value := .agg #[.int .i64 x.k, .string x.s, .int .i64 x.v, .int .i64 x.n]
section
variable {w : World} {q g o c : Nat} {ws : List Wd} {p : Ps}
theorem Lies.cells4 {w : World} {g o a : Nat} {ws : List Wd} (h : Lies w g o ws) (ha : a < ws.length) :
    w.cell? ⟨g, o + a * 4, none⟩ = some (.int .i64 ws[a].k) ∧ w.cell? ⟨g, o + a * 4 + 1, none⟩ = some (.string ws[a].s) ∧ w.cell? ⟨g, o + a * 4 + 2, none⟩ = some (.int .i64 ws[a].v) ∧ w.cell? ⟨g, o + a * 4 + 3, none⟩ = some (.int .i64 ws[a].n) :=
  ⟨h a ha 0 _ (by omega) rfl, h a ha 1 _ (by omega) rfl, h a ha 2 _ (by omega) rfl, h a ha 3 _ (by omega) rfl⟩
end
theorem results_cell1 {fn : Func} {p : Tmp} {ty : TypeId} (h : fn.results = #[.cell p ty]) (tmps : Array Value) (P : Program) (w : World) :
    (results fn tmps).run P w = ((asAddr (tmps.getD p undef)).run P w).andThen fun a w₁ => (loadVar ty a).run P w₁ := by
  simp only [results, h]
  simp [Sem.run_bind, Result.andThen]
theorem wfld0 (k v n : Int) (s : ByteArray) (w : World) : (Instr.field 47 (.agg #[.int .i64 k, .string s, .int .i64 v, .int .i64 n]) 0).run Tryd.prog w = .ok (.int .i64 k) w := by kernel_rfl
theorem wfld1 (k v n : Int) (s : ByteArray) (w : World) : (Instr.field 47 (.agg #[.int .i64 k, .string s, .int .i64 v, .int .i64 n]) 1).run Tryd.prog w = .ok (.string s) w := by kernel_rfl
theorem wfld2 (k v n : Int) (s : ByteArray) (w : World) : (Instr.field 47 (.agg #[.int .i64 k, .string s, .int .i64 v, .int .i64 n]) 2).run Tryd.prog w = .ok (.int .i64 v) w := by kernel_rfl
theorem wfld3 (k v n : Int) (s : ByteArray) (w : World) : (Instr.field 47 (.agg #[.int .i64 k, .string s, .int .i64 v, .int .i64 n]) 3).run Tryd.prog w = .ok (.int .i64 n) w := by kernel_rfl
attribute [local go_sem] wfld0 wfld1 wfld2 wfld3
set_option maxRecDepth 100000 in
theorem now_ok (w : World) (q g o c : Nat) (ws : List Wd) (p : Ps) (hw : Wok ws c) (h : Pz w q g o c ws p) :
    Calls Tryd.prog 13 #[qP q] w fun e w' => e = .returned p.now.val4 ∧ Below w.heap.size w w' := by
  obtain ⟨⟨a, hs, hb⟩, hl, h1, h2, h3⟩ := h
  have ha := hs.a
  have hlen := hw.len
  obtain ⟨c0, c1, c2, c3⟩ := hl.cells4 ha
  rw [hs.now]
  generalize ws[a] = x at *
  clear hl hs
  obtain ⟨xk, xs, xv, xn⟩ := x
  simp only at c0 c1 c2 c3
  have b0 := hb.cell 0
  have f0 := hb.frozen 0
  have hz : a * 4 ≤ 4000000 := by omega
  have hpos : ((0 : Int) < ((ws.length - a : Nat) : Int)) := by omega
  generalize ws.length - a = m at *
  generalize c - a = cc at *
  unfold Wd.val4 qP
  simp only [pzC, List.getElem?_toArray, List.getElem?_cons_zero] at b0
  have HB : ∀ ob1 ob2, Hid (Below w.heap.size w ((w.alloc ob1).alloc ob2)) := fun _ _ => ((Below.refl _ _).alloc (Nat.le_refl _) _).alloc (by simp) _
  clear hb
  go_enter Tryd.func13, Tryd.ntmps13
  go_wp2_with fail
  refine bodyPost_ret (by rw [results_cell1 (fn := Tryd.f13) rfl]; go_simp; rfl) rfl ?_
  exact ⟨rfl, (Below.refl _ _).alloc (Nat.le_refl _) _⟩

end Go.Proofs.YtahhbgfibelfaaaDoor
