import Derived.Test.YtahhbgfibelfaaaDoorQ8
namespace Go.Proofs.YtahhbgfibelfaaaDoor
open Go.RowKit Go.Lib
set_option linter.unusedVariables false

attribute [local go_sem] wfld0 wfld1 wfld2 wfld3
/-! ### How far a reader goes -/
theorem nxL_le (l : List Wd) : (nxL l).length ≤ l.length := by
  match l with
  | [] => exact Nat.le_refl _
  | [x] => exact Nat.le_refl _
  | x :: y :: r => simp [nxL]
theorem nx_le (p : Ps) : p.nx.l.length ≤ p.l.length := nxL_le _
theorem fl_l (p : Ps) (n : Int) : (p.fl n).l = p.l := by unfold Ps.fl; split <;> rfl
theorem fl_le (p : Ps) (n : Int) : (p.fl n).l.length ≤ p.l.length := by rw [fl_l]; exact Nat.le_refl _
theorem may_le (p : Ps) (k : Int) (s : ByteArray) : (p.may k s).l.length ≤ p.l.length := by
  unfold Ps.may; split
  · exact nx_le p
  · exact Nat.le_refl _
theorem must_le (p : Ps) (k : Int) (s : ByteArray) : (p.must k s).l.length ≤ p.l.length := by
  unfold Ps.must; split
  · exact nx_le p
  · exact fl_le _ _
theorem name_le (p : Ps) (m : Bool) : (p.name m).l.length ≤ p.l.length := by
  unfold Ps.name; split
  · exact nx_le p
  · split
    · exact fl_le _ _
    · exact Nat.le_refl _
theorem val_le (p : Ps) : p.val.l.length ≤ p.l.length := by
  unfold Ps.val; split
  · exact Nat.le_trans (nx_le _) (may_le _ _ _)
  · rw [fl_l]; exact Nat.le_trans (nx_le _) (may_le _ _ _)
theorem prop_le (p : Ps) : p.prop.l.length ≤ p.l.length := Nat.le_trans (val_le _) (Nat.le_trans (must_le _ _ _) (name_le _ _))
theorem opt_le (p : Ps) (s : ByteArray) : (p.opt s).l.length ≤ p.l.length := by
  unfold Ps.opt; split
  · exact Nat.le_trans (name_le _ _) (nx_le _)
  · exact Nat.le_refl _
theorem item_le (p : Ps) : p.item.l.length ≤ p.l.length := Nat.le_trans (opt_le _ _) (name_le _ _)
theorem cond_le (p : Ps) : p.cond.l.length ≤ p.l.length := by
  have h0 : p.cond0.l.length ≤ p.l.length := Nat.le_trans (name_le _ _) (Nat.le_trans (must_le _ _ _) (name_le _ _))
  unfold Ps.cond; split
  · exact Nat.le_trans (val_le _) (Nat.le_trans (nx_le _) h0)
  · rw [fl_l]; exact h0
/-- A word that is no end is not the last. -/
theorem Suf.nx_lt {ws : List Wd} {c : Nat} {p : Ps} {a : Nat} (h : Suf ws p a) (hw : Wok ws c) (hk : p.now.k ≠ 0) : p.nx.l.length + 1 = p.l.length := by
  have ha := h.a
  have h1 : a + 1 < ws.length := by
    rcases Nat.lt_or_ge (a + 1) ws.length with h1 | h1
    · exact h1
    · exfalso
      apply hk
      apply hw.last
      rw [h.now, List.getLast?_eq_getElem?, List.getElem?_eq_getElem (by omega)]
      congr 2
      omega
  have hl := h.len
  have hl2 := h.nx.len
  rw [show nxA ws.length a = a + 1 from if_pos h1] at hl2
  omega
theorem Pz.nx_lt {w : World} {q g o c : Nat} {ws : List Wd} {p : Ps} (h : Pz w q g o c ws p) (hw : Wok ws c) {k : Int} {s : ByteArray} (hk : k ≠ 0) (hi : p.is k s = true) : p.nx.l.length + 1 = p.l.length := by
  obtain ⟨a, hs, _⟩ := h.at_
  unfold Ps.is at hi
  simp only [Bool.and_eq_true, decide_eq_true_eq] at hi
  exact hs.nx_lt hw (by rw [hi.2.1]; exact hk)
theorem Pz.pos {w : World} {q g o c : Nat} {ws : List Wd} {p : Ps} (h : Pz w q g o c ws p) : 0 < p.l.length := by
  obtain ⟨a, hs, _⟩ := h.at_
  have := hs.len
  have := hs.a
  omega
theorem is_b {p : Ps} {k : Int} {s : ByteArray} (h : p.is k s = true) : p.b < 0 := by
  unfold Ps.is at h
  simp only [Bool.and_eq_true, decide_eq_true_eq] at h
  exact h.1
def Pr.cs (x : Pr) : List Value := [.string x.p, .int .i64 x.v.k, .int .i64 x.v.n, .string x.v.s]
def prsC (l : List Pr) : List Value := l.flatMap Pr.cs
theorem prsC_snoc (l : List Pr) (x : Pr) : prsC l ++ x.cs = prsC (l ++ [x]) := by unfold prsC; simp
theorem prsC_len (l : List Pr) : (prsC l).length = l.length * 4 := by
  induction l with
  | nil => rfl
  | cons x r ih => unfold prsC at *; simp only [List.flatMap_cons, List.length_append, ih, List.length_cons]; simp [Pr.cs]; omega
/-- The parser, and a struct of three cells that is being made behind it, with a slice of its own. -/
structure NS (w : World) (q g o c : Nat) (ws : List Wd) (bN : Nat) (vr lb : ByteArray) (V : Value) (acc : List Pr) (p : Ps) (y : World) : Prop where
  pt : Pt w q g o c ws p y
  b2 : Blk y w.heap.size 53 #[.string ⟨#[]⟩, .string ⟨#[]⟩, .slice none 0 0]
  bn : Blk y bN 53 #[.string vr, .string lb, V]
  mid : Mid y w.heap.size 85 4 V acc.length (prsC acc)
  lt : w.heap.size < bN
  h0 : ∃ p0, Pz w q g o c ws p0
section
variable {w y z : World} {q g o c bN : Nat} {ws : List Wd} {vr lb : ByteArray} {V : Value} {acc : List Pr} {p p' : Ps}
theorem NS.step (h : NS w q g o c ws bN vr lb V acc p y) (k : Pt y q g o c ws p' z) : NS w q g o c ws bN vr lb V acc p' z := by
  obtain ⟨p0, h0⟩ := h.h0
  have hq := h0.ql
  have hlt := h.lt
  refine ⟨h.pt.of k, k.o.blk h.b2 (by simp; omega), k.o.blk h.bn (by simp; omega), h.mid.only k.o (fun g' hg' => ?_), h.lt, h.h0⟩
  have := (h.mid.block g' hg').1
  simp; omega
theorem NS.up (h : NS w q g o c ws bN vr lb V acc p y) (hb : Below y.heap.size y z) : NS w q g o c ws bN vr lb V acc p z :=
  ⟨h.pt.below hb, h.b2.below hb h.b2.lt, h.bn.below hb h.bn.lt, h.mid.only (Only.of_below hb []) (by simp), h.lt, h.h0⟩
theorem NS.drew (h : NS w q g o c ws bN vr lb V acc p y) : NS w q g o c ws bN vr lb V acc p y.drew := h.up (below_drew (Below.refl _ _))
theorem NS.alloc (h : NS w q g o c ws bN vr lb V acc p y) (ob : Obj) : NS w q g o c ws bN vr lb V acc p (y.alloc ob) := h.up ((Below.refl _ _).alloc (Nat.le_refl _) _)
theorem NS.mid_ne (h : NS w q g o c ws bN vr lb V acc p y) {b : Nat} {t : TypeId} {cs : Array Value} (hb : Blk y b t cs) (ht : t ≠ 85) : V.ownBlock ≠ some b := h.mid.ne_blk hb (fun e => ht e.symm)
theorem NS.lab (h : NS w q g o c ws bN vr lb V acc p y) (s : ByteArray) : NS w q g o c ws bN vr s V acc p (y.setCell ⟨bN, 1, none⟩ (.string s)) := by
  obtain ⟨p0, h0⟩ := h.h0
  have hlt := h.lt
  refine ⟨h.pt.put h0 (by show w.heap.size ≤ bN; omega) _, h.b2.far (by show w.heap.size ≠ bN; omega) _, h.bn.set_ 1 _, h.mid.kept (fun g' hg' => Below.heap_setCell _ _ _ _ (fun e => h.mid_ne h.bn (by decide) ?_)), h.lt, h.h0⟩
  rw [hg', e]
/-- A property more. -/
theorem NS.app (h : NS w q g o c ws bN vr lb V acc p y) {V' : Value} {x : Pr} (hm : Mid z w.heap.size 85 4 V' (acc.length + 1) (prsC acc ++ x.cs)) (hg : y.grownBy z V.ownBlock) : NS w q g o c ws bN vr lb V' (acc ++ [x]) p (z.setCell ⟨bN, 2, none⟩ V') := by
  obtain ⟨p0, h0⟩ := h.h0
  have hlt := h.lt
  have hs : ∀ g', V.ownBlock = some g' → w.heap.size ≤ g' := fun g' hg' => (h.mid.block g' hg').1
  have ho : Only y z (match V.ownBlock with | some g' => [g'] | none => []) := Only.of_grown hg (fun g' e => by rw [e]; simp)
  have hpz : Pz z q g o c ws p := h.pt.z.only ho (by have := h0.gl; cases e : V.ownBlock with | none => simp | some g' => (have := hs _ e; simp; omega)) (by have := h0.ql; cases e : V.ownBlock with | none => simp | some g' => (have := hs _ e; simp; omega))
  have hpo : Only w z [q] := h.pt.o.then_ ho (fun x hx hlt => by cases e : V.ownBlock with | none => rw [e] at hx; simp at hx | some g' => (rw [e] at hx; have := hs _ e; simp at hx; omega))
  have hbn := h.bn.grown hg (fun e => h.mid_ne h.bn (by decide) e.symm)
  have hb2 := h.b2.grown hg (fun e => h.mid_ne h.b2 (by decide) e.symm)
  have hne : V'.ownBlock ≠ some bN := hm.ne_blk hbn (by decide)
  refine ⟨(⟨hpz, hpo⟩ : Pt w q g o c ws p z).put h0 (by show w.heap.size ≤ bN; omega) _, hb2.far (by show w.heap.size ≠ bN; omega) _, hbn.set_ 2 _, ?_, h.lt, h.h0⟩
  have hm2 := hm.kept (w' := z.setCell ⟨bN, 2, none⟩ V') (fun g' hg' => Below.heap_setCell _ _ _ _ (fun e => hne (by rw [hg', e])))
  rw [prsC_snoc] at hm2
  rw [List.length_append]
  exact hm2
end
theorem laid_only {w w' : World} {q : Nat} (h : Laid w) (ho : Only w w' [q]) (hq : 9 ≤ q) : Laid w' := by
  have hz := h.sz
  have c : ∀ g j u, g < 9 → w.cell? ⟨g, j, none⟩ = some u → w'.cell? ⟨g, j, none⟩ = some u := fun g j u hg hu => by
    rw [ho.cell (p := ⟨g, j, none⟩) (by show g < w.heap.size; omega) (by simp; omega)]; exact hu
  have er : ∀ g, g < 9 → ErrAt w g → ErrAt w' g := fun g hg ⟨ev, h1, h2⟩ => ⟨ev, c _ _ _ hg h1, h2⟩
  exact ⟨fun j hj => c _ _ _ (by decide) (h.mks j hj), er _ (by decide) h.es, er _ (by decide) h.er, fun j hj => c _ _ _ (by decide) (h.op j hj), fun j hj => c _ _ _ (by decide) (h.wo j hj), Nat.le_trans hz ho.size⟩

end Go.Proofs.YtahhbgfibelfaaaDoor
