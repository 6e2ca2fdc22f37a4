import Derived.Test.YtahhbgfibelfaaaDoorQC
namespace Go.Proofs.YtahhbgfibelfaaaDoor
open Go.RowKit Go.Lib
set_option linter.unusedVariables false

attribute [local go_sem] wfld0 wfld1 wfld2 wfld3
/-! ### A question that is being made -/
abbrev NV := Nd × Value
def nvC (x : NV) : List Value := [.string x.1.v, .string x.1.l, x.2]
def edC (x : Ed) : List Value := [.string x.v, .string x.t, .bool x.o]
def coC (x : Co) : List Value := [.string x.v, .string x.k, .int .i64 x.o, .int .i64 x.x.k, .int .i64 x.x.n, .string x.x.s]
def itC (x : It) : List Value := [.string x.v, .string x.k]
theorem fm_snoc {α : Type} (f : α → List Value) (l : List α) (x : α) : l.flatMap f ++ f x = (l ++ [x]).flatMap f := by simp
theorem fm_len {α : Type} (f : α → List Value) (k : Nat) (hf : ∀ x, (f x).length = k) (l : List α) : (l.flatMap f).length = l.length * k := by
  induction l with
  | nil => simp
  | cons x r ih => simp only [List.flatMap_cons, List.length_append, ih, List.length_cons, hf]; rw [Nat.add_mul]; omega
/-- A row of one's own stays where another one grows and a box elsewhere turns. -/
theorem mid_keep {y z : World} {B e size n e2 size2 n2 bN : Nat} {v v2 : Value} {xs xs2 : List Value} {T : TypeId} {cs : Array Value} (h : Mid y B e size v n xs) (h2 : Mid y B e2 size2 v2 n2 xs2) (hne : e ≠ e2) (hg : y.grownBy z v2.ownBlock) (hb : Blk z bN T cs) (hT : e ≠ T) (i : Nat) (u : Value) :
    Mid (z.setCell ⟨bN, i, none⟩ u) B e size v n xs := by
  have h3 : Mid z B e size v n xs := h.kept fun g hg1 => by
    obtain ⟨_, c1, hc1⟩ := h.block g hg1
    refine hg.block g hc1.lt (fun e' => ?_)
    obtain ⟨_, c2, hc2⟩ := h2.block g e'.symm
    exact Blk.ne_ hc1 hc2 hne rfl
  exact h3.kept fun g hg1 => Below.heap_setCell _ _ _ _ (fun e' => h3.ne_blk hb hT (by rw [hg1, e']))
theorem mid_set1 {y : World} {B e size n bN : Nat} {v : Value} {xs : List Value} {T : TypeId} {cs : Array Value} (h : Mid y B e size v n xs) (hb : Blk y bN T cs) (hT : e ≠ T) (i : Nat) (u : Value) : Mid (y.setCell ⟨bN, i, none⟩ u) B e size v n xs :=
  h.kept fun g hg1 => Below.heap_setCell _ _ _ _ (fun e' => h.ne_blk hb hT (by rw [hg1, e']))
def quZ : Array Value := #[.slice none 0 0, .slice none 0 0, .slice none 0 0, .slice none 0 0, .int .i64 0]
structure QS (w : World) (q g o c : Nat) (ws : List Wd) (bN : Nat) (V1 V2 V3 V4 : Value) (ns : List NV) (es : List Ed) (cs : List Co) (ts : List It) (m : Int) (p : Ps) (y : World) : Prop where
  pt : Pt w q g o c ws p y
  b2 : Blk y w.heap.size 27 quZ
  bn : Blk y bN 27 #[V1, V2, V3, V4, .int .i64 m]
  m1 : Mid y w.heap.size 53 3 V1 ns.length (ns.flatMap nvC)
  p1 : ∀ x ∈ ns, Mid y w.heap.size 85 4 x.2 x.1.ps.length (prsC x.1.ps)
  m2 : Mid y w.heap.size 42 3 V2 es.length (es.flatMap edC)
  m3 : Mid y w.heap.size 61 6 V3 cs.length (cs.flatMap coC)
  m4 : Mid y w.heap.size 44 2 V4 ts.length (ts.flatMap itC)
  lt : w.heap.size < bN
  h0 : ∃ p0, Pz w q g o c ws p0
section
variable {w y z : World} {q g o c bN : Nat} {ws : List Wd} {V1 V2 V3 V4 V' : Value} {ns : List NV} {es : List Ed} {cs : List Co} {ts : List It} {m : Int} {p p' : Ps}
theorem QS.step (h : QS w q g o c ws bN V1 V2 V3 V4 ns es cs ts m p y) (k : Pt y q g o c ws p' z) : QS w q g o c ws bN V1 V2 V3 V4 ns es cs ts m p' z := by
  obtain ⟨p0, h0⟩ := h.h0
  have hq := h0.ql
  have hlt := h.lt
  have hk : ∀ {e size n : Nat} {v : Value} {xs : List Value}, Mid y w.heap.size e size v n xs → Mid z w.heap.size e size v n xs := fun hm => hm.only k.o (fun g' hg' => by have := (hm.block g' hg').1; simp; omega)
  exact ⟨h.pt.of k, k.o.blk h.b2 (by simp; omega), k.o.blk h.bn (by simp; omega), hk h.m1, fun x hx => hk (h.p1 x hx), hk h.m2, hk h.m3, hk h.m4, h.lt, h.h0⟩
theorem QS.up (h : QS w q g o c ws bN V1 V2 V3 V4 ns es cs ts m p y) (hb : Below y.heap.size y z) : QS w q g o c ws bN V1 V2 V3 V4 ns es cs ts m p z := by
  have hk : ∀ {e size n : Nat} {v : Value} {xs : List Value}, Mid y w.heap.size e size v n xs → Mid z w.heap.size e size v n xs := fun hm => hm.only (Only.of_below hb []) (by simp)
  exact ⟨h.pt.below hb, h.b2.below hb h.b2.lt, h.bn.below hb h.bn.lt, hk h.m1, fun x hx => hk (h.p1 x hx), hk h.m2, hk h.m3, hk h.m4, h.lt, h.h0⟩
theorem QS.drew (h : QS w q g o c ws bN V1 V2 V3 V4 ns es cs ts m p y) : QS w q g o c ws bN V1 V2 V3 V4 ns es cs ts m p y.drew := h.up (below_drew (Below.refl _ _))
theorem QS.alloc (h : QS w q g o c ws bN V1 V2 V3 V4 ns es cs ts m p y) (ob : Obj) : QS w q g o c ws bN V1 V2 V3 V4 ns es cs ts m p (y.alloc ob) := h.up ((Below.refl _ _).alloc (Nat.le_refl _) _)
/-- What an own row's growth leaves. -/
theorem QS.grew (h : QS w q g o c ws bN V1 V2 V3 V4 ns es cs ts m p y) {e size n : Nat} {v : Value} {xs : List Value} (hm : Mid y w.heap.size e size v n xs) (he : e ≠ 27) (hg : y.grownBy z v.ownBlock) (i : Nat) (u : Value) :
    Blk z bN 27 #[V1, V2, V3, V4, .int .i64 m] ∧ Pt w q g o c ws p (z.setCell ⟨bN, i, none⟩ u) ∧ Blk (z.setCell ⟨bN, i, none⟩ u) w.heap.size 27 quZ ∧ Blk (z.setCell ⟨bN, i, none⟩ u) bN 27 ((#[V1, V2, V3, V4, .int .i64 m] : Array Value).setIfInBounds i u) := by
  obtain ⟨p0, h0⟩ := h.h0
  have hlt := h.lt
  have hs : ∀ g', v.ownBlock = some g' → w.heap.size ≤ g' := fun g' hg' => (hm.block g' hg').1
  have ho : Only y z (match v.ownBlock with | some g' => [g'] | none => []) := Only.of_grown hg (fun g' e => by rw [e]; simp)
  have hpz : Pz z q g o c ws p := h.pt.z.only ho (by have := h0.gl; cases e : v.ownBlock with | none => simp | some g' => (have := hs _ e; simp; omega)) (by have := h0.ql; cases e : v.ownBlock with | none => simp | some g' => (have := hs _ e; simp; omega))
  have hpo : Only w z [q] := h.pt.o.then_ ho (fun x hx hlt => by cases e : v.ownBlock with | none => rw [e] at hx; simp at hx | some g' => (rw [e] at hx; have := hs _ e; simp at hx; omega))
  have hbn := h.bn.grown hg (fun e => hm.ne_blk h.bn he e.symm)
  have hb2 := h.b2.grown hg (fun e => hm.ne_blk h.b2 he e.symm)
  exact ⟨hbn, (⟨hpz, hpo⟩ : Pt w q g o c ws p z).put h0 (by show w.heap.size ≤ bN; omega) _, hb2.far (by show w.heap.size ≠ bN; omega) _, hbn.set_ i u⟩
theorem QS.app1 (h : QS w q g o c ws bN V1 V2 V3 V4 ns es cs ts m p y) {x : NV} (hx : Mid y w.heap.size 85 4 x.2 x.1.ps.length (prsC x.1.ps)) (hm : Mid z w.heap.size 53 3 V' (ns.length + 1) (ns.flatMap nvC ++ nvC x)) (hg : y.grownBy z V1.ownBlock) :
    QS w q g o c ws bN V' V2 V3 V4 (ns ++ [x]) es cs ts m p (z.setCell ⟨bN, 0, none⟩ V') := by
  obtain ⟨hb, k1, k2, k3⟩ := h.grew h.m1 (by decide) hg 0 V'
  refine ⟨k1, k2, k3, ?_, fun a ha => ?_, mid_keep h.m2 h.m1 (by decide) hg hb (by decide) _ _, mid_keep h.m3 h.m1 (by decide) hg hb (by decide) _ _, mid_keep h.m4 h.m1 (by decide) hg hb (by decide) _ _, h.lt, h.h0⟩
  · rw [← fm_snoc, List.length_append]; exact mid_set1 hm hb (by decide) _ _
  · rcases List.mem_append.1 ha with ha | ha
    · exact mid_keep (h.p1 a ha) h.m1 (by decide) hg hb (by decide) _ _
    · rw [List.mem_singleton] at ha
      subst ha
      exact mid_keep hx h.m1 (by decide) hg hb (by decide) _ _
theorem QS.app2 (h : QS w q g o c ws bN V1 V2 V3 V4 ns es cs ts m p y) {x : Ed} (hm : Mid z w.heap.size 42 3 V' (es.length + 1) (es.flatMap edC ++ edC x)) (hg : y.grownBy z V2.ownBlock) :
    QS w q g o c ws bN V1 V' V3 V4 ns (es ++ [x]) cs ts m p (z.setCell ⟨bN, 1, none⟩ V') := by
  obtain ⟨hb, k1, k2, k3⟩ := h.grew h.m2 (by decide) hg 1 V'
  refine ⟨k1, k2, k3, mid_keep h.m1 h.m2 (by decide) hg hb (by decide) _ _, fun a ha => mid_keep (h.p1 a ha) h.m2 (by decide) hg hb (by decide) _ _, ?_, mid_keep h.m3 h.m2 (by decide) hg hb (by decide) _ _, mid_keep h.m4 h.m2 (by decide) hg hb (by decide) _ _, h.lt, h.h0⟩
  rw [← fm_snoc, List.length_append]; exact mid_set1 hm hb (by decide) _ _
theorem QS.app3 (h : QS w q g o c ws bN V1 V2 V3 V4 ns es cs ts m p y) {x : Co} (hm : Mid z w.heap.size 61 6 V' (cs.length + 1) (cs.flatMap coC ++ coC x)) (hg : y.grownBy z V3.ownBlock) :
    QS w q g o c ws bN V1 V2 V' V4 ns es (cs ++ [x]) ts m p (z.setCell ⟨bN, 2, none⟩ V') := by
  obtain ⟨hb, k1, k2, k3⟩ := h.grew h.m3 (by decide) hg 2 V'
  refine ⟨k1, k2, k3, mid_keep h.m1 h.m3 (by decide) hg hb (by decide) _ _, fun a ha => mid_keep (h.p1 a ha) h.m3 (by decide) hg hb (by decide) _ _, mid_keep h.m2 h.m3 (by decide) hg hb (by decide) _ _, ?_, mid_keep h.m4 h.m3 (by decide) hg hb (by decide) _ _, h.lt, h.h0⟩
  rw [← fm_snoc, List.length_append]; exact mid_set1 hm hb (by decide) _ _
theorem QS.app4 (h : QS w q g o c ws bN V1 V2 V3 V4 ns es cs ts m p y) {x : It} (hm : Mid z w.heap.size 44 2 V' (ts.length + 1) (ts.flatMap itC ++ itC x)) (hg : y.grownBy z V4.ownBlock) :
    QS w q g o c ws bN V1 V2 V3 V' ns es cs (ts ++ [x]) m p (z.setCell ⟨bN, 3, none⟩ V') := by
  obtain ⟨hb, k1, k2, k3⟩ := h.grew h.m4 (by decide) hg 3 V'
  refine ⟨k1, k2, k3, mid_keep h.m1 h.m4 (by decide) hg hb (by decide) _ _, fun a ha => mid_keep (h.p1 a ha) h.m4 (by decide) hg hb (by decide) _ _, mid_keep h.m2 h.m4 (by decide) hg hb (by decide) _ _, mid_keep h.m3 h.m4 (by decide) hg hb (by decide) _ _, ?_, h.lt, h.h0⟩
  rw [← fm_snoc, List.length_append]; exact mid_set1 hm hb (by decide) _ _
theorem QS.lim (h : QS w q g o c ws bN V1 V2 V3 V4 ns es cs ts m p y) (n : Int) : QS w q g o c ws bN V1 V2 V3 V4 ns es cs ts n p (y.setCell ⟨bN, 4, none⟩ (.int .i64 n)) := by
  obtain ⟨p0, h0⟩ := h.h0
  have hlt := h.lt
  exact ⟨h.pt.put h0 (by show w.heap.size ≤ bN; omega) _, h.b2.far (by show w.heap.size ≠ bN; omega) _, h.bn.set_ 4 _, mid_set1 h.m1 h.bn (by decide) _ _, fun x hx => mid_set1 (h.p1 x hx) h.bn (by decide) _ _, mid_set1 h.m2 h.bn (by decide) _ _, mid_set1 h.m3 h.bn (by decide) _ _, mid_set1 h.m4 h.bn (by decide) _ _, h.lt, h.h0⟩
end

end Go.Proofs.YtahhbgfibelfaaaDoor
