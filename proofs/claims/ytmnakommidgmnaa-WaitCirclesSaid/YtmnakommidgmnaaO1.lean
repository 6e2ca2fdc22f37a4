import Derived.Test.YtmnakommidgmnaaW7
import Derived.Deep.Slices
import Derived.Deep.Fields
import Derived.ChangeSame
import Derived.ProofKit
import Derived.SizedLaws
namespace Go.Proofs.Ytmnakommidgmnaa
open Go.ChangeShapes Go.WideShapes Go.Deep Go.RowKit
set_option linter.unusedVariables false
section
variable {H : Type} {enc : TypeId × Value → H} {P : Program} {w : World} {base : Nat} {spare : Nat → Bool} {held : Bool}
theorem open_slice_fields {t e : TypeId} {fs : Array Field} {fuel : Nat} {cs : List Value} {x : DataW H × List MemPlace} (ht : P.underlying t = some (.slice e)) (he : P.underlying e = some (.struct fs))
    (hone : oneCellFields P fs = true) (hC : P.cellsOf e = fs.size) (h : DataW.trod enc P w base spare held fuel t cs = some x) :
    (cs = [.slice none 0 0] ∧ x = (.nil, [])) ∨
    ∃ (a : Addr) (len cap m : Nat) (D : Nat → DataW H) (Pl : Nat → List MemPlace), cs = [.slice (some a) len cap] ∧ base ≤ a.block ∧ len ≤ cap ∧ cap ≤ maxLen ∧ m = (if spare a.block then cap else len) ∧
      x = (.slice ((List.range len).map D) ((List.range (m - len)).map fun j => D (len + j)), MemPlace.row a (m * fs.size) ++ (List.range m).flatMap Pl) ∧
      ∀ i, i < m → ∃ (ys : List (DataW H × List MemPlace)) (n : Nat), D i = .agg (ys.map (·.1)) ∧ Pl i = ys.flatMap (·.2) ∧ ys.length = fs.size ∧
        ∀ (j : Nat) (f : Field), fs[j]? = some f → ∃ (v : Value) (y : DataW H × List MemPlace), w.cell? (a.add (i * fs.size + j)) = some v ∧ ys[j]? = some y ∧ DataW.trod enc P w base spare held n f.type [v] = some y := by
  rcases open_slice ht h with h0 | ⟨a, len, cap, m, n, D, Pl, hcs, hb, hl, hm, hmm, hx, hi⟩
  · exact .inl h0
  · refine .inr ⟨a, len, cap, m, D, Pl, hcs, hb, hl, hm, hmm, by rw [hC] at hx; exact hx, fun i him => ?_⟩
    obtain ⟨cs', hc, ht'⟩ := hi i him
    rw [hC] at hc
    obtain ⟨ys, n', hn', hy, hlen, hyl, hf⟩ := DataW.trod_struct he ht'
    obtain ⟨_, hcl, hat⟩ := World.cells?_some hc
    simp only [Prod.mk.injEq] at hy
    refine ⟨ys, n', hy.1, hy.2, hyl, fun j f hj => ?_⟩
    obtain ⟨ho, hk⟩ := hone_of hone j f hj
    have hjl : j < fs.size := (Array.getElem?_eq_some_iff.1 hj).1
    have hcell := hat j hjl
    have hv : cs'[j]? = some (cs'[j]'(by omega)) := List.getElem?_eq_getElem (by omega)
    have h1 := hf j f hj
    rw [ho, hk] at h1
    have hone' : (cs'.drop j).take 1 = [cs'[j]'(by omega)] := by
      rw [List.drop_eq_getElem_cons (by omega)]
      rfl
    rw [hone'] at h1
    have hys : ys[j]? = some (ys[j]'(by omega)) := List.getElem?_eq_getElem (by omega)
    refine ⟨_, _, ?_, hys, h1.trans hys⟩
    rw [← Go.Deep.add_add, hcell, hv]
end

theorem any_open {H : Type} {enc : TypeId × Value → H} {w : World} {r : Reach} {b0 : Nat} {v : Value} {d : DataW H} {p : List MemPlace} {t : TypeId}
    (hv : Value.okWide Try.prog w r b0 t v) (h : DataW.Trod enc Try.prog w 0 (fun _ => true) true t v d p) : True := trivial

/-- Ages that came in. -/
def AgesIn (w : World) (v : Value) : Prop := ∃ A n c us, v = .slice A n c ∧ us.length = n ∧ n ≤ 9223372036854775807 ∧ Row w A (uv us)

theorem row_of_ints {w : World} {k : IntKind} {a : Addr} {zs : List Int} {n : Nat} (hz : n ≤ zs.length) (hc : ∀ i, i < zs.length → w.cell? (a.add i) = some (.int k (zs.getD i 0))) :
    Row w (some a) ((zs.take n).map (Value.int k)) := fun _ => ⟨a, rfl, fun j u hj => by
  have hjl : j < n ∧ j < zs.length := by
    have := (List.getElem?_eq_some_iff.1 hj).1
    simp at this
    omega
  have e : ((zs.take n).map (Value.int k))[j]? = some (.int k (zs.getD j 0)) := by simp [hjl.1, List.getElem?_eq_getElem hjl.2, hjl.2]
  rw [e] at hj
  injection hj with hj
  rw [← hj]
  exact hc j hjl.2⟩

theorem ages_open {H : Type} {enc : TypeId × Value → H} {w : World} {r : Reach} {b0 : Nat} {v : Value} {d : DataW H} {p : List MemPlace}
    (hv : Value.okWide Try.prog w r b0 23 v) (h : DataW.Trod enc Try.prog w 0 (fun _ => true) true 23 v d p) : AgesIn w v := by
  obtain ⟨A, n, c, rfl⟩ := okWide_slice Try.underlying23 hv
  obtain ⟨fuel, hf⟩ := h
  rcases open_ints Try.underlying23 Try.underlying34 (by kernel_rfl) hf with ⟨hcs, _⟩ | ⟨x, l, c', zs, hcs, _, hl, hm, hz, _, hcell, hwz⟩
  · simp [Value.cells] at hcs
    obtain ⟨rfl, rfl, rfl⟩ := hcs
    exact ⟨none, 0, 0, [], rfl, rfl, by omega, Row.nil _ _⟩
  · simp [Value.cells] at hcs
    obtain ⟨rfl, rfl, rfl⟩ := hcs
    have hzl : n ≤ zs.length := by rw [hz]; split <;> omega
    exact ⟨some x, n, c, zs.take n, rfl, by simp; omega, by unfold maxLen at hm; omega, row_of_ints hzl hcell⟩

/-- A list of acts that came in. -/
def Acts (w : World) (A : Option Addr) (n : Nat) : Prop :=
  ∀ i, i < n → ∃ ad x B m c xs, A = some ad ∧ ad.block < w.heap.size ∧ w.cell? (ad.add (i * 2)) = some (.int .i64 x) ∧
    w.cell? ⟨(ad.add (i * 2)).block, (ad.add (i * 2)).off + 1, none⟩ = some (.slice B m c) ∧ xs.length = m ∧ m ≤ 17592186044415 ∧ Row w B (iv xs)
def ActsIn (w : World) (v : Value) : Prop := ∃ A n c, v = .slice A n c ∧ n ≤ 9223372036854775807 ∧ Acts w A n

theorem weights_all {H : Type} {P : Program} {e : TypeId} {d : DataW H} : ∀ {l : List (DataW H)}, d ∈ l → ∀ x ∈ d.weights P e, x ∈ DataW.weightsAll P e l
  | a :: l, h, x, hx => by
    rw [DataW.weightsAll, List.mem_append]
    rcases List.mem_cons.1 h with rfl | h
    · exact .inl hx
    · exact .inr (weights_all h x hx)
theorem bytes3 : Try.prog.bytesOf 3 = 8 := by kernel_rfl

theorem acts_open {H : Type} {enc : TypeId × Value → H} {w : World} {r : Reach} {b0 : Nat} {v : Value} {d : DataW H} {p : List MemPlace}
    (hv : Value.okWide Try.prog w r b0 22 v) (h : DataW.Trod enc Try.prog w 0 (fun _ => true) true 22 v d p) (hw : ∀ x ∈ d.weights Try.prog 22, x ≤ reachBytes) : ActsIn w v := by
  obtain ⟨A, n, c, rfl⟩ := okWide_slice Try.underlying22 hv
  obtain ⟨fuel, hf⟩ := h
  rcases open_slice_fields Try.underlying22 Try.underlying31 (by kernel_rfl) (by kernel_rfl) hf with ⟨hcs, _⟩ | ⟨a, len, cap, m, D, Pl, hcs, hb, hl, hm, hmm, hx, hcell⟩
  · simp [Value.cells] at hcs
    obtain ⟨rfl, rfl, rfl⟩ := hcs
    exact ⟨none, 0, 0, rfl, by omega, fun i hi => by omega⟩
  · simp [Value.cells] at hcs
    obtain ⟨rfl, rfl, rfl⟩ := hcs
    refine ⟨some a, n, c, rfl, by unfold maxLen at hm; omega, fun i hi => ?_⟩
    obtain ⟨ys, k, hDi, _, hyl, hf⟩ := hcell i (by rw [hmm]; split <;> omega)
    obtain ⟨u, y, hu, _, hy⟩ := hf 0 _ rfl
    obtain ⟨u', y', hu', hy1, hy'⟩ := hf 1 _ rfl
    obtain ⟨x, e, _, _⟩ := DataW.trod_int Try.underlying3 hy
    simp at e
    subst e
    have hblk : a.block < w.heap.size := by
      have := World.block_lt_of_cell? w _ hu
      rwa [block_of_add] at this
    have hu2 : w.cell? ⟨(a.add (i * 2)).block, (a.add (i * 2)).off + 1, none⟩ = some u' := by
      rw [← hu']
      show _ = w.cell? (a.add (i * 2 + 1))
      rw [← Go.Deep.add_add]
      rfl
    rcases open_ints Try.underlying29 Try.underlying3 (by kernel_rfl) hy' with ⟨hcs, _⟩ | ⟨x', l', c', zs, hcs, _, hl', hm', hz, hxe, hcell', hwz⟩
    · simp at hcs
      subst hcs
      exact ⟨a, x, none, 0, 0, [], rfl, hblk, hu, hu2, rfl, by omega, Row.nil _ _⟩
    · simp at hcs
      subst hcs
      have hzl : l' ≤ zs.length := by rw [hz]; split <;> omega
      refine ⟨a, x, some x', l', c', zs.take l', rfl, hblk, hu, hu2, by simp; omega, ?_, row_of_ints hzl hcell'⟩
      have hd : d = .slice ((List.range n).map D) ((List.range (m - n)).map fun j => D (n + j)) := congrArg Prod.fst hx
      have hwi : ∀ q ∈ (D i).weights Try.prog 31, q ≤ reachBytes := fun q hq => hw q (by
        rw [hd]
        simp only [DataW.weights, Try.underlying22, List.mem_cons, List.mem_append]
        exact .inr (.inl (weights_all (List.mem_map.2 ⟨i, by simpa using hi, rfl⟩) q hq)))
      have h2 : (l' + (zs.length - l')) * 8 ≤ reachBytes := by
        refine hwi _ ?_
        rw [hDi]
        simp only [DataW.weights, Try.underlying31]
        refine DataW.weights_mem_each (j := 1) (t := 29) (d := y'.1) rfl (by rw [List.getElem?_map, hy1]; rfl) _ ?_
        rw [hxe]
        simp [DataW.weights, Try.underlying29, bytes3, lits, hzl]
      unfold reachBytes at h2
      omega
end Go.Proofs.Ytmnakommidgmnaa
