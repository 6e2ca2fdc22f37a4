import Derived.Test.YtkcgnodmjmpnhaaDoorVE
import Derived.ChangeArms
import Derived.WideShapes
namespace Go.Proofs.YtkcgnodmjmpnhaaDoor
open Go.RowKit Go.Shelf Go.Lib Go.Sort Go.ChangeShapes Go.WideShapes
set_option linter.unusedVariables false

section
variable {H : Type} {enc : TypeId × Value → H} {W : World} {base : Nat} {sp : Nat → Bool} {held : Bool}

theorem field_at {P : Program} {fuel : Nat} {t : TypeId} {cs : List Value} {x : DataW H × List MemPlace} {fs : Array Field} (ht : P.underlying t = some (.struct fs)) (h : DataW.trod enc P W base sp held fuel t cs = some x) :
    cs.length = P.cellsOf t ∧ ∀ (i : Nat) (f : Field), fs[i]? = some f → ∃ n y, DataW.trod enc P W base sp held n f.type ((cs.drop f.offset).take (P.cellsOf f.type)) = some y := by
  obtain ⟨xs, n, _, _, hl, hx, hf⟩ := DataW.trod_struct ht h
  refine ⟨hl, fun i f hi => ?_⟩
  have hlt : i < xs.length := by rw [hx]; exact (Array.getElem?_eq_some_iff.1 hi).1
  exact ⟨n, xs[i], (hf i f hi).trans (List.getElem?_eq_getElem hlt)⟩

/-- A slice, its elements each so many cells. -/
theorem open_sl {P : Program} {α : Type} {t e : TypeId} {fuel : Nat} {cs : List Value} {x : DataW H × List MemPlace} (cells : α → List Value) (n : Nat) (h0 : 0 < n) (hn : ∀ a, (cells a).length = n) (hce : P.cellsOf e = n) (ht : P.underlying t = some (.slice e)) (Q : α → Prop)
    (hE : ∀ (fuel : Nat) (cs : List Value) (y : DataW H × List MemPlace), DataW.trod enc P W base sp held fuel e cs = some y → ∃ a, cs = cells a ∧ Q a) (h : DataW.trod enc P W base sp held fuel t cs = some x) :
    ∃ (A : Option Addr) (xs : List α) (c : Nat), cs = [.slice A xs.length c] ∧ xs.length ≤ maxLen ∧ (∀ a ∈ xs, Q a) ∧
      (xs = [] ∨ ∃ g o, A = some ⟨g, o, none⟩ ∧ g < W.heap.size ∧ ∀ (i : Nat) (h : i < xs.length) (k : Nat) (u : Value), (cells xs[i])[k]? = some u → W.cell? ⟨g, o + i * n + k, none⟩ = some u) := by
  rcases DataW.trod_slice ht h with ⟨rfl, _⟩ | ⟨a, len, cap, elems, rest, m, _, rfl, _, _, hl, hm, hlen, hel, _, _⟩
  · exact ⟨none, [], 0, rfl, Nat.zero_le _, (fun a ha => by cases ha), .inl rfl⟩
  · have each : ∀ i, i < len → ∃ z : α, Q z ∧ ∀ k u, (cells z)[k]? = some u → W.cell? (a.add (i * n + k)) = some u := by
      intro i hi
      have he := hel i hi
      rw [hce, List.getElem?_eq_getElem (by omega), Option.bind_eq_some_iff] at he
      obtain ⟨cs', hc, hy⟩ := he
      obtain ⟨z, rfl, hq⟩ := hE _ _ _ hy
      obtain ⟨_, _, hat⟩ := World.cells?_some hc
      refine ⟨z, hq, fun k u hk => ?_⟩
      have hkn : k < n := by rw [← hn z]; exact (List.getElem?_eq_some_iff.1 hk).1
      rw [← add_of_add, hat k hkn, hk]
    have hlist : ∀ m, m ≤ len → ∃ xs : List α, xs.length = m ∧ (∀ z ∈ xs, Q z) ∧ ∀ (i : Nat) (h : i < xs.length) (k : Nat) (u : Value), (cells xs[i])[k]? = some u → W.cell? (a.add (i * n + k)) = some u := by
      intro m
      induction m with
      | zero => intro _; exact ⟨[], rfl, (fun z hz => by cases hz), fun i h => absurd h (Nat.not_lt_zero i)⟩
      | succ m ih =>
        intro hm
        obtain ⟨xs, hxl, hq, hc⟩ := ih (by omega)
        obtain ⟨z, hz, hzc⟩ := each m (by omega)
        refine ⟨xs ++ [z], by simp [hxl], fun y hy => ?_, fun i h k u hk => ?_⟩
        · rcases List.mem_append.1 hy with h | h
          · exact hq y h
          · rw [List.mem_singleton.1 h]; exact hz
        · by_cases hi : i < xs.length
          · rw [List.getElem_append_left hi] at hk
            exact hc i hi k u hk
          · obtain rfl : i = m := by simp [hxl] at h; omega
            rw [List.getElem_append_right (by omega)] at hk
            simp only [hxl, Nat.sub_self, List.getElem_cons_zero] at hk
            exact hzc k u hk
    obtain ⟨xs, hxl, hq, hc⟩ := hlist len (Nat.le_refl _)
    refine ⟨some a, xs, cap, by rw [hxl], by omega, hq, ?_⟩
    rcases Nat.eq_zero_or_pos xs.length with hz | hz
    · exact .inl (List.eq_nil_of_length_eq_zero hz)
    · right
      have h00 := hc 0 hz 0 ((cells xs[0])[0]'(by rw [hn]; exact h0)) (List.getElem?_eq_getElem _)
      rw [Nat.zero_mul] at h00
      have e0 : a.add (0 + 0) = a := by simp [Addr.add]
      rw [e0] at h00
      have hsp := World.cell?_spot h00
      have hlt := World.block_lt_of_cell? W _ h00
      obtain ⟨g, o, s⟩ := a
      simp only at hsp hlt
      subst hsp
      refine ⟨g, o, rfl, hlt, fun i h k u hk => ?_⟩
      have := hc i h k u hk
      rwa [add_at, ← Nat.add_assoc] at this
theorem three {cs : List Value} (h : cs.length = 3) : ∃ a b c, cs = [a, b, c] := by match cs, h with | [a, b, c], _ => exact ⟨a, b, c, rfl⟩
theorem four {cs : List Value} (h : cs.length = 4) : ∃ a b c d, cs = [a, b, c, d] := by match cs, h with | [a, b, c, d], _ => exact ⟨a, b, c, d, rfl⟩
theorem five {cs : List Value} (h : cs.length = 5) : ∃ a b c d e, cs = [a, b, c, d, e] := by match cs, h with | [a, b, c, d, e], _ => exact ⟨a, b, c, d, e, rfl⟩
theorem seven {cs : List Value} (h : cs.length = 7) : ∃ a b c d e f g, cs = [a, b, c, d, e, f, g] := by match cs, h with | [a, b, c, d, e, f, g], _ => exact ⟨a, b, c, d, e, f, g, rfl⟩
theorem u64_nat {x : Int} (w : (Lit.int .u64 x).wf = true) : ∃ n : Nat, x = n ∧ n < 18446744073709551616 := by
  have : 0 ≤ x ∧ x ≤ 18446744073709551615 := by simpa [Lit.wf, IntKind.min, IntKind.max, IntKind.signed, IntKind.bits] using w
  exact ⟨x.toNat, by omega, by omega⟩
theorem i64_in {x : Int} (w : (Lit.int .i64 x).wf = true) : In64 x := by
  show _ ∧ _
  simpa [Lit.wf, IntKind.min, IntKind.max, IntKind.signed, IntKind.bits] using w

theorem c30 : Tryd.prog.cellsOf 30 = 1 := by kernel_rfl
theorem c9 : Tryd.prog.cellsOf 9 = 1 := by kernel_rfl
theorem c3 : Tryd.prog.cellsOf 3 = 1 := by kernel_rfl
theorem c2 : Tryd.prog.cellsOf 2 = 1 := by kernel_rfl
theorem c4 : Tryd.prog.cellsOf 4 = 1 := by kernel_rfl
theorem c24 : Tryd.prog.cellsOf 24 = 1 := by kernel_rfl
theorem c35 : Tryd.prog.cellsOf 35 = 1 := by kernel_rfl
theorem c36 : Tryd.prog.cellsOf 36 = 1 := by kernel_rfl
theorem c37 : Tryd.prog.cellsOf 37 = 1 := by kernel_rfl
theorem c39 : Tryd.prog.cellsOf 39 = 5 := by kernel_rfl
theorem c40 : Tryd.prog.cellsOf 40 = 1 := by kernel_rfl
theorem c41 : Tryd.prog.cellsOf 41 = 1 := by kernel_rfl
theorem c43 : Tryd.prog.cellsOf 43 = 7 := by kernel_rfl
theorem c46 : Tryd.prog.cellsOf 46 = 1 := by kernel_rfl
theorem c48 : Tryd.prog.cellsOf 48 = 3 := by kernel_rfl
theorem c59 : Tryd.prog.cellsOf 59 = 4 := by kernel_rfl

theorem max63 {n : Nat} (h : n ≤ maxLen) : n ≤ 9223372036854775807 := by simpa [maxLen] using h
theorem open_val (fuel : Nat) (cs : List Value) (x : DataW H × List MemPlace) (h : DataW.trod enc Tryd.prog W base sp held fuel 48 cs = some x) : ∃ v : Vl, cs = v.cs ∧ v.ok := by
  obtain ⟨hl, hf⟩ := field_at Tryd.underlying48 h
  rw [c48] at hl
  obtain ⟨a, b, c, rfl⟩ := three hl
  obtain ⟨n0, y0, h0⟩ := hf 0 _ rfl
  obtain ⟨n1, y1, h1⟩ := hf 1 _ rfl
  obtain ⟨n2, y2, h2⟩ := hf 2 _ rfl
  simp only [c3, c2, c9, List.getElem_toArray, List.getElem_cons_zero, List.getElem_cons_succ, List.drop_zero, List.drop_succ_cons, List.take_succ_cons, List.take_zero] at h0 h1 h2
  obtain ⟨k, e0, _, w0⟩ := DataW.trod_int Tryd.underlying3 h0
  obtain ⟨m, e1, _, w1⟩ := DataW.trod_int Tryd.underlying2 h1
  obtain ⟨s, e2, _, w2⟩ := DataW.trod_string Tryd.underlying9 h2
  simp only [List.cons.injEq, and_true] at e0 e1 e2
  subst e0; subst e1; subst e2
  exact ⟨⟨k, m, s⟩, rfl, i64_in w0, i64_in w1, max63 w2⟩
theorem open_pr (fuel : Nat) (cs : List Value) (x : DataW H × List MemPlace) (h : DataW.trod enc Tryd.prog W base sp held fuel 59 cs = some x) : ∃ p : Pr, cs = p.cs ∧ p.p.size ≤ 9223372036854775807 ∧ p.v.ok := by
  obtain ⟨hl, hf⟩ := field_at Tryd.underlying59 h
  rw [c59] at hl
  obtain ⟨a, b, c, d, rfl⟩ := four hl
  obtain ⟨n0, y0, h0⟩ := hf 0 _ rfl
  obtain ⟨n1, y1, h1⟩ := hf 1 _ rfl
  simp only [c48, c9, List.getElem_toArray, List.getElem_cons_zero, List.getElem_cons_succ, List.drop_zero, List.drop_succ_cons, List.take_succ_cons, List.take_zero] at h0 h1
  obtain ⟨s, e0, _, w0⟩ := DataW.trod_string Tryd.underlying9 h0
  obtain ⟨v, e1, hv⟩ := open_val _ _ _ h1
  simp only [List.cons.injEq, and_true, Vl.cs] at e0 e1
  obtain ⟨rfl, rfl, rfl⟩ := e1
  subst e0
  exact ⟨⟨s, v⟩, rfl, max63 w0, hv⟩
theorem open_id (fuel : Nat) (cs : List Value) (x : DataW H × List MemPlace) (h : DataW.trod enc Tryd.prog W base sp held fuel 30 cs = some x) : ∃ n : Nat, cs = [.int .u64 (n : Int)] ∧ n < 18446744073709551616 := by
  obtain ⟨k, rfl, _, w0⟩ := DataW.trod_int Tryd.underlying30 h
  obtain ⟨n, rfl, hn⟩ := u64_nat w0
  exact ⟨n, rfl, hn⟩
theorem open_st (fuel : Nat) (cs : List Value) (x : DataW H × List MemPlace) (h : DataW.trod enc Tryd.prog W base sp held fuel 9 cs = some x) : ∃ s : ByteArray, cs = [.string s] ∧ s.size ≤ 9223372036854775807 := by
  obtain ⟨s, rfl, _, w0⟩ := DataW.trod_string Tryd.underlying9 h
  exact ⟨s, rfl, max63 w0⟩
theorem open_inf (fuel : Nat) (cs : List Value) (x : DataW H × List MemPlace) (h : DataW.trod enc Tryd.prog W base sp held fuel 43 cs = some x) : ∃ y : Inf, cs = y.cs ∧ y.wide W := by
  obtain ⟨hl, hf⟩ := field_at Tryd.underlying43 h
  rw [c43] at hl
  obtain ⟨a0, a1, a2, a3, a4, a5, a6, rfl⟩ := seven hl
  obtain ⟨n0, y0, h0⟩ := hf 0 _ rfl
  obtain ⟨n1, y1, h1⟩ := hf 1 _ rfl
  obtain ⟨n2, y2, h2⟩ := hf 2 _ rfl
  obtain ⟨n3, y3, h3⟩ := hf 3 _ rfl
  obtain ⟨n4, y4, h4⟩ := hf 4 _ rfl
  obtain ⟨n5, y5, h5⟩ := hf 5 _ rfl
  obtain ⟨n6, y6, h6⟩ := hf 6 _ rfl
  simp only [c30, c4, c40, c9, c41, List.getElem_toArray, List.getElem_cons_zero, List.getElem_cons_succ, List.drop_zero, List.drop_succ_cons, List.take_succ_cons, List.take_zero] at h0 h1 h2 h3 h4 h5 h6
  obtain ⟨id, e0, hid⟩ := open_id _ _ _ h0
  obtain ⟨ed, e1, _⟩ := DataW.trod_bool Tryd.underlying4 h1
  obtain ⟨LA, ls, lc, e2, hln, hls, hlr⟩ := open_sl (fun s : ByteArray => [Value.string s]) 1 (by omega) (fun _ => rfl) c9 Tryd.underlying40 (fun s => s.size ≤ 9223372036854775807) open_st h2
  obtain ⟨ty, e3, hty⟩ := open_st _ _ _ h3
  obtain ⟨fr, e4, hfr⟩ := open_id _ _ _ h4
  obtain ⟨tw, e5, htw⟩ := open_id _ _ _ h5
  obtain ⟨PA, ps, pc, e6, hpn, hps, hpr⟩ := open_sl Pr.cs 4 (by omega) (fun _ => rfl) c59 Tryd.underlying41 (fun p => p.p.size ≤ 9223372036854775807 ∧ p.v.ok) open_pr h6
  simp only [List.cons.injEq, and_true] at e0 e1 e2 e3 e4 e5 e6
  subst e0; subst e1; subst e2; subst e3; subst e4; subst e5; subst e6
  refine ⟨⟨id, fr, tw, ed, ty, ls, ps, LA, PA, lc, pc⟩, rfl, hid, hfr, htw, hty, hls, max63 hln, hps, max63 hpn, ?_, ?_⟩
  · rcases hlr with h | ⟨g, o, e, hg, hc⟩
    · exact .inl h
    · exact .inr ⟨g, o, e, hg, fun i hi => by have := hc i hi 0 _ rfl; rwa [Nat.mul_one, Nat.add_zero] at this⟩
  · rcases hpr with h | ⟨g, o, e, hg, hc⟩
    · exact .inl h
    · exact .inr ⟨g, o, e, hg, fun i hi => ⟨hc i hi 0 _ rfl, hc i hi 1 _ rfl, hc i hi 2 _ rfl, hc i hi 3 _ rfl⟩⟩
theorem open_rw (fuel : Nat) (cs : List Value) (x : DataW H × List MemPlace) (h : DataW.trod enc Tryd.prog W base sp held fuel 46 cs = some x) : ∃ y : Rw, cs = [.slice y.A y.vs.length y.c] ∧ y.wide W := by
  obtain ⟨A, vs, c, e, hn, hv, hr⟩ := open_sl Vl.cs 3 (by omega) (fun _ => rfl) c48 Tryd.underlying46 Vl.ok open_val h
  refine ⟨⟨A, c, vs⟩, e, hv, max63 hn, ?_⟩
  rcases hr with h | ⟨g, o, e, hg, hc⟩
  · exact .inl h
  · exact .inr ⟨g, o, e, hg, fun i hi => ⟨hc i hi 0 _ rfl, hc i hi 1 _ rfl, hc i hi 2 _ rfl⟩⟩
theorem open_rep (fuel : Nat) (cs : List Value) (x : DataW H × List MemPlace) (h : DataW.trod enc Tryd.prog W base sp held fuel 39 cs = some x) : ∃ r : Rep, cs = r.cells.toList ∧ r.wide W := by
  obtain ⟨hl, hf⟩ := field_at Tryd.underlying39 h
  rw [c39] at hl
  obtain ⟨a0, a1, a2, a3, a4, rfl⟩ := five hl
  obtain ⟨n0, y0, h0⟩ := hf 0 _ rfl
  obtain ⟨n1, y1, h1⟩ := hf 1 _ rfl
  obtain ⟨n2, y2, h2⟩ := hf 2 _ rfl
  obtain ⟨n3, y3, h3⟩ := hf 3 _ rfl
  obtain ⟨n4, y4, h4⟩ := hf 4 _ rfl
  simp only [c24, c30, c35, c36, c37, List.getElem_toArray, List.getElem_cons_zero, List.getElem_cons_succ, List.drop_zero, List.drop_succ_cons, List.take_succ_cons, List.take_zero] at h0 h1 h2 h3 h4
  obtain ⟨er, e0, _, w0⟩ := DataW.trod_int Tryd.underlying24 h0
  obtain ⟨id, e1, hid⟩ := open_id _ _ _ h1
  obtain ⟨IA, is, ic, e2, hin, hi, hir⟩ := open_sl (fun n : Nat => [Value.int .u64 (n : Int)]) 1 (by omega) (fun _ => rfl) c30 Tryd.underlying35 (fun n => n < 18446744073709551616) open_id h2
  obtain ⟨FA, fs, fc, e3, hfn, hf3, hfr⟩ := open_sl Inf.cs 7 (by omega) (fun _ => rfl) c43 Tryd.underlying36 (fun y => y.wide W) open_inf h3
  obtain ⟨RA, rs, rc, e4, hrn, hr4, hrr⟩ := open_sl (fun y : Rw => [Value.slice y.A y.vs.length y.c]) 1 (by omega) (fun _ => rfl) c46 Tryd.underlying37 (fun y => y.wide W) open_rw h4
  simp only [List.cons.injEq, and_true] at e0 e1 e2 e3 e4
  subst e0; subst e1; subst e2; subst e3; subst e4
  refine ⟨⟨er, id, is, fs, rs, IA, FA, RA, ic, fc, rc⟩, rfl, i64_in w0, hid, hi, max63 hin, max63 hfn, max63 hrn, hf3, hr4, ?_, ?_, ?_⟩
  · rcases hir with h | ⟨g, o, e, hg, hc⟩
    · exact .inl h
    · exact .inr ⟨g, o, e, hg, fun i hi => by have := hc i hi 0 _ rfl; rwa [Nat.mul_one, Nat.add_zero] at this⟩
  · rcases hfr with h | ⟨g, o, e, hg, hc⟩
    · exact .inl h
    · exact .inr ⟨g, o, e, hg, fun i hi => ⟨hc i hi 0 _ rfl, hc i hi 1 _ rfl, hc i hi 2 _ rfl, hc i hi 3 _ rfl, hc i hi 4 _ rfl, hc i hi 5 _ rfl, hc i hi 6 _ rfl⟩⟩
  · rcases hrr with h | ⟨g, o, e, hg, hc⟩
    · exact .inl h
    · exact .inr ⟨g, o, e, hg, fun i hi => by have := hc i hi 0 _ rfl; rwa [Nat.mul_one, Nat.add_zero] at this⟩
theorem open_reply {r : Reach} {b0 : Nat} {v : Value} {d : DataW H} {p : List MemPlace} (hv : Value.okWide Tryd.prog W r b0 39 v) (h : DataW.Trod enc Tryd.prog W base sp held 39 v d p) : ∃ x : Rep, v = .agg x.cells ∧ x.wide W := by
  obtain ⟨cs, rfl, hsz⟩ := okWide_struct Tryd.underlying39 hv
  obtain ⟨fuel, hf⟩ := h
  obtain ⟨x, e, hx⟩ := open_rep _ _ _ hf
  refine ⟨x, ?_, hx⟩
  have e2 : cs.toList = x.cells.toList := e
  rw [Array.toList_inj.1 e2]
end
end Go.Proofs.YtkcgnodmjmpnhaaDoor
