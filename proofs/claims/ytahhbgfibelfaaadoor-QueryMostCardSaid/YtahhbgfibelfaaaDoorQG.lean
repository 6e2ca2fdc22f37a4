import Derived.Test.YtahhbgfibelfaaaDoorQF
namespace Go.Proofs.YtahhbgfibelfaaaDoor
open Go.RowKit Go.Lib
set_option linter.unusedVariables false

attribute [local go_sem] wfld0 wfld1 wfld2 wfld3
/-! ### A question that is read -/
def GRow (w : World) (A : Option Addr) (xs : List Value) : Prop := xs = [] ∨ ∃ g o, A = some ⟨g, o, none⟩ ∧ g < w.heap.size ∧ ∀ j u, xs[j]? = some u → w.cell? ⟨g, o + j, none⟩ = some u
theorem GRow.up {w w' : World} {A : Option Addr} {xs : List Value} (h : GRow w A xs) (hb : Below w.heap.size w w') : GRow w' A xs := by
  rcases h with h | ⟨g, o, e, hg, hc⟩
  · exact .inl h
  · exact .inr ⟨g, o, e, Nat.lt_of_lt_of_le hg hb.size, fun j u hu => (hb.cell (p := ⟨g, o + j, none⟩) hg).trans (hc j u hu)⟩
theorem GRow.of_mid {w : World} {B e size n : Nat} {v : Value} {xs : List Value} (h : Mid w B e size v n xs) : ∃ A k, v = .slice A n k ∧ GRow w A xs := by
  obtain ⟨A, k, hv, _, _, hr⟩ := h.form
  refine ⟨A, k, hv, ?_⟩
  rcases h.2 with ⟨_, h0⟩ | ⟨g, off, cap, cur, hv2, hb, hh, _⟩
  · left
    apply List.eq_nil_of_length_eq_zero
    rw [h.1, h0, Nat.zero_mul]
  · right
    rw [hv] at hv2
    injection hv2 with e1 _ _
    subst e1
    refine ⟨g, off, rfl, hh.lt, fun j u hu => ?_⟩
    obtain ⟨ad, e, hc⟩ := hr (by have := (List.getElem?_eq_some_iff.1 hu).1; omega)
    injection e with e
    subst e
    have := hc j u hu
    rwa [add_at] at this
structure QuRd (w : World) (A1 A2 A3 A4 : Option Addr) (ns : List NV) (es : List Ed) (cs : List Co) (ts : List It) : Prop where
  r1 : GRow w A1 (ns.flatMap nvC)
  rp : ∀ x ∈ ns, ∃ A k, x.2 = .slice A x.1.ps.length k ∧ GRow w A (prsC x.1.ps)
  r2 : GRow w A2 (es.flatMap edC)
  r3 : GRow w A3 (cs.flatMap coC)
  r4 : GRow w A4 (ts.flatMap itC)
  l1 : ns.length ≤ 2000000
  lp : ∀ x ∈ ns, x.1.ps.length ≤ 2000000
  l2 : es.length ≤ 2000000
  l3 : cs.length ≤ 2000000
  l4 : ts.length ≤ 2000000
theorem QuRd.up {w w' : World} {A1 A2 A3 A4 : Option Addr} {ns : List NV} {es : List Ed} {cs : List Co} {ts : List It} (h : QuRd w A1 A2 A3 A4 ns es cs ts) (hb : Below w.heap.size w w') : QuRd w' A1 A2 A3 A4 ns es cs ts :=
  ⟨h.r1.up hb, fun x hx => by obtain ⟨A, k, e, hr⟩ := h.rp x hx; exact ⟨A, k, e, hr.up hb⟩, h.r2.up hb, h.r3.up hb, h.r4.up hb, h.l1, h.lp, h.l2, h.l3, h.l4⟩
theorem fm_at {α : Type} (f : α → List Value) (k : Nat) (hf : ∀ x, (f x).length = k) (l : List α) (i j : Nat) (hi : i < l.length) (hj : j < k) : (l.flatMap f)[i * k + j]? = (f l[i])[j]? := by
  induction l generalizing i with
  | nil => simp at hi
  | cons x r ih =>
    rw [List.flatMap_cons]
    cases i with
    | zero =>
      rw [List.getElem?_append_left (by rw [hf]; omega)]
      simp
    | succ i =>
      have e : (i + 1) * k + j - (f x).length = i * k + j := by rw [hf, Nat.add_mul]; omega
      rw [List.getElem?_append_right (by rw [hf, Nat.add_mul]; omega), e, ih i (by simpa using hi)]
      simp
/-- The cells of an element of a row of structs. -/
theorem row_at {α : Type} {w : World} {A : Option Addr} {f : α → List Value} {k : Nat} {l : List α} (h : GRow w A (l.flatMap f)) (hf : ∀ x, (f x).length = k) (hk : 0 < k) {i : Nat} (hi : i < l.length) :
    ∃ g o, A = some ⟨g, o, none⟩ ∧ g < w.heap.size ∧ ∀ j u, j < k → (f l[i])[j]? = some u → w.cell? ⟨g, o + i * k + j, none⟩ = some u := by
  have hpos : 0 < (l.flatMap f).length := by rw [fm_len f k hf]; exact Nat.mul_pos (by omega) hk
  rcases h with h | ⟨g, o, e, hg, hc⟩
  · rw [h] at hpos; exact absurd hpos (by simp)
  · exact ⟨g, o, e, hg, fun j u hj hu => by rw [Nat.add_assoc]; exact hc _ _ ((fm_at f k hf l i j hi hj).trans hu)⟩
theorem info_str : (Tryd.prog.info? 9).map (fun i => (i.zero, i.size, i.bytes)) = some (some (.string ⟨#[]⟩), 1, 16) := by kernel_rfl
/-- The texts of a list, as cells. -/
def stC (l : List ByteArray) : List Value := l.map Value.string
theorem stC_snoc (l : List ByteArray) (x : ByteArray) : stC l ++ [.string x] = stC (l ++ [x]) := by unfold stC; simp
theorem str_one (x : ByteArray) : ∀ u ∈ [Value.string x], u.oneCell' = true := by intro u hu; rw [List.mem_singleton] at hu; rw [hu]; rfl
theorem take_snoc {α : Type} (l : List α) (j : Nat) (h : j < l.length) : l.take (j + 1) = l.take j ++ [l[j]] := by rw [List.take_add_one, List.getElem?_eq_getElem h]; rfl
def qvars (ns : List NV) (es : List Ed) : List ByteArray := ns.map (fun x => x.1.v) ++ es.map (fun x => x.v)
def quV (A1 A2 A3 A4 : Option Addr) (n1 n2 n3 n4 k1 k2 k3 k4 : Nat) (m : Int) : Array Value := #[.slice A1 n1 k1, .slice A2 n2 k2, .slice A3 n3 k3, .slice A4 n4 k4, .int .i64 m]
theorem nvC_len (x : NV) : (nvC x).length = 3 := rfl
theorem edC_len (x : Ed) : (edC x).length = 3 := rfl
theorem coC_len (x : Co) : (coC x).length = 6 := rfl
theorem itC_len (x : It) : (itC x).length = 2 := rfl
theorem Only.addr {w w' : World} {B : Nat} (hb : Below B w w') {g : Nat} (h : g < B) (k : Nat) : w'.cell? ⟨g, k, none⟩ = w.cell? ⟨g, k, none⟩ := hb.cell h
set_option maxHeartbeats 4000000 in
set_option maxRecDepth 100000 in
theorem vars_ok (w : World) (A1 A2 A3 A4 : Option Addr) (n3 n4 k1 k2 k3 k4 : Nat) (m : Int) (ns : List NV) (es : List Ed) (h1 : GRow w A1 (ns.flatMap nvC)) (hV : ∀ x ∈ ns, ∃ A k, x.2 = .slice A x.1.ps.length k) (h2 : GRow w A2 (es.flatMap edC)) (l1 : ns.length ≤ 2000000) (l2 : es.length ≤ 2000000) :
    Calls Tryd.prog 22 #[.agg (quV A1 A2 A3 A4 ns.length es.length n3 n4 k1 k2 k3 k4 m)] w fun e w' => ∃ v, e = .returned v ∧ Mid w' w.heap.size 9 1 v (qvars ns es).length (stC (qvars ns es)) ∧ Below w.heap.size w w' := by
  obtain ⟨i9, hi9, hz0, hz1, hz2⟩ := info_parts info_str
  have H1 := Lib.hid h1
  have H2 := Lib.hid h2
  have HBX := Lib.hid (Blk.new w 27 (quV A1 A2 A3 A4 ns.length es.length n3 n4 k1 k2 k3 k4 m))
  have HB0 := Lib.hid ((Below.refl w.heap.size w).alloc (Nat.le_refl _) (.cells (quV A1 A2 A3 A4 ns.length es.length n3 n4 k1 k2 k3 k4 m) 27))
  clear h1 h2
  unfold quV at *
  go_enter Tryd.func22, Tryd.ntmps22
  go_wp2_with fail
  have hsz0 : w.heap.size < (w.alloc (.cells #[.slice A1 ns.length k1, .slice A2 es.length k2, .slice A3 n3 k3, .slice A4 n4 k4, .int .i64 m] 27)).heap.size := by simp
  generalize hw0 : w.alloc (.cells #[.slice A1 ns.length k1, .slice A2 es.length k2, .slice A3 n3 k3, .slice A4 n4 k4, .int .i64 m] 27) = w0 at *
  clear hw0
  go_loopg [3, 5, 11] ns.length (fun q v z i wr => ∃ (j : Nat), q + j = ns.length ∧ i = .int .i64 (j : Int) ∧ Mid wr w.heap.size 9 1 v (j) (stC ((ns.take j).map fun x => x.1.v)) ∧ Below w.heap.size w wr ∧ Blk wr w.heap.size 27 #[.slice A1 ns.length k1, .slice A2 es.length k2, .slice A3 n3 k3, .slice A4 n4 k4, .int .i64 m])
  case atStart => exact ⟨0, by omega, rfl, Mid.nil _ _ _ _, HB0.out, HBX.out⟩
  case round =>
    obtain ⟨j, hj, rfl, hm, hb, hx⟩ := hrel
    skip
    have HM := Lib.hid hm
    have HB := Lib.hid hb
    have HX := Lib.hid hx
    have hsz := hb.size
    have hszx := hx.lt
    clear hm hb hx HB0 HBX
    by_cases hlt : j < ns.length
    · obtain ⟨g, o, rfl, hal, hc⟩ := row_at H1.out nvC_len (by omega) hlt
      have HT := Lib.hid (take_snoc ns j hlt)
      obtain ⟨xA, xk, hxV⟩ := hV _ (List.getElem_mem hlt)
      generalize ns[j] = x at *
      obtain ⟨⟨xv, xl, xp⟩, xV⟩ := x
      simp only at hxV
      subst hxV
      have a0 := (Only.addr HB.out hal _).trans (hc 0 _ (by omega) rfl)
      have a1 := (Only.addr HB.out hal _).trans (hc 1 _ (by omega) rfl)
      have a2 := (Only.addr HB.out hal _).trans (hc 2 _ (by omega) rfl)
      simp only [Nat.add_zero] at a0
      clear hc
      have HM2 := Lib.hid ((HM.out.alloc (.cells #[.string xv, .string xl, .slice xA xp.length xk] 53)).alloc (.cells #[.string xv] 9))
      go_wp2_with (at_builtin; refine wpList_append_mid _ rfl (.tmp 15) (.tmp 18) 65 rfl w.heap.size 9 i9 _ 1 16 Tryd.underlying65 hi9 hz0 hz1 hz2 rfl (by decide) _ _ _ rfl HM2.out (some ⟨wr.heap.size + 1, 0, none⟩) 1 1 [.string xv] rfl rfl (row_new _ _ _ (by simp)) (str_one _) (by simp only [maxLen]; omega) (by omega) (by simp; omega) ?_; intro v1 w1 hm1 hg1 ho1; have HM1 := Lib.hid hm1; have HG1 := Lib.hid hg1; clear hm1 hg1 ho1)
      go_roundg (gk - 1)
      case measure => omega
      case rel =>
        refine ⟨j + 1, by omega, by go_num, by have hh := HM1.out; rw [stC_snoc] at hh; rw [HT.out, List.map_append]; exact hh, ?_, ?_⟩
        · exact ((HB.out.alloc (by omega) _).alloc (by simp; omega) _).grown HG1.out (by simp; omega) (fun a ha => (HM2.out.block a ha).1)
        · exact ((HX.out.alloc _).alloc _).grown HG1.out (fun e => HM2.out.ne_blk ((HX.out.alloc (.cells #[.string xv, .string xl, .slice xA xp.length xk] 53)).alloc (.cells #[.string xv] 9)) (by decide) e.symm)
    · have hj2 : j = ns.length := by omega
      subst hj2
      rw [List.take_of_length_le (Nat.le_refl _)] at HM
      have c1 := HX.out.cell 1
      clear hlt
      go_wp2_with fail
      go_loopg [3, 7, 24] es.length (fun q v z i wr => ∃ (j : Nat), q + j = es.length ∧ i = .int .i64 (j : Int) ∧ Mid wr w.heap.size 9 1 v (ns.length + j) (stC (ns.map (fun x => x.1.v) ++ (es.take j).map fun x => x.v)) ∧ Below w.heap.size w wr ∧ Blk wr w.heap.size 27 #[.slice A1 ns.length k1, .slice A2 es.length k2, .slice A3 n3 k3, .slice A4 n4 k4, .int .i64 m])
      case atStart => exact ⟨0, by omega, rfl, by simpa using HM.out, HB.out, HX.out⟩
      case round =>
        obtain ⟨j, hj, rfl, hm, hb, hx⟩ := hrel
        clear HM HB HX
        have HM := Lib.hid hm
        have HB := Lib.hid hb
        have HX := Lib.hid hx
        have hsz := hb.size
        have hszx := hx.lt
        clear hm hb hx 
        by_cases hlt : j < es.length
        · obtain ⟨g, o, rfl, hal, hc⟩ := row_at H2.out edC_len (by omega) hlt
          have HT := Lib.hid (take_snoc es j hlt)
          generalize es[j] = x at *
          obtain ⟨xv, xl, xo⟩ := x
          have a0 := (Only.addr HB.out hal _).trans (hc 0 _ (by omega) rfl)
          have a1 := (Only.addr HB.out hal _).trans (hc 1 _ (by omega) rfl)
          have a2 := (Only.addr HB.out hal _).trans (hc 2 _ (by omega) rfl)
          simp only [Nat.add_zero] at a0
          clear hc
          have HM2 := Lib.hid ((HM.out.alloc (.cells #[.string xv, .string xl, .bool xo] 42)).alloc (.cells #[.string xv] 9))
          go_wp2_with (at_builtin; refine wpList_append_mid _ rfl (.tmp 28) (.tmp 31) 65 rfl w.heap.size 9 i9 _ 1 16 Tryd.underlying65 hi9 hz0 hz1 hz2 rfl (by decide) _ _ _ rfl HM2.out (some ⟨wr.heap.size + 1, 0, none⟩) 1 1 [.string xv] rfl rfl (row_new _ _ _ (by simp)) (str_one _) (by simp only [maxLen]; omega) (by omega) (by simp; omega) ?_; intro v1 w1 hm1 hg1 ho1; have HM1 := Lib.hid hm1; have HG1 := Lib.hid hg1; clear hm1 hg1 ho1)
          go_roundg (gk - 1)
          case measure => omega
          case rel =>
            refine ⟨j + 1, by omega, by go_num, by have hh := HM1.out; rw [stC_snoc, List.append_assoc] at hh; rw [HT.out, List.map_append]; exact hh, ?_, ?_⟩
            · exact ((HB.out.alloc (by omega) _).alloc (by simp; omega) _).grown HG1.out (by simp; omega) (fun a ha => (HM2.out.block a ha).1)
            · exact ((HX.out.alloc _).alloc _).grown HG1.out (fun e => HM2.out.ne_blk ((HX.out.alloc (.cells #[.string xv, .string xl, .bool xo] 42)).alloc (.cells #[.string xv] 9)) (by decide) e.symm)
        · have hj2 : j = es.length := by omega
          subst hj2
          rw [List.take_of_length_le (Nat.le_refl _)] at HM
          clear hlt
          go_wp2_with fail
          go_ret
          refine ⟨_, rfl, ?_, HB.out⟩
          have hl : (qvars ns es).length = ns.length + es.length := by simp [qvars]
          rw [hl]
          exact HM.out

end Go.Proofs.YtahhbgfibelfaaaDoor
