import Derived.Test.YtahhbgfibelfaaaDoorQI
import Derived.Test.YtahhbgfibelfaaaDoorQ2
namespace Go.Proofs.YtahhbgfibelfaaaDoor
open Go.RowKit Go.Lib
set_option linter.unusedVariables false

attribute [local go_sem] wfld0 wfld1 wfld2 wfld3
/-! ### The words that a text has are such as the parser may read -/
theorem numF_le (l : List UInt8) (v : Nat) (h : numF 0 l = some v) : v ≤ 9223372036854775807 := ((pu_num l 0 (by omega)).1 v h).2
theorem txt_len : ∀ (l acc : List UInt8) (n : Nat) (t : List UInt8) (m : Nat), txt l acc n = some (t, m) → t.length ≤ acc.length + l.length
  | [], _, _, _, _, h => by simp [txt] at h
  | c :: r, acc, n, t, m, h => by
    unfold txt at h
    split at h
    · simp only [Option.some.injEq, Prod.mk.injEq] at h
      obtain ⟨rfl, -⟩ := h
      simp only [List.length_cons]; omega
    · split at h
      · cases h
      · split at h
        · split at h
          · cases h
          · split at h
            · rename_i d r' _
              have := txt_len r' _ _ _ _ h
              simp only [List.length_cons, List.length_append, List.length_nil] at this ⊢; omega
            · cases h
        · have := txt_len r _ _ _ _ h
          simp only [List.length_cons, List.length_append, List.length_nil] at this ⊢; omega
theorem all_takeWhile {p : UInt8 → Bool} (l : List UInt8) : (l.take (l.takeWhile p).length).all p = true := by
  have e : l.take (l.takeWhile p).length = l.takeWhile p := (List.prefix_iff_eq_take.1 (List.takeWhile_prefix p)).symm
  rw [e]
  exact List.all_takeWhile
theorem one_ok (s : ByteArray) (n : Nat) (hs : s.size ≤ 1000000) (hn : n < s.size) (h : ¬ (oneS s n).2 = 0) : ∃ x : Wd, (oneS s n).1 = x.cells ∧ WdOk x := by
  have hrl := rem_length s n
  have hrc := rem_cons hn
  have hex := extract_rem s n
  have hrn : runs isN s n = ((rem s n).takeWhile isN).length := rfl
  unfold oneS at h ⊢
  rw [hrn] at h ⊢
  generalize rem s n = L at *
  generalize rem s (n + 1) = R at *
  generalize s[n] = c at *
  subst hrc
  simp only [hex] at h ⊢
  simp only [List.length_cons] at hrl
  clear hex hrn
  by_cases h1 : isL c = true
  · rw [if_pos h1]
    have hN : isN c = true := by unfold isN; rw [h1]; rfl
    refine ⟨⟨1, ⟨((c :: R).take ((c :: R).takeWhile isN).length).toArray⟩, 0, n⟩, rfl, by simp, by simp, by simp, by simp; omega, ?_, fun _ => ⟨?_, ?_⟩⟩
    · show ((c :: R).take _).toArray.size ≤ _
      simp only [List.size_toArray, List.length_take, List.length_cons]; omega
    · show 0 < ((c :: R).take _).toArray.size
      rw [List.takeWhile_cons_of_pos hN]
      simp
    · show (((c :: R).take _).toArray.toList).all isN = true
      exact all_takeWhile _
  · rw [if_neg h1] at h ⊢
    by_cases h2 : isD c = true
    · rw [if_pos h2] at h ⊢
      cases hv : numF 0 ((c :: R).take ((c :: R).takeWhile isN).length) with
      | none => rw [hv] at h; exact absurd rfl h
      | some v =>
        have := numF_le _ _ hv
        exact ⟨⟨2, ⟨#[]⟩, v, n⟩, rfl, by simp, by simp; omega, by simp, by simp; omega, by show (0 : Nat) ≤ _; omega, fun e => by simp at e⟩
    · rw [if_neg h2] at h ⊢
      by_cases h3 : c.toNat = 34
      · rw [if_pos h3] at h ⊢
        cases hx : txt R [] 1 with
        | none => rw [hx] at h; exact absurd rfl h
        | some tm =>
          obtain ⟨t, m⟩ := tm
          have := txt_len _ _ _ _ _ hx
          refine ⟨⟨3, ⟨t.toArray⟩, 0, n⟩, rfl, by simp, by simp, by simp, by simp; omega, ?_, fun e => by simp at e⟩
          show t.toArray.size ≤ _
          simp only [List.size_toArray, List.length_nil] at *; omega
      · rw [if_neg h3] at h ⊢
        refine ⟨⟨4, ⟨((c :: R).take (mk (c :: R))).toArray⟩, 0, n⟩, rfl, by simp, by simp, by simp, by simp; omega, ?_, fun e => by simp at e⟩
        show ((c :: R).take _).toArray.size ≤ _
        simp only [List.size_toArray, List.length_take, List.length_cons]; omega
theorem wds_ok (s : ByteArray) (hs : s.size ≤ 1000000) : ∀ (f n : Nat) (ws : List Wd) (o : List Value), (∀ x ∈ ws, WdOk x) → wds s f n (flat ws) = .inr o → ∃ ws', o = flat ws' ∧ ∀ x ∈ ws', WdOk x
  | 0, _, ws, o, hw, h => by
    simp only [wds, Sum.inr.injEq] at h
    exact ⟨ws, h.symm, hw⟩
  | f + 1, n, ws, o, hw, h => by
    unfold wds at h
    split at h
    · rename_i hn
      split at h
      · exact wds_ok s hs f _ ws o hw h
      · split at h
        · cases h
        · rename_i h0
          obtain ⟨x, hx, hok⟩ := one_ok s n hs hn h0
          rw [hx, flat_snoc] at h
          exact wds_ok s hs f _ _ o (fun y hy => by
            rcases List.mem_append.1 hy with hy | hy
            · exact hw y hy
            · rw [List.mem_singleton] at hy; rw [hy]; exact hok) h
    · simp only [Sum.inr.injEq] at h
      exact ⟨ws, h.symm, hw⟩
theorem flat_inj : ∀ {a b : List Wd}, flat a = flat b → a = b
  | [], [], _ => rfl
  | [], y :: r, h => by simp [flat, Wd.cells] at h
  | x :: r, [], h => by simp [flat, Wd.cells] at h
  | x :: r, y :: t, h => by
    unfold flat at h
    simp only [List.flatMap_cons, Wd.cells, List.cons_append, List.nil_append, List.cons.injEq, Value.int.injEq, Value.string.injEq, true_and] at h
    obtain ⟨h1, h2, h3, h4, h5⟩ := h
    have := flat_inj (a := r) (b := t) h5
    obtain ⟨xk, xs, xv, xn⟩ := x
    obtain ⟨yk, ys, yv, yn⟩ := y
    simp only at h1 h2 h3 h4
    subst h1 h2 h3 h4 this
    rfl
/-! ### What a text says -/
def endW (s : ByteArray) : Wd := ⟨0, ⟨#[]⟩, 0, s.size⟩
def finW (s : ByteArray) (r : Ps × Qu) : (Int × Int) ⊕ Qu := if r.1.b < 0 then (if r.2.may then .inr r.2 else .inl (s.size, 330)) else .inl (r.1.b, 330)
def ParseR (s : ByteArray) (r : (Int × Int) ⊕ Qu) : Prop :=
  (1000 < s.size ∧ r = .inl (0, 4)) ∨ (¬ 1000 < s.size ∧ ((∃ n : Nat, wds s (s.size + 1) 0 [] = .inl n ∧ r = .inl (n, 320)) ∨ ∃ ws, wds s (s.size + 1) 0 [] = .inr (flat ws) ∧ r = finW s (questW ⟨ws ++ [endW s], -1⟩)))
theorem ParseR.uniq {s : ByteArray} {r1 r2 : (Int × Int) ⊕ Qu} (h1 : ParseR s r1) (h2 : ParseR s r2) : r1 = r2 := by
  rcases h1 with ⟨a, rfl⟩ | ⟨a, ⟨n, e, rfl⟩ | ⟨ws, e, rfl⟩⟩ <;> rcases h2 with ⟨b, rfl⟩ | ⟨b, ⟨n', e', rfl⟩ | ⟨ws', e', rfl⟩⟩
  · rfl
  · exact absurd a b
  · exact absurd a b
  · exact absurd b a
  · rw [e] at e'; injection e' with e'; rw [e']
  · rw [e] at e'; cases e'
  · exact absurd b a
  · rw [e] at e'; cases e'
  · rw [e] at e'; injection e' with e'; rw [flat_inj e']
/-- What is answered to a text. -/
def ParsePost (s : ByteArray) (w : World) (e : Ending) (w' : World) : Prop :=
  Below w.heap.size w w' ∧ ∃ r, ParseR s r ∧ match r with
    | .inl (a, k) => e = .returned (.tuple #[.agg quZ, .int .i64 a, .int .i64 k])
    | .inr x => ∃ V1 V2 V3 V4 ns, e = .returned (.tuple #[.agg #[V1, V2, V3, V4, .int .i64 x.m], .int .i64 0, .int .i64 0]) ∧ QuAt w' w.heap.size V1 V2 V3 V4 ns x
/-! ### How much a question is -/
theorem edge_le (p : Ps) : p.edge.l.length ≤ p.l.length := by
  have h0 : (if p.is 4 mBack then p.nx else p.must 4 mMinus).l.length ≤ p.l.length := by
    split
    · exact nx_le p
    · exact must_le _ _ _
  exact Nat.le_trans (must_le _ _ _) (Nat.le_trans (must_le _ _ _) (Nat.le_trans (opt_le _ _) (Nat.le_trans (name_le _ _) (Nat.le_trans (must_le _ _ _) h0))))
theorem curlV_len (p : Ps) : p.curlV.length ≤ p.l.length := by
  unfold Ps.curlV
  split
  · have := propsW_len p.l.length p.nx []
    simpa using this
  · simp
theorem nodeV_len (p : Ps) : p.nodeV.ps.length ≤ p.l.length := Nat.le_trans (curlV_len _) (Nat.le_trans (opt_le _ _) (Nat.le_trans (name_le _ _) (must_le _ _ _)))
theorem edgesW_bd (N : Nat) : ∀ (f : Nat) (p : Ps) (es : List Ed) (ns : List Nd), p.l.length ≤ N → (∀ x ∈ ns, x.ps.length ≤ N) →
    (∀ x ∈ (edgesW f p es ns).2.2, x.ps.length ≤ N) ∧ (edgesW f p es ns).2.1.length ≤ es.length + f ∧ (edgesW f p es ns).2.2.length ≤ ns.length + f ∧ (edgesW f p es ns).1.l.length ≤ N
  | 0, p, es, ns, hp, hn => ⟨hn, Nat.le_refl _, Nat.le_refl _, hp⟩
  | f + 1, p, es, ns, hp, hn => by
    unfold edgesW
    split
    · have h := edgesW_bd N f p.edge.node (es ++ [p.edgeV]) (ns ++ [p.edge.nodeV]) (Nat.le_trans (node_le _) (Nat.le_trans (edge_le _) hp)) (fun x hx => by
        rcases List.mem_append.1 hx with hx | hx
        · exact hn x hx
        · rw [List.mem_singleton] at hx; rw [hx]; exact Nat.le_trans (nodeV_len _) (Nat.le_trans (edge_le _) hp))
      obtain ⟨h1, h2, h3, h4⟩ := h
      exact ⟨h1, Nat.le_trans h2 (by simp; omega), Nat.le_trans h3 (by simp; omega), h4⟩
    · exact ⟨hn, Nat.le_add_right _ _, Nat.le_add_right _ _, hp⟩
theorem condsW_len : ∀ (f : Nat) (p : Ps) (acc : List Co), (condsW f p acc).2.length ≤ acc.length + f
  | 0, p, acc => Nat.le_refl _
  | f + 1, p, acc => by
    unfold condsW
    split
    · have := condsW_len f p.cond.nx (acc ++ [p.condV]); simp at this; omega
    · simp
theorem condsW_le : ∀ (f : Nat) (p : Ps) (acc : List Co), (condsW f p acc).1.l.length ≤ p.l.length
  | 0, p, acc => Nat.le_refl _
  | f + 1, p, acc => by
    unfold condsW
    split
    · exact Nat.le_trans (condsW_le f _ _) (Nat.le_trans (nx_le _) (cond_le p))
    · exact cond_le p
theorem itemsW_len : ∀ (f : Nat) (p : Ps) (acc : List It), (itemsW f p acc).2.length ≤ acc.length + f
  | 0, p, acc => Nat.le_refl _
  | f + 1, p, acc => by
    unfold itemsW
    split
    · have := itemsW_len f p.item.nx (acc ++ [p.itemV]); simp at this; omega
    · simp
theorem quest_bd (p : Ps) (N : Nat) (h : p.l.length ≤ N) : (questW p).2.ns.length ≤ N + 1 ∧ (∀ x ∈ (questW p).2.ns, x.ps.length ≤ N) ∧ (questW p).2.es.length ≤ N ∧ (questW p).2.ws.length ≤ N ∧ (questW p).2.ts.length ≤ N := by
  have h0 : (p.must 1 kFind).node.l.length ≤ N := Nat.le_trans (node_le _) (Nat.le_trans (must_le _ _ _) h)
  obtain ⟨h1, h2, h3, h4⟩ := edgesW_bd N (p.must 1 kFind).node.l.length (p.must 1 kFind).node [] [(p.must 1 kFind).nodeV] h0 (fun x hx => by
    rw [List.mem_singleton] at hx; rw [hx]; exact Nat.le_trans (nodeV_len _) (Nat.le_trans (must_le _ _ _) h))
  simp only [List.length_nil, List.length_cons] at h2 h3
  refine ⟨by show (edgesW _ _ _ _).2.2.length ≤ _; omega, h1, by show (edgesW _ _ _ _).2.1.length ≤ _; omega, ?_, ?_⟩
  · show (Ps.whereP _).2.length ≤ N
    generalize (edgesW (p.must 1 kFind).node.l.length (p.must 1 kFind).node [] [(p.must 1 kFind).nodeV]).1 = r at *
    unfold Ps.whereP
    split
    · have := condsW_len r.l.length r.nx []; simp only [List.length_nil] at this; omega
    · exact Nat.zero_le _
  · show (Ps.tellP _).2.length ≤ N
    generalize (edgesW (p.must 1 kFind).node.l.length (p.must 1 kFind).node [] [(p.must 1 kFind).nodeV]).1 = r at *
    have hw : r.whereP.1.l.length ≤ N := by
      unfold Ps.whereP
      split
      · exact Nat.le_trans (condsW_le _ _ _) (Nat.le_trans (nx_le _) h4)
      · exact h4
    generalize r.whereP.1 = r2 at *
    unfold Ps.tellP
    split
    · have := itemsW_len r2.l.length r2.nx []; simp only [List.length_nil] at this; omega
    · exact Nat.zero_le _
theorem QuAt.rd {w : World} {B : Nat} {V1 V2 V3 V4 : Value} {ns : List NV} {x : Qu} (h : QuAt w B V1 V2 V3 V4 ns x) (N : Nat) (hN : N ≤ 1999999) (hb : x.ns.length ≤ N + 1 ∧ (∀ y ∈ x.ns, y.ps.length ≤ N) ∧ x.es.length ≤ N ∧ x.ws.length ≤ N ∧ x.ts.length ≤ N) :
    ∃ A1 A2 A3 A4 k1 k2 k3 k4, V1 = .slice A1 ns.length k1 ∧ V2 = .slice A2 x.es.length k2 ∧ V3 = .slice A3 x.ws.length k3 ∧ V4 = .slice A4 x.ts.length k4 ∧ QuRd w A1 A2 A3 A4 ns x.es x.ws x.ts := by
  obtain ⟨A1, k1, e1, r1⟩ := GRow.of_mid h.m1
  obtain ⟨A2, k2, e2, r2⟩ := GRow.of_mid h.m2
  obtain ⟨A3, k3, e3, r3⟩ := GRow.of_mid h.m3
  obtain ⟨A4, k4, e4, r4⟩ := GRow.of_mid h.m4
  have hl : ns.length = x.ns.length := by rw [← h.n, List.length_map]
  refine ⟨A1, A2, A3, A4, k1, k2, k3, k4, e1, e2, e3, e4, ⟨r1, fun y hy => GRow.of_mid (h.p1 y hy), r2, r3, r4, by omega, fun y hy => ?_, by omega, by omega, by omega⟩⟩
  have hm : y.1 ∈ x.ns := by rw [← h.n]; exact List.mem_map_of_mem hy
  have := hb.2.1 _ hm
  omega
theorem QuAt.up {w w' : World} {B : Nat} {V1 V2 V3 V4 : Value} {ns : List NV} {x : Qu} (h : QuAt w B V1 V2 V3 V4 ns x) (hb : Below w.heap.size w w') : QuAt w' B V1 V2 V3 V4 ns x := by
  have k : ∀ {e size n : Nat} {v : Value} {xs : List Value}, Mid w B e size v n xs → Mid w' B e size v n xs := fun hm => hm.only (Only.of_below hb []) (by simp)
  exact ⟨h.n, k h.m1, fun y hy => k (h.p1 y hy), k h.m2, k h.m3, k h.m4⟩
theorem QuAt.mono {w : World} {B B' : Nat} {V1 V2 V3 V4 : Value} {ns : List NV} {x : Qu} (h : QuAt w B V1 V2 V3 V4 ns x) (hB : B' ≤ B) : QuAt w B' V1 V2 V3 V4 ns x :=
  ⟨h.n, h.m1.mono hB, fun y hy => (h.p1 y hy).mono hB, h.m2.mono hB, h.m3.mono hB, h.m4.mono hB⟩
theorem words_form2 {w : World} {B k : Nat} {v : Value} {ws : List Wd} (h : Mid w B 47 4 v k (flat ws)) (h0 : ws ≠ []) :
    ∃ g o cap, v = .slice (some ⟨g, o, none⟩) ws.length cap ∧ g < w.heap.size ∧ B ≤ g ∧ ws.length ≤ cap ∧ cap ≤ 9223372036854775807 ∧ Lies w g o ws := by
  have hl := h.1
  rw [flat_length] at hl
  have hpos : 0 < ws.length := List.length_pos_iff.2 h0
  have hk : k = ws.length := by omega
  subst hk
  have h' := h
  rcases h.2 with ⟨_, hz⟩ | ⟨g, o, cap, cur, rfl, hb, hh, hnc, hcm, _⟩
  · omega
  · exact ⟨g, o, cap, rfl, hh.lt, hb, hnc, by unfold maxLen at hcm; omega, Lies.of_mid h'⟩

end Go.Proofs.YtahhbgfibelfaaaDoor
