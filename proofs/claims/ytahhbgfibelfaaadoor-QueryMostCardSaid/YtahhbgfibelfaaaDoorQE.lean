import Derived.Test.YtahhbgfibelfaaaDoorQD
import Derived.Test.YtahhbgfibelfaaaDoorQP
import Derived.Deep.CutBlock
namespace Go.Proofs.YtahhbgfibelfaaaDoor
open Go.RowKit Go.Lib
set_option linter.unusedVariables false

attribute [local go_sem] wfld0 wfld1 wfld2 wfld3
theorem infoNode : (Tryd.prog.info? 53).map (fun i => (i.zero, i.size, i.bytes)) = some (some (.agg #[.string ⟨#[]⟩, .string ⟨#[]⟩, .slice none 0 0]), 3, 56) := by kernel_rfl
theorem infoEdge : (Tryd.prog.info? 42).map (fun i => (i.zero, i.size, i.bytes)) = some (some (.agg #[.string ⟨#[]⟩, .string ⟨#[]⟩, .bool false]), 3, 40) := by kernel_rfl
theorem infoCond : (Tryd.prog.info? 61).map (fun i => (i.zero, i.size, i.bytes)) = some (some (.agg #[.string ⟨#[]⟩, .string ⟨#[]⟩, .int .i64 0, .int .i64 0, .int .i64 0, .string ⟨#[]⟩]), 6, 72) := by kernel_rfl
theorem infoItem : (Tryd.prog.info? 44).map (fun i => (i.zero, i.size, i.bytes)) = some (some (.agg #[.string ⟨#[]⟩, .string ⟨#[]⟩]), 2, 32) := by kernel_rfl
theorem row_new (w : World) (cs : List Value) (t : TypeId) {g : Nat} (hg : g = w.heap.size) : Row (w.alloc (.cells cs.toArray t)) (some ⟨g, 0, none⟩) cs := fun _ => ⟨_, rfl, fun j v hj => by
  subst hg
  rw [add_at, (Blk.new w t cs.toArray).cell, ← Array.getElem?_toList, Nat.zero_add]
  exact hj⟩
theorem propsW_le : ∀ (f : Nat) (p : Ps) (acc : List Pr), (propsW f p acc).1.l.length ≤ p.l.length
  | 0, p, acc => Nat.le_refl _
  | f + 1, p, acc => by
    unfold propsW
    split
    · exact Nat.le_trans (propsW_le f _ _) (Nat.le_trans (nx_le _) (prop_le p))
    · exact prop_le p
theorem curl_le (p : Ps) : p.curl.l.length ≤ p.l.length := by
  unfold Ps.curl
  split
  · exact Nat.le_trans (must_le _ _ _) (Nat.le_trans (propsW_le _ _ _) (nx_le _))
  · exact Nat.le_refl _
theorem node_le (p : Ps) : p.node.l.length ≤ p.l.length :=
  Nat.le_trans (must_le _ _ _) (Nat.le_trans (curl_le _) (Nat.le_trans (opt_le _ _) (Nat.le_trans (name_le _ _) (must_le _ _ _))))
theorem edge_lt {w : World} {q g o c : Nat} {ws : List Wd} {p : Ps} (h : Pz w q g o c ws p) (hw : Wok ws c) (hi : p.is 4 mMinus = true ∨ p.is 4 mBack = true) : p.edge.l.length + 1 ≤ p.l.length := by
  have h0 : (if p.is 4 mBack then p.nx else p.must 4 mMinus).l.length + 1 ≤ p.l.length := by
    by_cases hb : p.is 4 mBack = true
    · rw [if_pos hb]
      exact Nat.le_of_eq (h.nx_lt hw (by decide) hb)
    · rw [if_neg hb]
      rcases hi with hi | hi
      · rw [show p.must 4 mMinus = p.nx from if_pos hi]
        exact Nat.le_of_eq (h.nx_lt hw (by decide) hi)
      · exact absurd hi hb
  have h1 : p.edge0.l.length ≤ (if p.is 4 mBack then p.nx else p.must 4 mMinus).l.length := must_le _ _ _
  have h2 : p.edge.l.length ≤ p.edge0.l.length := Nat.le_trans (must_le _ _ _) (Nat.le_trans (must_le _ _ _) (Nat.le_trans (opt_le _ _) (name_le _ _)))
  omega
theorem nv_one (x : NV) (h : x.2.oneCell' = true) : ∀ u ∈ nvC x, u.oneCell' = true := by
  intro u hu
  simp only [nvC, List.mem_cons, List.not_mem_nil, or_false] at hu
  rcases hu with rfl | rfl | rfl
  · rfl
  · rfl
  · exact h
theorem ed_one (x : Ed) : ∀ u ∈ edC x, u.oneCell' = true := by
  intro u hu
  simp only [edC, List.mem_cons, List.not_mem_nil, or_false] at hu
  rcases hu with rfl | rfl | rfl <;> rfl
theorem co_one (x : Co) : ∀ u ∈ coC x, u.oneCell' = true := by
  intro u hu
  simp only [coC, List.mem_cons, List.not_mem_nil, or_false] at hu
  rcases hu with rfl | rfl | rfl | rfl | rfl | rfl <;> rfl
theorem it_one (x : It) : ∀ u ∈ itC x, u.oneCell' = true := by
  intro u hu
  simp only [itC, List.mem_cons, List.not_mem_nil, or_false] at hu
  rcases hu with rfl | rfl <;> rfl
theorem edgesW_stop (f : Nat) (p : Ps) (es : List Ed) (ns : List Nd) (h1 : p.is 4 mMinus = false) (h2 : p.is 4 mBack = false) : edgesW f p es ns = (p, es, ns) := by
  cases f with
  | zero => rfl
  | succ f => unfold edgesW; rw [h1, h2]; rfl
theorem edgesW_go (f : Nat) (p : Ps) (es : List Ed) (ns : List Nd) (h : p.is 4 mMinus = true ∨ p.is 4 mBack = true) : edgesW (f + 1) p es ns = edgesW f p.edge.node (es ++ [p.edgeV]) (ns ++ [p.edge.nodeV]) := by
  rw [edgesW]
  rcases h with h | h <;> rw [h] <;> simp
/-- What a question leaves behind. -/
structure QuAt (w' : World) (B : Nat) (V1 V2 V3 V4 : Value) (ns : List NV) (x : Qu) : Prop where
  n : ns.map Prod.fst = x.ns
  m1 : Mid w' B 53 3 V1 ns.length (ns.flatMap nvC)
  p1 : ∀ y ∈ ns, Mid w' B 85 4 y.2 y.1.ps.length (prsC y.1.ps)
  m2 : Mid w' B 42 3 V2 x.es.length (x.es.flatMap edC)
  m3 : Mid w' B 61 6 V3 x.ws.length (x.ws.flatMap coC)
  m4 : Mid w' B 44 2 V4 x.ts.length (x.ts.flatMap itC)
theorem QS.fin {w y : World} {q g o c bN : Nat} {ws : List Wd} {V1 V2 V3 V4 : Value} {ns : List NV} {es : List Ed} {cs : List Co} {ts : List It} {m : Int} {p : Ps} (h : QS w q g o c ws bN V1 V2 V3 V4 ns es cs ts m p y) (u0 u1 u2 u3 u4 : Value) :
    Pt w q g o c ws p (((((y.setCell ⟨w.heap.size, 0, none⟩ u0).setCell ⟨w.heap.size, 1, none⟩ u1).setCell ⟨w.heap.size, 2, none⟩ u2).setCell ⟨w.heap.size, 3, none⟩ u3).setCell ⟨w.heap.size, 4, none⟩ u4) ∧ QuAt (((((y.setCell ⟨w.heap.size, 0, none⟩ u0).setCell ⟨w.heap.size, 1, none⟩ u1).setCell ⟨w.heap.size, 2, none⟩ u2).setCell ⟨w.heap.size, 3, none⟩ u3).setCell ⟨w.heap.size, 4, none⟩ u4) w.heap.size V1 V2 V3 V4 ns ⟨ns.map Prod.fst, es, cs, ts, m⟩ := by
  obtain ⟨p0, h0⟩ := h.h0
  have b0 := h.b2
  have b1 := b0.set_ 0 u0
  have b2 := b1.set_ 1 u1
  have b3 := b2.set_ 2 u2
  have b4 := b3.set_ 3 u3
  have k : ∀ {e size n : Nat} {v : Value} {xs : List Value}, e ≠ 27 → Mid y w.heap.size e size v n xs → Mid (((((y.setCell ⟨w.heap.size, 0, none⟩ u0).setCell ⟨w.heap.size, 1, none⟩ u1).setCell ⟨w.heap.size, 2, none⟩ u2).setCell ⟨w.heap.size, 3, none⟩ u3).setCell ⟨w.heap.size, 4, none⟩ u4) w.heap.size e size v n xs :=
    fun he hm => mid_set1 (mid_set1 (mid_set1 (mid_set1 (mid_set1 hm b0 he _ _) b1 he _ _) b2 he _ _) b3 he _ _) b4 he _ _
  exact ⟨((((h.pt.put h0 (Nat.le_refl _) _).put h0 (Nat.le_refl _) _).put h0 (Nat.le_refl _) _).put h0 (Nat.le_refl _) _).put h0 (Nat.le_refl _) _, ⟨rfl, k (by decide) h.m1, fun x hx => k (by decide) (h.p1 x hx), k (by decide) h.m2, k (by decide) h.m3, k (by decide) h.m4⟩⟩
theorem blk5 {w : World} {g : Nat} {t : TypeId} (a b c d e : Value) (h : Blk w g t #[a, b, c, d, e]) : w.cell? ⟨g, 0, none⟩ = some a ∧ w.cell? ⟨g, 1, none⟩ = some b ∧ w.cell? ⟨g, 2, none⟩ = some c ∧ w.cell? ⟨g, 3, none⟩ = some d ∧ w.cell? ⟨g, 4, none⟩ = some e := ⟨h.cell 0, h.cell 1, h.cell 2, h.cell 3, h.cell 4⟩
def QuPost (w : World) (q g o c : Nat) (ws : List Wd) (p : Ps) (x : Qu) (e : Ending) (w' : World) : Prop :=
  ∃ V1 V2 V3 V4 ns, e = .returned (.agg #[V1, V2, V3, V4, .int .i64 x.m]) ∧ Pt w q g o c ws p w' ∧ QuAt w' w.heap.size V1 V2 V3 V4 ns x
set_option maxHeartbeats 8000000 in
set_option maxRecDepth 100000 in
theorem quest_ok (w : World) (q g o c : Nat) (ws : List Wd) (p : Ps) (hw : Wok ws c) (h : Pz w q g o c ws p) (hL : Laid w) (hq : 9 ≤ q) :
    Calls Tryd.prog 7 #[qP q] w (QuPost w q g o c ws (questW p).1 (questW p).2) := by
  obtain ⟨i1, hi1, hz10, hz11, hz12⟩ := info_parts infoNode
  obtain ⟨i2, hi2, hz20, hz21, hz22⟩ := info_parts infoEdge
  obtain ⟨i3, hi3, hz30, hz31, hz32⟩ := info_parts infoCond
  obtain ⟨i4, hi4, hz40, hz41, hz42⟩ := info_parts infoItem
  have HZ := Lib.hid h
  have HLW := Lib.hid hL
  have HWD := Lib.hid (fun w' p' s (h' : Pz w' q g o c ws p') => word_ok w' q g o c ws p' s hw h')
  have HMY := Lib.hid (fun w' p' s (h' : Pz w' q g o c ws p') => may_ok w' q g o c ws p' s hw h')
  have HTK := Lib.hid (fun w' p' k s (h' : Pz w' q g o c ws p') => take_ok w' q g o c ws p' k s hw h')
  have HND := Lib.hid (fun w' p' (h' : Pz w' q g o c ws p') (hl : Laid w') => pnode_ok w' q g o c ws p' hw h' hl hq)
  have HED := Lib.hid (fun w' p' (h' : Pz w' q g o c ws p') (hl : Laid w') => pedge_ok w' q g o c ws p' hw h' hl hq)
  have HCO := Lib.hid (fun w' p' (h' : Pz w' q g o c ws p') (hl : Laid w') => pcond_ok w' q g o c ws p' hw h' hl hq)
  have HIT := Lib.hid (fun w' p' (h' : Pz w' q g o c ws p') (hl : Laid w') => pitem_ok w' q g o c ws p' hw h' hl hq)
  have HNW := Lib.hid (fun w' p' (h' : Pz w' q g o c ws p') => now_ok w' q g o c ws p' hw h')
  have HFL := Lib.hid (fun w' p' (h' : Pz w' q g o c ws p') => fail_ok w' q g o c ws p' hw h')
  have HNX := Lib.hid (fun w' p' (h' : Pz w' q g o c ws p') => next_ok w' q g o c ws p' hw h')
  have HOK := Lib.hid (fun w' p' (h' : Pz w' q g o c ws p') => (show WdOk p'.now by obtain ⟨a, hs, _⟩ := h'.at_; exact hw.ok _ hs.now_mem))
  have hlen := hw.len
  have hql := h.ql
  have hgl := h.gl
  have HWK := Lib.hid hw
  have hres : questW p = (((edgesW (p.must 1 kFind).node.l.length (p.must 1 kFind).node [] [(p.must 1 kFind).nodeV]).1.whereP.1.tellP.1.lim).fin, ⟨(edgesW (p.must 1 kFind).node.l.length (p.must 1 kFind).node [] [(p.must 1 kFind).nodeV]).2.2, (edgesW (p.must 1 kFind).node.l.length (p.must 1 kFind).node [] [(p.must 1 kFind).nodeV]).2.1, (edgesW (p.must 1 kFind).node.l.length (p.must 1 kFind).node [] [(p.must 1 kFind).nodeV]).1.whereP.2, (edgesW (p.must 1 kFind).node.l.length (p.must 1 kFind).node [] [(p.must 1 kFind).nodeV]).1.whereP.1.tellP.2, (edgesW (p.must 1 kFind).node.l.length (p.must 1 kFind).node [] [(p.must 1 kFind).nodeV]).1.whereP.1.tellP.1.limV⟩) := rfl
  generalize questW p = R at *
  obtain ⟨PF, QF⟩ := R
  simp only at hres ⊢
  clear hw h hL
  generalize hT1 : edgesW (p.must 1 kFind).node.l.length (p.must 1 kFind).node [] [(p.must 1 kFind).nodeV] = T1 at *
  have HRES := Lib.hid hres
  clear hres
  have HT1 := Lib.hid hT1
  clear hT1
  unfold qP Wd.val4 at *
  go_enter Tryd.func7, Tryd.ntmps7
  go_wp2_with fail
  have HQ0 : Hid (QS w q g o c ws (w.heap.size + 1) (.slice none 0 0) (.slice none 0 0) (.slice none 0 0) (.slice none 0 0) [] [] [] [] 256 p ((w.alloc (.cells quZ 27)).alloc (.cells #[.slice none 0 0, .slice none 0 0, .slice none 0 0, .slice none 0 0, .int .i64 256] 27))) :=
    ⟨((Pt.refl HZ.out).alloc _).alloc _, (Blk.new w _ _).alloc _, (by have hh := Blk.new (w.alloc (.cells quZ 27)) 27 #[.slice none 0 0, .slice none 0 0, .slice none 0 0, .slice none 0 0, .int .i64 256]; rwa [show (w.alloc (.cells quZ 27)).heap.size = w.heap.size + 1 by simp] at hh), Mid.nil _ _ _ _, (fun x hx => by cases hx), Mid.nil _ _ _ _, Mid.nil _ _ _ _, Mid.nil _ _ _ _, by omega, ⟨p, HZ.out⟩⟩
  unfold quZ at HQ0
  refine (HWD.out _ p kFind HQ0.out.pt.z).mono ?_
  rintro e1 w1 ⟨rfl, hp1⟩
  have HQ1 := Lib.hid (HQ0.out.step hp1)
  clear hp1 HQ0
  generalize w.heap.size + 1 = bN at *
  obtain ⟨U0, hU0⟩ : ∃ U0 : Value, U0 = .slice none 0 0 := ⟨_, rfl⟩
  rw [← hU0] at HQ1
  clear hU0
  go_wp2_with fail
  refine wp_region_planG (fun w' => w'.cell? ⟨bN, 0, none⟩ = some U0) 5 [(true, 0), (true, 1), (true, 2), (false, 3), (false, 4)] (by kernel_rfl) (by kernel_rfl) (HQ1.out.drew.bn.cell 0) ?_
  simp only [List.map_cons, List.map_nil, List.getD_cons_zero, List.getD_cons_succ, List.drop_succ_cons, List.drop_zero]
  (refine planG_take (v := ?_) (by rfl) ?_ ?_; rotate_left; (rintro wS hS1; go_simp; try with_reducible rfl); simp only [Act.put, List.setIfInBounds_toArray, List.set_cons_zero, List.set_cons_succ])
  (refine planG_take (v := ?_) (by rfl) ?_ ?_; rotate_left; (rintro wS hS1; go_simp; try with_reducible rfl); simp only [Act.put, List.setIfInBounds_toArray, List.set_cons_zero, List.set_cons_succ])
  (refine planG_take (v := ?_) (by rfl) ?_ ?_; rotate_left; (rintro wS hS1; go_simp; try with_reducible rfl); simp only [Act.put, List.setIfInBounds_toArray, List.set_cons_zero, List.set_cons_succ])
  refine planG_run (by rfl) (fun K hK => ?_)
  go_simp
  refine (HND.out _ (p.must 1 kFind) (pz_drew HQ1.out.pt.z) (laid_drew (laid_only HLW.out HQ1.out.pt.o hq))).mono ?_
  rintro e1 ya ⟨PV, rfl, hpa, hma⟩
  have hsz0 := HQ1.out.drew.b2.lt
  have HQa := Lib.hid (HQ1.out.drew.step hpa)
  have hma2 := hma.mono (Nat.le_of_lt hsz0)
  obtain ⟨PA, pc, hpv, _, _, _⟩ := hma.form
  subst hpv
  have hsz : w.heap.size ≤ ya.heap.size := by have := HQa.out.b2.lt; omega
  have HQb := Lib.hid (HQa.out.alloc (.cells #[.string ((p.must 1 kFind)).nodeV.v, .string ((p.must 1 kFind)).nodeV.l, .slice PA ((p.must 1 kFind)).nodeV.ps.length pc] 53))
  have HMA : Hid (Mid (ya.alloc (.cells #[.string ((p.must 1 kFind)).nodeV.v, .string ((p.must 1 kFind)).nodeV.l, .slice PA ((p.must 1 kFind)).nodeV.ps.length pc] 53)) w.heap.size 85 4 (.slice PA ((p.must 1 kFind)).nodeV.ps.length pc) ((p.must 1 kFind)).nodeV.ps.length (prsC ((p.must 1 kFind)).nodeV.ps)) := hma2.alloc _
  clear hpa hma hma2 hsz0
  refine hK.out _ _ (HQa.out.bn.cell 0) ?_
  clear hK K
  try simp only [Act.put, List.setIfInBounds_toArray, List.set_cons_zero, List.set_cons_succ]
  refine planG_run (by rfl) (fun K hK => ?_)
  go_simp
  refine hK.out _ _ (HQb.out.bn.cell 0) ?_
  clear hK K
  try simp only [Act.put, List.setIfInBounds_toArray, List.set_cons_zero, List.set_cons_succ]
  refine planG_nil ?_
  go_wp2_with (at_builtin; refine wpList_append_mid _ rfl (.tmp 11) (.tmp 14) 22 rfl w.heap.size 53 i1 _ 3 56 Tryd.underlying22 hi1 hz10 hz11 hz12 rfl (by decide) _ _ _ rfl HQb.out.m1 (some ⟨ya.heap.size, 0, none⟩) 1 1 (nvC ((p.must 1 kFind).nodeV, .slice PA (p.must 1 kFind).nodeV.ps.length pc)) rfl rfl (row_new _ _ _ rfl) (nv_one ((p.must 1 kFind).nodeV, .slice PA (p.must 1 kFind).nodeV.ps.length pc) rfl) (by simp only [maxLen, List.length_nil]; omega) (by simp only [List.length_nil]; omega) (by simp; omega) ?_; intro V' yc hm1 hg1 ho1; have HQ2 := Lib.hid (HQb.out.app1 (x := ((p.must 1 kFind).nodeV, .slice PA (p.must 1 kFind).nodeV.ps.length pc)) HMA.out hm1 hg1); have hbn := (HQb.out.grew HQb.out.m1 (by decide) hg1 0 (.int .i64 0)).1; have n0 := hbn.cell 0; have g0 := hbn.frozen 0; obtain ⟨A9, cp9, hv9, _, _, _⟩ := hm1.form; subst hv9; clear hm1 hg1 ho1 hbn)
  refine NoPanic.normal ?_
  have HF0 : Hid ((p.must 1 kFind).node.l.length ≤ 1000000) := by obtain ⟨a, hs, _⟩ := HQ2.out.pt.z.at_; have := hs.len; show _ ≤ _; omega
  generalize hf0 : (p.must 1 kFind).node.l.length = f0 at *
  have HFE := Lib.hid hf0
  clear hf0 HQ1 HQa HQb HMA hsz n0 g0
  go_upto_block 0 with fail
  go_cut [] (fun wc => ∃ (p' : Ps) (V1 V2 : Value) (ns : List NV) (es : List Ed), QS w q g o c ws bN V1 V2 U0 U0 ns es [] [] 256 p' wc ∧ (p', es, ns.map Prod.fst) = T1)
  case first =>
    have hf1 : f0 ≤ 1000000 := HF0.out
    go_wp2_with fail
    go_loopg [] f0 (fun k wr => ∃ (p' : Ps) (V1 V2 : Value) (ns : List NV) (es : List Ed), QS w q g o c ws bN V1 V2 U0 U0 ns es [] [] 256 p' wr ∧ p'.l.length ≤ k ∧ edgesW k p' es (ns.map Prod.fst) = T1 ∧ ns.length + k ≤ f0 + 1 ∧ es.length + k ≤ f0)
    case atStart => exact ⟨_, _, _, _, _, HQ2.out, Nat.le_of_eq HFE.out, HT1.out, by simp; omega, by simp⟩
    case round =>
      obtain ⟨p', V1, V2, ns, es, hqs, hl, hT, hns, hes⟩ := hrel
      have HQ3 := Lib.hid hqs
      obtain ⟨z1, _, _, _⟩ := hqs.pt.z.bad
      have hqr := hqs.pt.z.ql
      have hTE := Lib.hid hT
      have HLL : Hid (p'.l.length ≤ gk ∧ ns.length + gk ≤ f0 + 1 ∧ es.length + gk ≤ f0) := ⟨hl, hns, hes⟩
      have hn1 : ns.length ≤ 1000001 := by omega
      have he1 : es.length ≤ 1000000 := by omega
      clear hqs HQ2 hT hl hns hes
      by_cases hb : p'.b < 0
      · have hd : decide (0 ≤ p'.b) = false := by simp; omega
        rw [hd] at z1
        by_cases s1 : p'.now.s = mMinus
        · have n1 : (p'.now.s.toList == [45]) = true := by rw [s1]; kernel_rfl
          by_cases hk : p'.now.k = 4
          · have hx : (p'.now.k == 4) = true := by simp [hk]
            have HGO : Hid (p'.is 4 mMinus = true ∨ p'.is 4 mBack = true) := .inl (is_true hb hk s1)
            clear hb hd hk s1
            go_wp2_with fail
            refine (HNW.out _ _ HQ3.out.pt.z).mono ?_
            rintro e1 x0 ⟨rfl, hbx0⟩
            have HN0 := Lib.hid (HQ3.out.up hbx0)
            clear hbx0
            go_wp2_with fail
            refine (HNW.out _ _ HN0.out.pt.z).mono ?_
            rintro e1 x1 ⟨rfl, hbx1⟩
            have HN1 := Lib.hid (HN0.out.up hbx1)
            clear hbx1
            go_wp2_with fail
            refine wp_region_planG (fun w' => w'.cell? ⟨bN, 1, none⟩ = some V2) 5 [(true, 0), (true, 1), (true, 2), (false, 3), (false, 4)] (by kernel_rfl) (by kernel_rfl) (HN1.out.drew.bn.cell 1) ?_
            simp only [List.map_cons, List.map_nil, List.getD_cons_zero, List.getD_cons_succ, List.drop_succ_cons, List.drop_zero]
            (refine planG_take (v := ?_) (by rfl) ?_ ?_; rotate_left; (rintro wS hS1; go_simp; try with_reducible rfl); simp only [Act.put, List.setIfInBounds_toArray, List.set_cons_zero, List.set_cons_succ])
            (refine planG_take (v := ?_) (by rfl) ?_ ?_; rotate_left; (rintro wS hS1; go_simp; try with_reducible rfl); simp only [Act.put, List.setIfInBounds_toArray, List.set_cons_zero, List.set_cons_succ])
            (refine planG_take (v := ?_) (by rfl) ?_ ?_; rotate_left; (rintro wS hS1; go_simp; try with_reducible rfl); simp only [Act.put, List.setIfInBounds_toArray, List.set_cons_zero, List.set_cons_succ])
            refine planG_run (by rfl) (fun K hK => ?_)
            go_simp
            refine (HED.out _ _ (pz_drew HN1.out.pt.z) (laid_drew (laid_only HLW.out HN1.out.pt.o hq))).mono ?_
            rintro e1 ya ⟨rfl, hpa⟩
            have HQa := Lib.hid (HN1.out.drew.step hpa)
            have hsz : w.heap.size ≤ ya.heap.size := by have := HQa.out.b2.lt; omega
            have HQb := Lib.hid (HQa.out.alloc (.cells #[.string p'.edgeV.v, .string p'.edgeV.t, .bool p'.edgeV.o] 42))
            clear hpa
            refine hK.out _ _ (HQa.out.bn.cell 1) ?_
            clear hK K
            try simp only [Act.put, List.setIfInBounds_toArray, List.set_cons_zero, List.set_cons_succ]
            refine planG_run (by rfl) (fun K hK => ?_)
            go_simp
            refine hK.out _ _ (HQb.out.bn.cell 1) ?_
            clear hK K
            try simp only [Act.put, List.setIfInBounds_toArray, List.set_cons_zero, List.set_cons_succ]
            refine planG_nil ?_
            go_wp2_with (at_builtin; refine wpList_append_mid _ rfl (.tmp 41) (.tmp 44) 23 rfl w.heap.size 42 i2 _ 3 40 Tryd.underlying23 hi2 hz20 hz21 hz22 rfl (by decide) _ _ _ rfl HQb.out.m2 (some ⟨ya.heap.size, 0, none⟩) 1 1 (edC p'.edgeV) rfl rfl (row_new _ _ _ rfl) (ed_one p'.edgeV) (by simp only [maxLen]; omega) (by omega) (by simp; omega) ?_; intro V' yc hm1 hg1 ho1; have HQ5 := Lib.hid (HQb.out.app2 (x := p'.edgeV) hm1 hg1); have hbn := (HQb.out.grew HQb.out.m2 (by decide) hg1 0 (.int .i64 0)).1; have n0 := hbn.cell 1; have g0 := hbn.frozen 1; obtain ⟨A9, cp9, hv9, _, _, _⟩ := hm1.form; subst hv9; clear hm1 hg1 ho1 hbn)
            refine NoPanic.normal ?_
            clear HQa HQb hsz n0 g0
            go_wp2_with fail
            refine wp_region_planG (fun w' => w'.cell? ⟨bN, 0, none⟩ = some V1) 5 [(true, 0), (true, 1), (true, 2), (false, 3), (false, 4)] (by kernel_rfl) (by kernel_rfl) (HQ5.out.drew.bn.cell 0) ?_
            simp only [List.map_cons, List.map_nil, List.getD_cons_zero, List.getD_cons_succ, List.drop_succ_cons, List.drop_zero]
            (refine planG_take (v := ?_) (by rfl) ?_ ?_; rotate_left; (rintro wS hS1; go_simp; try with_reducible rfl); simp only [Act.put, List.setIfInBounds_toArray, List.set_cons_zero, List.set_cons_succ])
            (refine planG_take (v := ?_) (by rfl) ?_ ?_; rotate_left; (rintro wS hS1; go_simp; try with_reducible rfl); simp only [Act.put, List.setIfInBounds_toArray, List.set_cons_zero, List.set_cons_succ])
            (refine planG_take (v := ?_) (by rfl) ?_ ?_; rotate_left; (rintro wS hS1; go_simp; try with_reducible rfl); simp only [Act.put, List.setIfInBounds_toArray, List.set_cons_zero, List.set_cons_succ])
            refine planG_run (by rfl) (fun K hK => ?_)
            go_simp
            refine (HND.out _ p'.edge (pz_drew HQ5.out.pt.z) (laid_drew (laid_only HLW.out HQ5.out.pt.o hq))).mono ?_
            rintro e1 ya ⟨PV, rfl, hpa, hma⟩
            have hsz0 := HQ5.out.drew.b2.lt
            have HQa := Lib.hid (HQ5.out.drew.step hpa)
            have hma2 := hma.mono (Nat.le_of_lt hsz0)
            obtain ⟨PA, pc, hpv, _, _, _⟩ := hma.form
            subst hpv
            have hsz : w.heap.size ≤ ya.heap.size := by have := HQa.out.b2.lt; omega
            have HQb := Lib.hid (HQa.out.alloc (.cells #[.string (p'.edge).nodeV.v, .string (p'.edge).nodeV.l, .slice PA (p'.edge).nodeV.ps.length pc] 53))
            have HMA : Hid (Mid (ya.alloc (.cells #[.string (p'.edge).nodeV.v, .string (p'.edge).nodeV.l, .slice PA (p'.edge).nodeV.ps.length pc] 53)) w.heap.size 85 4 (.slice PA (p'.edge).nodeV.ps.length pc) (p'.edge).nodeV.ps.length (prsC (p'.edge).nodeV.ps)) := hma2.alloc _
            clear hpa hma hma2 hsz0
            refine hK.out _ _ (HQa.out.bn.cell 0) ?_
            clear hK K
            try simp only [Act.put, List.setIfInBounds_toArray, List.set_cons_zero, List.set_cons_succ]
            refine planG_run (by rfl) (fun K hK => ?_)
            go_simp
            refine hK.out _ _ (HQb.out.bn.cell 0) ?_
            clear hK K
            try simp only [Act.put, List.setIfInBounds_toArray, List.set_cons_zero, List.set_cons_succ]
            refine planG_nil ?_
            go_wp2_with (at_builtin; refine wpList_append_mid _ rfl (.tmp 48) (.tmp 51) 22 rfl w.heap.size 53 i1 _ 3 56 Tryd.underlying22 hi1 hz10 hz11 hz12 rfl (by decide) _ _ _ rfl HQb.out.m1 (some ⟨ya.heap.size, 0, none⟩) 1 1 (nvC ((p'.edge).nodeV, .slice PA (p'.edge).nodeV.ps.length pc)) rfl rfl (row_new _ _ _ rfl) (nv_one ((p'.edge).nodeV, .slice PA (p'.edge).nodeV.ps.length pc) rfl) (by simp only [maxLen]; omega) (by omega) (by simp; omega) ?_; intro V' yc hm1 hg1 ho1; have HQ6 := Lib.hid (HQb.out.app1 (x := ((p'.edge).nodeV, .slice PA (p'.edge).nodeV.ps.length pc)) HMA.out hm1 hg1); have hbn := (HQb.out.grew HQb.out.m1 (by decide) hg1 0 (.int .i64 0)).1; have n0 := hbn.cell 0; have g0 := hbn.frozen 0; obtain ⟨A9, cp9, hv9, _, _, _⟩ := hm1.form; subst hv9; clear hm1 hg1 ho1 hbn)
            refine NoPanic.normal ?_
            clear HQa HQb hsz n0 g0
            go_wp2_with fail
            have hlt := edge_lt HQ3.out.pt.z HWK.out HGO.out
            have hnl := node_le p'.edge
            have hll := HLL.out
            cases gk with
            | zero => exact absurd hll.1 (by omega)
            | succ k =>
              go_roundg k
              case measure => omega
              case rel => exact ⟨_, _, _, _, _, HQ6.out, by omega, by rw [← hTE.out, edgesW_go _ _ _ _ HGO.out]; simp, by simp; omega, by simp; omega⟩
          · have hx : (p'.now.k == 4) = false := by simpa using hk
            have hno : Hid (p'.is 4 mMinus = false ∧ p'.is 4 mBack = false) := ⟨is_false_k hk, is_false_k hk⟩
            clear hb hd hk s1
            go_wp2_with fail
            refine (HNW.out _ _ HQ3.out.pt.z).mono ?_
            rintro e1 x0 ⟨rfl, hbx0⟩
            have HN0 := Lib.hid (HQ3.out.up hbx0)
            clear hbx0
            go_wp2_with fail
            refine (HNW.out _ _ HN0.out.pt.z).mono ?_
            rintro e1 x1 ⟨rfl, hbx1⟩
            have HN1 := Lib.hid (HN0.out.up hbx1)
            clear hbx1
            go_wp2_with fail
            have HEND := HN1
            go_meet
            exact ⟨p', V1, V2, ns, es, HEND.out, by rw [← hTE.out, edgesW_stop _ _ _ _ hno.out.1 hno.out.2]⟩
        · have n1 : (p'.now.s.toList == [45]) = false := ba_ne s1
          by_cases s2 : p'.now.s = mBack
          · have n2 : (p'.now.s.toList == [60, 45]) = true := by rw [s2]; kernel_rfl
            by_cases hk : p'.now.k = 4
            · have hx : (p'.now.k == 4) = true := by simp [hk]
              have HGO : Hid (p'.is 4 mMinus = true ∨ p'.is 4 mBack = true) := .inr (is_true hb hk s2)
              clear hb hd hk s1 s2
              go_wp2_with fail
              refine (HNW.out _ _ HQ3.out.pt.z).mono ?_
              rintro e1 x0 ⟨rfl, hbx0⟩
              have HN0 := Lib.hid (HQ3.out.up hbx0)
              clear hbx0
              go_wp2_with fail
              refine (HNW.out _ _ HN0.out.pt.z).mono ?_
              rintro e1 x1 ⟨rfl, hbx1⟩
              have HN1 := Lib.hid (HN0.out.up hbx1)
              clear hbx1
              go_wp2_with fail
              refine (HNW.out _ _ HN1.out.pt.z).mono ?_
              rintro e1 x2 ⟨rfl, hbx2⟩
              have HN2 := Lib.hid (HN1.out.up hbx2)
              clear hbx2
              go_wp2_with fail
              refine wp_region_planG (fun w' => w'.cell? ⟨bN, 1, none⟩ = some V2) 5 [(true, 0), (true, 1), (true, 2), (false, 3), (false, 4)] (by kernel_rfl) (by kernel_rfl) (HN2.out.drew.bn.cell 1) ?_
              simp only [List.map_cons, List.map_nil, List.getD_cons_zero, List.getD_cons_succ, List.drop_succ_cons, List.drop_zero]
              (refine planG_take (v := ?_) (by rfl) ?_ ?_; rotate_left; (rintro wS hS1; go_simp; try with_reducible rfl); simp only [Act.put, List.setIfInBounds_toArray, List.set_cons_zero, List.set_cons_succ])
              (refine planG_take (v := ?_) (by rfl) ?_ ?_; rotate_left; (rintro wS hS1; go_simp; try with_reducible rfl); simp only [Act.put, List.setIfInBounds_toArray, List.set_cons_zero, List.set_cons_succ])
              (refine planG_take (v := ?_) (by rfl) ?_ ?_; rotate_left; (rintro wS hS1; go_simp; try with_reducible rfl); simp only [Act.put, List.setIfInBounds_toArray, List.set_cons_zero, List.set_cons_succ])
              refine planG_run (by rfl) (fun K hK => ?_)
              go_simp
              refine (HED.out _ _ (pz_drew HN2.out.pt.z) (laid_drew (laid_only HLW.out HN2.out.pt.o hq))).mono ?_
              rintro e1 ya ⟨rfl, hpa⟩
              have HQa := Lib.hid (HN2.out.drew.step hpa)
              have hsz : w.heap.size ≤ ya.heap.size := by have := HQa.out.b2.lt; omega
              have HQb := Lib.hid (HQa.out.alloc (.cells #[.string p'.edgeV.v, .string p'.edgeV.t, .bool p'.edgeV.o] 42))
              clear hpa
              refine hK.out _ _ (HQa.out.bn.cell 1) ?_
              clear hK K
              try simp only [Act.put, List.setIfInBounds_toArray, List.set_cons_zero, List.set_cons_succ]
              refine planG_run (by rfl) (fun K hK => ?_)
              go_simp
              refine hK.out _ _ (HQb.out.bn.cell 1) ?_
              clear hK K
              try simp only [Act.put, List.setIfInBounds_toArray, List.set_cons_zero, List.set_cons_succ]
              refine planG_nil ?_
              go_wp2_with (at_builtin; refine wpList_append_mid _ rfl (.tmp 41) (.tmp 44) 23 rfl w.heap.size 42 i2 _ 3 40 Tryd.underlying23 hi2 hz20 hz21 hz22 rfl (by decide) _ _ _ rfl HQb.out.m2 (some ⟨ya.heap.size, 0, none⟩) 1 1 (edC p'.edgeV) rfl rfl (row_new _ _ _ rfl) (ed_one p'.edgeV) (by simp only [maxLen]; omega) (by omega) (by simp; omega) ?_; intro V' yc hm1 hg1 ho1; have HQ5 := Lib.hid (HQb.out.app2 (x := p'.edgeV) hm1 hg1); have hbn := (HQb.out.grew HQb.out.m2 (by decide) hg1 0 (.int .i64 0)).1; have n0 := hbn.cell 1; have g0 := hbn.frozen 1; obtain ⟨A9, cp9, hv9, _, _, _⟩ := hm1.form; subst hv9; clear hm1 hg1 ho1 hbn)
              refine NoPanic.normal ?_
              clear HQa HQb hsz n0 g0
              go_wp2_with fail
              refine wp_region_planG (fun w' => w'.cell? ⟨bN, 0, none⟩ = some V1) 5 [(true, 0), (true, 1), (true, 2), (false, 3), (false, 4)] (by kernel_rfl) (by kernel_rfl) (HQ5.out.drew.bn.cell 0) ?_
              simp only [List.map_cons, List.map_nil, List.getD_cons_zero, List.getD_cons_succ, List.drop_succ_cons, List.drop_zero]
              (refine planG_take (v := ?_) (by rfl) ?_ ?_; rotate_left; (rintro wS hS1; go_simp; try with_reducible rfl); simp only [Act.put, List.setIfInBounds_toArray, List.set_cons_zero, List.set_cons_succ])
              (refine planG_take (v := ?_) (by rfl) ?_ ?_; rotate_left; (rintro wS hS1; go_simp; try with_reducible rfl); simp only [Act.put, List.setIfInBounds_toArray, List.set_cons_zero, List.set_cons_succ])
              (refine planG_take (v := ?_) (by rfl) ?_ ?_; rotate_left; (rintro wS hS1; go_simp; try with_reducible rfl); simp only [Act.put, List.setIfInBounds_toArray, List.set_cons_zero, List.set_cons_succ])
              refine planG_run (by rfl) (fun K hK => ?_)
              go_simp
              refine (HND.out _ p'.edge (pz_drew HQ5.out.pt.z) (laid_drew (laid_only HLW.out HQ5.out.pt.o hq))).mono ?_
              rintro e1 ya ⟨PV, rfl, hpa, hma⟩
              have hsz0 := HQ5.out.drew.b2.lt
              have HQa := Lib.hid (HQ5.out.drew.step hpa)
              have hma2 := hma.mono (Nat.le_of_lt hsz0)
              obtain ⟨PA, pc, hpv, _, _, _⟩ := hma.form
              subst hpv
              have hsz : w.heap.size ≤ ya.heap.size := by have := HQa.out.b2.lt; omega
              have HQb := Lib.hid (HQa.out.alloc (.cells #[.string (p'.edge).nodeV.v, .string (p'.edge).nodeV.l, .slice PA (p'.edge).nodeV.ps.length pc] 53))
              have HMA : Hid (Mid (ya.alloc (.cells #[.string (p'.edge).nodeV.v, .string (p'.edge).nodeV.l, .slice PA (p'.edge).nodeV.ps.length pc] 53)) w.heap.size 85 4 (.slice PA (p'.edge).nodeV.ps.length pc) (p'.edge).nodeV.ps.length (prsC (p'.edge).nodeV.ps)) := hma2.alloc _
              clear hpa hma hma2 hsz0
              refine hK.out _ _ (HQa.out.bn.cell 0) ?_
              clear hK K
              try simp only [Act.put, List.setIfInBounds_toArray, List.set_cons_zero, List.set_cons_succ]
              refine planG_run (by rfl) (fun K hK => ?_)
              go_simp
              refine hK.out _ _ (HQb.out.bn.cell 0) ?_
              clear hK K
              try simp only [Act.put, List.setIfInBounds_toArray, List.set_cons_zero, List.set_cons_succ]
              refine planG_nil ?_
              go_wp2_with (at_builtin; refine wpList_append_mid _ rfl (.tmp 48) (.tmp 51) 22 rfl w.heap.size 53 i1 _ 3 56 Tryd.underlying22 hi1 hz10 hz11 hz12 rfl (by decide) _ _ _ rfl HQb.out.m1 (some ⟨ya.heap.size, 0, none⟩) 1 1 (nvC ((p'.edge).nodeV, .slice PA (p'.edge).nodeV.ps.length pc)) rfl rfl (row_new _ _ _ rfl) (nv_one ((p'.edge).nodeV, .slice PA (p'.edge).nodeV.ps.length pc) rfl) (by simp only [maxLen]; omega) (by omega) (by simp; omega) ?_; intro V' yc hm1 hg1 ho1; have HQ6 := Lib.hid (HQb.out.app1 (x := ((p'.edge).nodeV, .slice PA (p'.edge).nodeV.ps.length pc)) HMA.out hm1 hg1); have hbn := (HQb.out.grew HQb.out.m1 (by decide) hg1 0 (.int .i64 0)).1; have n0 := hbn.cell 0; have g0 := hbn.frozen 0; obtain ⟨A9, cp9, hv9, _, _, _⟩ := hm1.form; subst hv9; clear hm1 hg1 ho1 hbn)
              refine NoPanic.normal ?_
              clear HQa HQb hsz n0 g0
              go_wp2_with fail
              have hlt := edge_lt HQ3.out.pt.z HWK.out HGO.out
              have hnl := node_le p'.edge
              have hll := HLL.out
              cases gk with
              | zero => exact absurd hll.1 (by omega)
              | succ k =>
                go_roundg k
                case measure => omega
                case rel => exact ⟨_, _, _, _, _, HQ6.out, by omega, by rw [← hTE.out, edgesW_go _ _ _ _ HGO.out]; simp, by simp; omega, by simp; omega⟩
            · have hx : (p'.now.k == 4) = false := by simpa using hk
              have hno : Hid (p'.is 4 mMinus = false ∧ p'.is 4 mBack = false) := ⟨is_false_k hk, is_false_k hk⟩
              clear hb hd hk s1 s2
              go_wp2_with fail
              refine (HNW.out _ _ HQ3.out.pt.z).mono ?_
              rintro e1 x0 ⟨rfl, hbx0⟩
              have HN0 := Lib.hid (HQ3.out.up hbx0)
              clear hbx0
              go_wp2_with fail
              refine (HNW.out _ _ HN0.out.pt.z).mono ?_
              rintro e1 x1 ⟨rfl, hbx1⟩
              have HN1 := Lib.hid (HN0.out.up hbx1)
              clear hbx1
              go_wp2_with fail
              refine (HNW.out _ _ HN1.out.pt.z).mono ?_
              rintro e1 x2 ⟨rfl, hbx2⟩
              have HN2 := Lib.hid (HN1.out.up hbx2)
              clear hbx2
              go_wp2_with fail
              have HEND := HN2
              go_meet
              exact ⟨p', V1, V2, ns, es, HEND.out, by rw [← hTE.out, edgesW_stop _ _ _ _ hno.out.1 hno.out.2]⟩
          · have n2 : (p'.now.s.toList == [60, 45]) = false := ba_ne s2
            have hno : Hid (p'.is 4 mMinus = false ∧ p'.is 4 mBack = false) := ⟨is_false_s s1, is_false_s s2⟩
            clear hb hd s1 s2
            go_wp2_with fail
            refine (HNW.out _ _ HQ3.out.pt.z).mono ?_
            rintro e1 x0 ⟨rfl, hbx0⟩
            have HN0 := Lib.hid (HQ3.out.up hbx0)
            clear hbx0
            go_wp2_with fail
            refine (HNW.out _ _ HN0.out.pt.z).mono ?_
            rintro e1 x1 ⟨rfl, hbx1⟩
            have HN1 := Lib.hid (HN0.out.up hbx1)
            clear hbx1
            go_wp2_with fail
            have HEND := HN1
            go_meet
            exact ⟨p', V1, V2, ns, es, HEND.out, by rw [← hTE.out, edgesW_stop _ _ _ _ hno.out.1 hno.out.2]⟩
      · have hd : decide (0 ≤ p'.b) = true := by simp; omega
        rw [hd] at z1
        have hno : Hid (p'.is 4 mMinus = false ∧ p'.is 4 mBack = false) := ⟨is_false_b hb, is_false_b hb⟩
        clear hb hd
        go_wp2_with fail
        have HEND := HQ3
        go_meet
        exact ⟨p', V1, V2, ns, es, HEND.out, by rw [← hTE.out, edgesW_stop _ _ _ _ hno.out.1 hno.out.2]⟩
  case rest =>
    obtain ⟨p', V1, V2, ns, es, hqs, hT⟩ := hcut
    have HQ3 := Lib.hid hqs
    clear hqs
    have HRES2 : Hid ((PF, QF) = (p'.whereP.1.tellP.1.lim.fin, ⟨ns.map Prod.fst, es, p'.whereP.2, p'.whereP.1.tellP.2, p'.whereP.1.tellP.1.limV⟩)) := by have hh := HRES.out; rw [← hT] at hh; exact hh
    clear hT HRES HT1 HFE HF0 HQ2
    go_wp2_with fail
    refine (HTK.out _ _ 1 kWhere HQ3.out.pt.z).mono ?_
    rintro e1 w2 ⟨rfl, hp2⟩
    have HQ4 := Lib.hid (HQ3.out.step hp2)
    have hlw : Hid (∀ (h : p'.is 1 kWhere = true), p'.nx.l.length + 1 = p'.l.length) := fun h => HQ3.out.pt.z.nx_lt HWK.out (by decide) h
    have HLF : Hid (p'.l.length ≤ 1000000) := by obtain ⟨a, hs, _⟩ := HQ3.out.pt.z.at_; have := hs.len; show _ ≤ _; omega
    clear hp2 HQ3
    generalize hr : p'.is 1 kWhere = r at *
    go_upto_if 55 with fail
    go_cut [4] (fun v4 wc => ∃ (p1 : Ps) (V3 : Value) (cs : List Co), QS w q g o c ws bN V1 V2 V3 U0 ns es cs [] 256 p1 wc ∧ (p1, cs) = p'.whereP)
    case first =>
      cases r
      · rw [may_neg hr] at HQ4
        have HWP : Hid (p'.whereP = (p', [])) := if_neg (by rw [hr]; decide)
        clear hr
        go_wp2_with fail
        go_meet
        exact ⟨_, _, _, HQ4.out, HWP.out.symm⟩
      · rw [may_pos hr] at HQ4
        have hWP : p'.whereP = condsW p'.l.length p'.nx [] := if_pos hr
        have hlt3 := hlw.out rfl
        have hb3 : p'.nx.b < 0 := is_b (p := p') hr
        have HT : Hid (p'.nx.b < 0 ∧ p'.nx.l.length ≤ p'.l.length) := ⟨hb3, by omega⟩
        generalize p'.whereP = T at *
        have HTT := Lib.hid hWP.symm
        clear hlt3 hb3 hWP hr hlw
        generalize p'.nx = p4 at *
        generalize p'.l.length = f0 at *
        have hf0 : f0 ≤ 1000000 := HLF.out
        go_wp2_with fail
        go_loopg [4] f0 (fun k v4 wr => ∃ (b : Bool) (p1 : Ps) (cs : List Co) (V3 : Value), v4 = .bool b ∧ QS w q g o c ws bN V1 V2 V3 U0 ns es cs [] 256 p1 wr ∧ (b = true → p1.b < 0 ∧ p1.l.length ≤ k ∧ condsW k p1 cs = T ∧ cs.length + k ≤ f0) ∧ (b = false → (p1, cs) = T))
        case atStart => exact ⟨true, p4, [], _, rfl, HQ4.out, fun _ => ⟨HT.out.1, HT.out.2, HTT.out, by simp⟩, fun h => by cases h⟩
        case round =>
          obtain ⟨b, p1, cs, V3, rfl, hqs, ht, hf⟩ := hrel
          have HQ5 := Lib.hid hqs
          obtain ⟨z1, _, _, _⟩ := hqs.pt.z.bad
          have hqr := hqs.pt.z.ql
          clear hqs HQ4
          cases b
          · have hT := Lib.hid (hf rfl)
            clear ht hf z1
            go_wp2_with fail
            go_meet
            exact ⟨_, _, _, HQ5.out, hT.out⟩
          · obtain ⟨hb, hl, hT, hac⟩ := ht rfl
            clear hf ht
            have hpos := HQ5.out.pt.z.pos
            cases gk with
            | zero => exact absurd hl (by omega)
            | succ k =>
              have hd : decide (0 ≤ p1.b) = false := by simp; omega
              rw [hd] at z1
              have HT3 : Hid ((if p1.cond.is 1 kAnd then condsW k p1.cond.nx (cs ++ [p1.condV]) else (p1.cond, cs ++ [p1.condV])) = T) := hT
              have HLE := Lib.hid (cond_le p1)
              have HK : Hid (p1.l.length ≤ k + 1 ∧ cs.length + (k + 1) ≤ f0) := ⟨hl, hac⟩
              have hac2 : cs.length ≤ 1000000 := by omega
              clear hT hl hac hb hd
              go_wp2_with fail
              refine wp_region_planG (fun w' => w'.cell? ⟨bN, 2, none⟩ = some V3) 5 [(true, 0), (true, 1), (true, 2), (false, 3), (false, 4)] (by kernel_rfl) (by kernel_rfl) (HQ5.out.drew.bn.cell 2) ?_
              simp only [List.map_cons, List.map_nil, List.getD_cons_zero, List.getD_cons_succ, List.drop_succ_cons, List.drop_zero]
              (refine planG_take (v := ?_) (by rfl) ?_ ?_; rotate_left; (rintro wS hS1; go_simp; try with_reducible rfl); simp only [Act.put, List.setIfInBounds_toArray, List.set_cons_zero, List.set_cons_succ])
              (refine planG_take (v := ?_) (by rfl) ?_ ?_; rotate_left; (rintro wS hS1; go_simp; try with_reducible rfl); simp only [Act.put, List.setIfInBounds_toArray, List.set_cons_zero, List.set_cons_succ])
              (refine planG_take (v := ?_) (by rfl) ?_ ?_; rotate_left; (rintro wS hS1; go_simp; try with_reducible rfl); simp only [Act.put, List.setIfInBounds_toArray, List.set_cons_zero, List.set_cons_succ])
              refine planG_run (by rfl) (fun K hK => ?_)
              go_simp
              refine (HCO.out _ _ (pz_drew HQ5.out.pt.z) (laid_drew (laid_only HLW.out HQ5.out.pt.o hq))).mono ?_
              rintro e1 ya ⟨rfl, hpa⟩
              have HQa := Lib.hid (HQ5.out.drew.step hpa)
              have hsz : w.heap.size ≤ ya.heap.size := by have := HQa.out.b2.lt; omega
              have HQb := Lib.hid (HQa.out.alloc (.cells #[.string p1.condV.v, .string p1.condV.k, .int .i64 p1.condV.o, .int .i64 p1.condV.x.k, .int .i64 p1.condV.x.n, .string p1.condV.x.s] 61))
              clear hpa
              refine hK.out _ _ (HQa.out.bn.cell 2) ?_
              clear hK K
              try simp only [Act.put, List.setIfInBounds_toArray, List.set_cons_zero, List.set_cons_succ]
              refine planG_run (by rfl) (fun K hK => ?_)
              go_simp
              refine hK.out _ _ (HQb.out.bn.cell 2) ?_
              clear hK K
              try simp only [Act.put, List.setIfInBounds_toArray, List.set_cons_zero, List.set_cons_succ]
              refine planG_nil ?_
              go_wp2_with (at_builtin; refine wpList_append_mid _ rfl (.tmp 67) (.tmp 70) 24 rfl w.heap.size 61 i3 _ 6 72 Tryd.underlying24 hi3 hz30 hz31 hz32 rfl (by decide) _ _ _ rfl HQb.out.m3 (some ⟨ya.heap.size, 0, none⟩) 1 1 (coC p1.condV) rfl rfl (row_new _ _ _ rfl) (co_one p1.condV) (by simp only [maxLen]; omega) (by omega) (by simp; omega) ?_; intro V' yc hm1 hg1 ho1; have HQ6 := Lib.hid (HQb.out.app3 (x := p1.condV) hm1 hg1); have hbn := (HQb.out.grew HQb.out.m3 (by decide) hg1 0 (.int .i64 0)).1; have n0 := hbn.cell 2; have g0 := hbn.frozen 2; obtain ⟨A9, cp9, hv9, _, _, _⟩ := hm1.form; subst hv9; clear hm1 hg1 ho1 hbn)
              refine NoPanic.normal ?_
              clear HQa HQb hsz n0 g0
              go_wp2_with fail
              refine (HTK.out _ _ 1 kAnd HQ6.out.pt.z).mono ?_
              rintro e1 y5 ⟨rfl, hp5⟩
              have HQ7 := Lib.hid (HQ6.out.step hp5)
              clear hp5
              go_wp2_with fail
              go_roundg k
              case measure => omega
              case rel =>
                have hk := HK.out
                have hT := HT3.out
                have hle := HLE.out
                refine ⟨p1.cond.is 1 kAnd, p1.cond.may 1 kAnd, cs ++ [p1.condV], _, rfl, HQ7.out, fun h => ?_, fun h => ?_⟩
                · have hlt := HQ6.out.pt.z.nx_lt HWK.out (by decide) h
                  have hbb : p1.cond.b < 0 := is_b h
                  rw [if_pos h] at hT
                  rw [may_pos h]
                  exact ⟨hbb, by omega, hT, by simp; omega⟩
                · rw [if_neg (by rw [h]; decide)] at hT
                  rw [may_neg h]
                  exact hT
    case rest =>
      obtain ⟨p1, V3, cs, hqs, hT⟩ := hcut
      have HQ5 := Lib.hid hqs
      have HRES3 : Hid ((PF, QF) = (p1.tellP.1.lim.fin, ⟨ns.map Prod.fst, es, cs, p1.tellP.2, p1.tellP.1.limV⟩)) := by have hh := HRES2.out; rw [← hT] at hh; exact hh
      clear hqs hT HQ4 HLF hlw HRES2
      go_wp2_with fail
      refine (HWD.out _ _ kTell HQ5.out.pt.z).mono ?_
      rintro e1 w3 ⟨rfl, hp3⟩
      have HQ6 := Lib.hid (HQ5.out.step hp3)
      have HLF : Hid (p1.l.length ≤ 1000000) := by obtain ⟨a, hs, _⟩ := HQ5.out.pt.z.at_; have := hs.len; show _ ≤ _; omega
      have HST : Hid ((p1.must 1 kTell).b < 0 ∧ (p1.must 1 kTell).l.length ≤ p1.l.length ∧ itemsW p1.l.length (p1.must 1 kTell) [] = p1.tellP ∨ ¬ (p1.must 1 kTell).b < 0 ∧ (p1.must 1 kTell, []) = p1.tellP) := by
        have hok := HOK.out _ _ HQ5.out.pt.z
        unfold Ps.tellP
        by_cases hr : p1.is 1 kTell = true
        · left
          rw [show p1.must 1 kTell = p1.nx from if_pos hr, if_pos hr]
          exact ⟨is_b (p := p1) hr, nx_le _, rfl⟩
        · right
          rw [show p1.must 1 kTell = p1.fl p1.now.n from if_neg hr, if_neg hr]
          refine ⟨?_, rfl⟩
          unfold Ps.fl
          split
          · show ¬ (p1.now.n < 0); have := hok.n0; omega
          · assumption
      clear hp3 HQ5
      generalize p1.must 1 kTell = p2 at *
      generalize p1.l.length = f0 at *
      generalize p1.tellP = T at *
      go_upto_block 4 with fail
      go_cut [5] (fun v5 wc => ∃ (p3 : Ps) (V4 : Value) (ts : List It), QS w q g o c ws bN V1 V2 V3 V4 ns es cs ts 256 p3 wc ∧ (p3, ts) = T)
      case first =>
        have hf0 : f0 ≤ 1000000 := HLF.out
        go_wp2_with fail
        go_loopg [5] f0 (fun k v5 wr => ∃ (b : Bool) (p3 : Ps) (ts : List It) (V4 : Value), v5 = .bool b ∧ QS w q g o c ws bN V1 V2 V3 V4 ns es cs ts 256 p3 wr ∧ (b = true → (p3.b < 0 ∧ p3.l.length ≤ k ∧ itemsW k p3 ts = T ∧ ts.length + k ≤ f0) ∨ (¬ p3.b < 0 ∧ (p3, ts) = T)) ∧ (b = false → (p3, ts) = T))
        case atStart =>
          refine ⟨true, p2, [], _, rfl, HQ6.out, fun _ => ?_, fun h => by cases h⟩
          rcases HST.out with ⟨h1, h2, h3⟩ | h
          · exact .inl ⟨h1, h2, h3, by simp⟩
          · exact .inr ⟨by have := h.1; omega, h.2⟩
        case round =>
          obtain ⟨b, p3, ts, V4, rfl, hqs, ht, hf⟩ := hrel
          have HQ7 := Lib.hid hqs
          obtain ⟨z1, _, _, _⟩ := hqs.pt.z.bad
          have hqr := hqs.pt.z.ql
          clear hqs HQ6 HST
          cases b
          · have hT := Lib.hid (hf rfl)
            clear ht hf z1
            go_wp2_with fail
            go_meet
            exact ⟨_, _, _, HQ7.out, hT.out⟩
          · rcases ht rfl with ⟨hb, hl, hT, hac⟩ | ⟨hb, hT⟩
            · clear hf ht
              have hpos := HQ7.out.pt.z.pos
              cases gk with
              | zero => exact absurd hl (by omega)
              | succ k =>
                have hd : decide (0 ≤ p3.b) = false := by simp; omega
                rw [hd] at z1
                have HT3 : Hid ((if p3.item.is 4 mComma then itemsW k p3.item.nx (ts ++ [p3.itemV]) else (p3.item, ts ++ [p3.itemV])) = T) := hT
                have HLE := Lib.hid (item_le p3)
                have HK : Hid (p3.l.length ≤ k + 1 ∧ ts.length + (k + 1) ≤ f0) := ⟨hl, hac⟩
                have hac2 : ts.length ≤ 1000000 := by omega
                clear hT hl hac hb hd
                go_wp2_with fail
                refine wp_region_planG (fun w' => w'.cell? ⟨bN, 3, none⟩ = some V4) 5 [(true, 0), (true, 1), (true, 2), (false, 3), (false, 4)] (by kernel_rfl) (by kernel_rfl) (HQ7.out.drew.bn.cell 3) ?_
                simp only [List.map_cons, List.map_nil, List.getD_cons_zero, List.getD_cons_succ, List.drop_succ_cons, List.drop_zero]
                (refine planG_take (v := ?_) (by rfl) ?_ ?_; rotate_left; (rintro wS hS1; go_simp; try with_reducible rfl); simp only [Act.put, List.setIfInBounds_toArray, List.set_cons_zero, List.set_cons_succ])
                (refine planG_take (v := ?_) (by rfl) ?_ ?_; rotate_left; (rintro wS hS1; go_simp; try with_reducible rfl); simp only [Act.put, List.setIfInBounds_toArray, List.set_cons_zero, List.set_cons_succ])
                (refine planG_take (v := ?_) (by rfl) ?_ ?_; rotate_left; (rintro wS hS1; go_simp; try with_reducible rfl); simp only [Act.put, List.setIfInBounds_toArray, List.set_cons_zero, List.set_cons_succ])
                refine planG_run (by rfl) (fun K hK => ?_)
                go_simp
                refine (HIT.out _ _ (pz_drew HQ7.out.pt.z) (laid_drew (laid_only HLW.out HQ7.out.pt.o hq))).mono ?_
                rintro e1 ya ⟨rfl, hpa⟩
                have HQa := Lib.hid (HQ7.out.drew.step hpa)
                have hsz : w.heap.size ≤ ya.heap.size := by have := HQa.out.b2.lt; omega
                have HQb := Lib.hid (HQa.out.alloc (.cells #[.string p3.itemV.v, .string p3.itemV.k] 44))
                clear hpa
                refine hK.out _ _ (HQa.out.bn.cell 3) ?_
                clear hK K
                try simp only [Act.put, List.setIfInBounds_toArray, List.set_cons_zero, List.set_cons_succ]
                refine planG_run (by rfl) (fun K hK => ?_)
                go_simp
                refine hK.out _ _ (HQb.out.bn.cell 3) ?_
                clear hK K
                try simp only [Act.put, List.setIfInBounds_toArray, List.set_cons_zero, List.set_cons_succ]
                refine planG_nil ?_
                go_wp2_with (at_builtin; refine wpList_append_mid _ rfl (.tmp 86) (.tmp 89) 25 rfl w.heap.size 44 i4 _ 2 32 Tryd.underlying25 hi4 hz40 hz41 hz42 rfl (by decide) _ _ _ rfl HQb.out.m4 (some ⟨ya.heap.size, 0, none⟩) 1 1 (itC p3.itemV) rfl rfl (row_new _ _ _ rfl) (it_one p3.itemV) (by simp only [maxLen]; omega) (by omega) (by simp; omega) ?_; intro V' yc hm1 hg1 ho1; have HQ8 := Lib.hid (HQb.out.app4 (x := p3.itemV) hm1 hg1); have hbn := (HQb.out.grew HQb.out.m4 (by decide) hg1 0 (.int .i64 0)).1; have n0 := hbn.cell 3; have g0 := hbn.frozen 3; obtain ⟨A9, cp9, hv9, _, _, _⟩ := hm1.form; subst hv9; clear hm1 hg1 ho1 hbn)
                refine NoPanic.normal ?_
                clear HQa HQb hsz n0 g0
                go_wp2_with fail
                refine (HMY.out _ _ mComma HQ8.out.pt.z).mono ?_
                rintro e1 y5 ⟨rfl, hp5⟩
                have HQ9 := Lib.hid (HQ8.out.step hp5)
                clear hp5
                go_wp2_with fail
                go_roundg k
                case measure => omega
                case rel =>
                  have hk := HK.out
                  have hT := HT3.out
                  have hle := HLE.out
                  refine ⟨p3.item.is 4 mComma, p3.item.may 4 mComma, ts ++ [p3.itemV], _, rfl, HQ9.out, fun h => ?_, fun h => ?_⟩
                  · have hlt := HQ8.out.pt.z.nx_lt HWK.out (by decide) h
                    have hbb : p3.item.b < 0 := is_b h
                    rw [if_pos h] at hT
                    rw [may_pos h]
                    exact .inl ⟨hbb, by omega, hT, by simp; omega⟩
                  · rw [if_neg (by rw [h]; decide)] at hT
                    rw [may_neg h]
                    exact hT
            · have hd : decide (0 ≤ p3.b) = true := by simp; omega
              rw [hd] at z1
              have hT2 := Lib.hid hT
              clear hf ht hb hd hT
              go_wp2_with fail
              go_meet
              exact ⟨_, _, _, HQ7.out, hT2.out⟩
      case rest =>
        obtain ⟨p3, V4, ts, hqs, hT⟩ := hcut
        have HQ7 := Lib.hid hqs
        have HRES4 : Hid ((PF, QF) = (p3.lim.fin, ⟨ns.map Prod.fst, es, cs, ts, p3.limV⟩)) := by have hh := HRES3.out; rw [← hT] at hh; exact hh
        clear hqs hT HQ6 HST HLF HRES3
        go_wp2_with fail
        refine (HTK.out _ _ 1 kLimit HQ7.out.pt.z).mono ?_
        rintro e1 w4 ⟨rfl, hp4⟩
        have HQ8 := Lib.hid (HQ7.out.step hp4)
        clear hp4 HQ7
        generalize hr : p3.is 1 kLimit = r at *
        go_upto_if 93 with fail
        go_cut [6] (fun v6 wc => ∃ (p4 : Ps) (m : Int), QS w q g o c ws bN V1 V2 V3 V4 ns es cs ts m p4 wc ∧ p4 = p3.lim ∧ m = p3.limV)
        case first =>
          cases r
          · rw [may_neg hr] at HQ8
            have HL : Hid (p3.lim = p3 ∧ p3.limV = 256) := ⟨if_neg (by rw [hr]; decide), if_neg (by rw [hr]; decide)⟩
            clear hr
            go_wp2_with fail
            go_meet
            exact ⟨_, _, HQ8.out, HL.out.1.symm, HL.out.2.symm⟩
          · rw [may_pos hr] at HQ8
            have hL1 : p3.lim = (if p3.nx.now.k = 2 ∧ p3.nx.now.v ≤ 256 then p3.nx.nx else (p3.nx.fl p3.nx.now.n).nx) := if_pos hr
            have HL2 : Hid (p3.limV = p3.nx.now.v) := if_pos hr
            generalize p3.lim = pl at *
            generalize p3.limV = ml at *
            clear hr
            generalize p3.nx = p5 at *
            go_wp2_with fail
            refine (HNW.out _ _ HQ8.out.pt.z).mono ?_
            rintro e1 y1 ⟨rfl, hb1⟩
            have HQ9 := Lib.hid (HQ8.out.up hb1)
            have HT6 := Lib.hid (Blk.new y1 47 #[.int .i64 p5.now.k, .string p5.now.s, .int .i64 p5.now.v, .int .i64 p5.now.n])
            have n4 : y1.cell? ⟨bN, 4, none⟩ = some (.int .i64 256) := HQ9.out.bn.cell 4
            have g4 := HQ9.out.bn.frozen 4
            have hbl := HQ9.out.bn.lt
            have hbn : ¬ bN = y1.heap.size := by omega
            have hqy : ¬ y1.heap.size = q := by have := HQ9.out.pt.z.ql; omega
            clear hb1 HQ8
            by_cases h2 : p5.now.k = 2
            · have hx2 : (p5.now.k != 2) = false := by simp [h2]
              by_cases h3 : p5.now.v ≤ 256
              · have hx3 : ¬ (256 < p5.now.v) := by omega
                have HE : Hid (pl = p5.nx) := by rw [hL1, if_pos ⟨h2, h3⟩]; rfl
                clear hL1 h2 h3
                go_wp2_with fail
                have HQA := Lib.hid ((HQ9.out.lim p5.now.v).alloc (.cells #[.int .i64 p5.now.k, .string p5.now.s, .int .i64 p5.now.v, .int .i64 p5.now.n] 47))
                refine (HNX.out _ _ HQA.out.pt.z).mono ?_
                rintro e1 y2 ⟨rfl, hp2⟩
                have HQB := Lib.hid (HQA.out.step hp2)
                clear hp2
                go_wp2_with fail
                go_meet
                exact ⟨_, _, HQB.out, HE.out.symm, HL2.out.symm⟩
              · have hx3 : 256 < p5.now.v := by omega
                have HE : Hid (pl = (p5.fl p5.now.n).nx) := by rw [hL1, if_neg (fun h => h3 h.2)]; rfl
                clear hL1 h2 h3
                go_wp2_with fail
                have HQA := Lib.hid (HQ9.out.alloc (.cells #[.int .i64 p5.now.k, .string p5.now.s, .int .i64 p5.now.v, .int .i64 p5.now.n] 47))
                refine (HFL.out _ _ HQA.out.pt.z).mono ?_
                rintro e1 y2 ⟨rfl, hp2⟩
                have HQB := Lib.hid (HQA.out.step hp2)
                have t2 : y2.cell? ⟨y1.heap.size, 2, none⟩ = some (.int .i64 p5.now.v) := (hp2.o.blk HT6.out (by simp; omega)).cell 2
                have n5 : y2.cell? ⟨bN, 4, none⟩ = some (.int .i64 256) := HQB.out.bn.cell 4
                have g5 := HQB.out.bn.frozen 4
                have HQC := Lib.hid (HQB.out.lim p5.now.v)
                clear hp2
                go_wp2_with fail
                refine (HNX.out _ _ HQC.out.pt.z).mono ?_
                rintro e1 y3 ⟨rfl, hp3⟩
                have HQD := Lib.hid (HQC.out.step hp3)
                clear hp3
                go_wp2_with fail
                go_meet
                exact ⟨_, _, HQD.out, HE.out.symm, HL2.out.symm⟩
            · have hx2 : (p5.now.k != 2) = true := by simpa using h2
              have HE : Hid (pl = (p5.fl p5.now.n).nx) := by rw [hL1, if_neg (fun h => h2 h.1)]; rfl
              clear hL1 h2
              go_wp2_with fail
              have HQA := Lib.hid (HQ9.out.alloc (.cells #[.int .i64 p5.now.k, .string p5.now.s, .int .i64 p5.now.v, .int .i64 p5.now.n] 47))
              refine (HFL.out _ _ HQA.out.pt.z).mono ?_
              rintro e1 y2 ⟨rfl, hp2⟩
              have HQB := Lib.hid (HQA.out.step hp2)
              have t2 : y2.cell? ⟨y1.heap.size, 2, none⟩ = some (.int .i64 p5.now.v) := (hp2.o.blk HT6.out (by simp; omega)).cell 2
              have n5 : y2.cell? ⟨bN, 4, none⟩ = some (.int .i64 256) := HQB.out.bn.cell 4
              have g5 := HQB.out.bn.frozen 4
              have HQC := Lib.hid (HQB.out.lim p5.now.v)
              clear hp2
              go_wp2_with fail
              refine (HNX.out _ _ HQC.out.pt.z).mono ?_
              rintro e1 y3 ⟨rfl, hp3⟩
              have HQD := Lib.hid (HQC.out.step hp3)
              clear hp3
              go_wp2_with fail
              go_meet
              exact ⟨_, _, HQD.out, HE.out.symm, HL2.out.symm⟩
        case rest =>
          obtain ⟨p4, m, hqs, hT1, hT2⟩ := hcut
          have HQ9 := Lib.hid hqs
          have HRES5 : Hid ((PF, QF) = (p4.fin, ⟨ns.map Prod.fst, es, cs, ts, m⟩)) := by have hh := HRES4.out; rw [← hT1, ← hT2] at hh; exact hh
          clear hqs hT1 hT2 HQ8 HRES4
          go_wp2_with fail
          refine (HNW.out _ _ HQ9.out.pt.z).mono ?_
          rintro e1 y1 ⟨rfl, hb1⟩
          have HQA := Lib.hid (HQ9.out.up hb1)
          clear hb1
          by_cases hk : p4.now.k = 0
          · have hx : (p4.now.k != 0) = false := by simp [hk]
            have HRF : Hid ((PF, QF) = (p4, ⟨ns.map Prod.fst, es, cs, ts, m⟩)) := by have hh := HRES5.out; rw [show p4.fin = p4 from if_pos hk] at hh; exact hh
            have HF := HQA
            clear hk HQ9 HQA HRES5
            obtain ⟨A1, k1, hv1, _, _, _⟩ := HF.out.m1.form
            obtain ⟨A2, k2, hv2, _, _, _⟩ := HF.out.m2.form
            obtain ⟨A3, k3, hv3, _, _, _⟩ := HF.out.m3.form
            obtain ⟨A4, k4, hv4, _, _, _⟩ := HF.out.m4.form
            subst hv1 hv2 hv3 hv4
            obtain ⟨n0, n1, n2, n3, n4⟩ := blk5 _ _ _ _ _ HF.out.bn
            obtain ⟨c0, c1, c2, c3, c4⟩ := blk5 _ _ _ _ _ (show Blk _ w.heap.size 27 #[.slice none 0 0, .slice none 0 0, .slice none 0 0, .slice none 0 0, .int .i64 0] from HF.out.b2)
            obtain ⟨f0, f1, f2, f3, f4, _⟩ := frz6 HF.out.b2
            have hbw := HF.out.lt
            have hbw2 : ¬ w.heap.size = bN := by omega
            clear hbw
            go_wp2_with fail
            refine bodyPost_ret (by rw [results_cell1 (fn := Tryd.f7) rfl]; go_simp; rfl) rfl ?_
            have hres := HRF.out
            injection hres with h1 h2
            subst h1 h2
            exact ⟨_, _, _, _, ns, rfl, HF.out.fin _ _ _ _ _⟩
          · have hx : (p4.now.k != 0) = true := by simpa using hk
            have HRF : Hid ((PF, QF) = (p4.fl p4.now.n, ⟨ns.map Prod.fst, es, cs, ts, m⟩)) := by have hh := HRES5.out; rw [show p4.fin = p4.fl p4.now.n from if_neg hk] at hh; exact hh
            clear hk HRES5
            go_wp2_with fail
            refine (HFL.out _ _ HQA.out.pt.z).mono ?_
            rintro e1 y2 ⟨rfl, hp2⟩
            have HF := Lib.hid (HQA.out.step hp2)
            clear hp2 HQA HQ9
            obtain ⟨A1, k1, hv1, _, _, _⟩ := HF.out.m1.form
            obtain ⟨A2, k2, hv2, _, _, _⟩ := HF.out.m2.form
            obtain ⟨A3, k3, hv3, _, _, _⟩ := HF.out.m3.form
            obtain ⟨A4, k4, hv4, _, _, _⟩ := HF.out.m4.form
            subst hv1 hv2 hv3 hv4
            obtain ⟨n0, n1, n2, n3, n4⟩ := blk5 _ _ _ _ _ HF.out.bn
            obtain ⟨c0, c1, c2, c3, c4⟩ := blk5 _ _ _ _ _ (show Blk _ w.heap.size 27 #[.slice none 0 0, .slice none 0 0, .slice none 0 0, .slice none 0 0, .int .i64 0] from HF.out.b2)
            obtain ⟨f0, f1, f2, f3, f4, _⟩ := frz6 HF.out.b2
            have hbw := HF.out.lt
            have hbw2 : ¬ w.heap.size = bN := by omega
            clear hbw
            go_wp2_with fail
            refine bodyPost_ret (by rw [results_cell1 (fn := Tryd.f7) rfl]; go_simp; rfl) rfl ?_
            have hres := HRF.out
            injection hres with h1 h2
            subst h1 h2
            exact ⟨_, _, _, _, ns, rfl, HF.out.fin _ _ _ _ _⟩

end Go.Proofs.YtahhbgfibelfaaaDoor
