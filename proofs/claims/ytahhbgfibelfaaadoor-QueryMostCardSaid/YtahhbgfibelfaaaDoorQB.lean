import Derived.Test.YtahhbgfibelfaaaDoorQA
namespace Go.Proofs.YtahhbgfibelfaaaDoor
open Go.RowKit Go.Lib
set_option linter.unusedVariables false

attribute [local go_sem] wfld0 wfld1 wfld2 wfld3
/-- The parser, and a struct that is being made behind it. -/
structure KS (w : World) (q g o c : Nat) (ws : List Wd) (T : TypeId) (z : Array Value) (bN : Nat) (cs : Array Value) (p : Ps) (y : World) : Prop where
  pt : Pt w q g o c ws p y
  b2 : Blk y w.heap.size T z
  bn : Blk y bN T cs
  lt : w.heap.size < bN
  h0 : ∃ p0, Pz w q g o c ws p0
section
variable {w y z : World} {q g o c bN : Nat} {ws : List Wd} {T : TypeId} {zs cs : Array Value} {p p' : Ps}
theorem KS.step (h : KS w q g o c ws T zs bN cs p y) (k : Pt y q g o c ws p' z) : KS w q g o c ws T zs bN cs p' z := by
  obtain ⟨p0, h0⟩ := h.h0
  have hq := h0.ql
  have hlt := h.lt
  exact ⟨h.pt.of k, k.o.blk h.b2 (by simp; omega), k.o.blk h.bn (by simp; omega), h.lt, h.h0⟩
theorem KS.up (h : KS w q g o c ws T zs bN cs p y) (hb : Below y.heap.size y z) : KS w q g o c ws T zs bN cs p z :=
  ⟨h.pt.below hb, h.b2.below hb h.b2.lt, h.bn.below hb h.bn.lt, h.lt, h.h0⟩
theorem KS.drew (h : KS w q g o c ws T zs bN cs p y) : KS w q g o c ws T zs bN cs p y.drew := h.up (below_drew (Below.refl _ _))
theorem KS.alloc (h : KS w q g o c ws T zs bN cs p y) (ob : Obj) : KS w q g o c ws T zs bN cs p (y.alloc ob) := h.up ((Below.refl _ _).alloc (Nat.le_refl _) _)
theorem KS.set (h : KS w q g o c ws T zs bN cs p y) (i : Nat) (u : Value) : KS w q g o c ws T zs bN (cs.setIfInBounds i u) p (y.setCell ⟨bN, i, none⟩ u) := by
  obtain ⟨p0, h0⟩ := h.h0
  have hlt := h.lt
  exact ⟨h.pt.put h0 (by show w.heap.size ≤ bN; omega) _, h.b2.far (by show w.heap.size ≠ bN; omega) _, h.bn.set_ i _, h.lt, h.h0⟩
end
theorem blk2 {w : World} {g : Nat} {t : TypeId} (a b : Value) (h : Blk w g t #[a, b]) : w.cell? ⟨g, 0, none⟩ = some a ∧ w.cell? ⟨g, 1, none⟩ = some b ∧ w.frozen? ⟨g, 0, none⟩ = false ∧ w.frozen? ⟨g, 1, none⟩ = false := ⟨h.cell 0, h.cell 1, h.frozen 0, h.frozen 1⟩
set_option maxHeartbeats 4000000 in
set_option maxRecDepth 100000 in
theorem pitem_ok (w : World) (q g o c : Nat) (ws : List Wd) (p : Ps) (hw : Wok ws c) (h : Pz w q g o c ws p) (hL : Laid w) (hq : 9 ≤ q) :
    Calls Tryd.prog 18 #[qP q] w fun e w' => e = .returned (.agg #[.string p.itemV.v, .string p.itemV.k]) ∧ Pt w q g o c ws p.item w' := by
  have HZ := Lib.hid h
  have HLW := Lib.hid hL
  have HMK := Lib.hid (fun w' p' s (h' : Pz w' q g o c ws p') => mark_ok w' q g o c ws p' s hw h')
  have HMY := Lib.hid (fun w' p' s (h' : Pz w' q g o c ws p') => may_ok w' q g o c ws p' s hw h')
  have HNM := Lib.hid (fun w' p' m (h' : Pz w' q g o c ws p') (hl : Laid w') => pname_ok w' q g o c ws p' m hw h' hl hq)
  have HVL := Lib.hid (fun w' p' (h' : Pz w' q g o c ws p') => pval_ok w' q g o c ws p' hw h')
  have HNW := Lib.hid (fun w' p' (h' : Pz w' q g o c ws p') => now_ok w' q g o c ws p' hw h')
  have HFL := Lib.hid (fun w' p' (h' : Pz w' q g o c ws p') => fail_ok w' q g o c ws p' hw h')
  have HNX := Lib.hid (fun w' p' (h' : Pz w' q g o c ws p') => next_ok w' q g o c ws p' hw h')
  have hlen := hw.len
  have hql := h.ql
  have hgl := h.gl
  have HWK := Lib.hid hw
  clear hw h hL
  unfold qP at *
  go_enter Tryd.func18, Tryd.ntmps18
  go_wp2_with fail
  have HP0 := Lib.hid ((Pt.refl HZ.out).alloc (.cells #[.string ⟨#[]⟩, .string ⟨#[]⟩] 44))
  refine (HNM.out _ p true HP0.out.z (laid_only HLW.out HP0.out.o hq)).mono ?_
  rintro e1 w1 ⟨rfl, hp1⟩
  have HP1 := Lib.hid (HP0.out.of hp1)
  have HB1 := Lib.hid (hp1.o.blk (Blk.new w 44 #[.string ⟨#[]⟩, .string ⟨#[]⟩]) (by simp; omega))
  have hsz : w.heap.size < w1.heap.size := HB1.out.lt
  have HK2 : Hid (KS w q g o c ws 44 #[.string ⟨#[]⟩, .string ⟨#[]⟩] w1.heap.size #[.string p.nameS, .string ⟨#[]⟩] (p.name true) (w1.alloc (.cells #[.string p.nameS, .string ⟨#[]⟩] 44))) :=
    ⟨HP1.out.alloc _, HB1.out.alloc _, Blk.new _ _ _, hsz, ⟨p, HZ.out⟩⟩
  clear hp1
  go_wp2_with fail
  refine (HMY.out _ _ mDot HK2.out.pt.z).mono ?_
  rintro e1 w2 ⟨rfl, hp2⟩
  have HK3 := Lib.hid (HK2.out.step hp2)
  clear hp2 HK2 HP0 HP1 HB1
  generalize w1.heap.size = bN at *
  have hN : p.item = (p.name true).opt mDot := rfl
  have hV : p.itemV = ⟨p.nameS, (p.name true).optS mDot⟩ := rfl
  generalize p.nameS = vr at *
  generalize p.name true = p1 at *
  generalize hr : p1.is 4 mDot = r at *
  cases r
  · have HE : Hid (p.item = p1 ∧ p.itemV = ⟨vr, ⟨#[]⟩⟩) := ⟨by rw [hN, (opt_neg hr).1], by rw [hV, (opt_neg hr).2.1]⟩
    have hm := (opt_neg hr).2.2
    rw [hm] at HK3
    have HKF := HK3
    obtain ⟨n0, n1, _, _⟩ := blk2 _ _ HKF.out.bn
    obtain ⟨c0, c1, f0, f1⟩ := blk2 _ _ HKF.out.b2
    have hbw := HKF.out.lt
    have hbw2 : ¬ w.heap.size = bN := by omega
    clear hm hN hV hbw
    go_wp2_with fail
    refine bodyPost_ret (by rw [results_cell1 (fn := Tryd.f18) rfl]; go_simp; rfl) rfl ?_
    rw [HE.out.1, HE.out.2]
    exact ⟨rfl, ((HKF.out.pt.put HZ.out (Nat.le_refl _) _).put HZ.out (Nat.le_refl _) _)⟩
  · have HE : Hid (p.item = p1.nx.name true ∧ p.itemV = ⟨vr, p1.nx.nameS⟩) := ⟨by rw [hN, (opt_pos hr).1], by rw [hV, (opt_pos hr).2.1]⟩
    have hm := (opt_pos hr).2.2
    rw [hm] at HK3
    clear hm hN hV
    go_wp2_with fail
    refine (HNM.out _ _ true HK3.out.pt.z (laid_only HLW.out HK3.out.pt.o hq)).mono ?_
    rintro e1 w3 ⟨rfl, hp3⟩
    have HK4 := Lib.hid (HK3.out.step hp3)
    have HKF : Hid (KS _ _ _ _ _ _ _ _ _ _ _ _) := HK4.out.set 1 (.string p1.nx.nameS)
    obtain ⟨n0, n1, m0, m1⟩ := blk2 _ _ HK4.out.bn
    obtain ⟨c0, c1, f0, f1⟩ := blk2 _ _ HK4.out.b2
    have hbw := HK4.out.lt
    have hbw2 : ¬ w.heap.size = bN := by omega
    have hbw3 : ¬ bN = w.heap.size := by omega
    clear hp3 hbw
    go_wp2_with fail
    refine bodyPost_ret (by rw [results_cell1 (fn := Tryd.f18) rfl]; go_simp; rfl) rfl ?_
    rw [HE.out.1, HE.out.2]
    exact ⟨rfl, ((HKF.out.pt.put HZ.out (Nat.le_refl _) _).put HZ.out (Nat.le_refl _) _)⟩
set_option maxHeartbeats 4000000 in
set_option maxRecDepth 100000 in
theorem pedge_ok (w : World) (q g o c : Nat) (ws : List Wd) (p : Ps) (hw : Wok ws c) (h : Pz w q g o c ws p) (hL : Laid w) (hq : 9 ≤ q) :
    Calls Tryd.prog 14 #[qP q] w fun e w' => e = .returned (.agg #[.string p.edgeV.v, .string p.edgeV.t, .bool p.edgeV.o]) ∧ Pt w q g o c ws p.edge w' := by
  have HZ := Lib.hid h
  have HLW := Lib.hid hL
  have HMK := Lib.hid (fun w' p' s (h' : Pz w' q g o c ws p') => mark_ok w' q g o c ws p' s hw h')
  have HMY := Lib.hid (fun w' p' s (h' : Pz w' q g o c ws p') => may_ok w' q g o c ws p' s hw h')
  have HNM := Lib.hid (fun w' p' m (h' : Pz w' q g o c ws p') (hl : Laid w') => pname_ok w' q g o c ws p' m hw h' hl hq)
  have HVL := Lib.hid (fun w' p' (h' : Pz w' q g o c ws p') => pval_ok w' q g o c ws p' hw h')
  have HNW := Lib.hid (fun w' p' (h' : Pz w' q g o c ws p') => now_ok w' q g o c ws p' hw h')
  have HFL := Lib.hid (fun w' p' (h' : Pz w' q g o c ws p') => fail_ok w' q g o c ws p' hw h')
  have HNX := Lib.hid (fun w' p' (h' : Pz w' q g o c ws p') => next_ok w' q g o c ws p' hw h')
  have hlen := hw.len
  have hql := h.ql
  have hgl := h.gl
  have HWK := Lib.hid hw
  clear hw h hL
  unfold qP at *
  go_enter Tryd.func14, Tryd.ntmps14
  go_wp2_with fail
  have HP0 := Lib.hid ((Pt.refl HZ.out).alloc (.cells #[.string ⟨#[]⟩, .string ⟨#[]⟩, .bool false] 42))
  refine (HMY.out _ p mBack HP0.out.z).mono ?_
  rintro e1 w1 ⟨rfl, hp1⟩
  have HP1 := Lib.hid (HP0.out.of hp1)
  have HB1 := Lib.hid (hp1.o.blk (Blk.new w 42 #[.string ⟨#[]⟩, .string ⟨#[]⟩, .bool false]) (by simp; omega))
  clear hp1
  have hE0 : p.edge0 = (if p.is 4 mBack then p.nx else p.must 4 mMinus).must 4 mSq := rfl
  have hN : p.edge = (((p.edge0.name false).opt mColon).must 4 mUnsq).must 4 (if p.is 4 mBack then mMinus else mOn) := rfl
  have hV : p.edgeV = ⟨p.edge0.nameS, (p.edge0.name false).optS mColon, !(p.is 4 mBack)⟩ := rfl
  have hmn := fun h => may_neg (p := p) (k := 4) (s := mBack) h
  have hmp := fun h => may_pos (p := p) (k := 4) (s := mBack) h
  generalize p.is 4 mBack = r at *
  cases r
  · rw [hmn rfl] at HP1
    simp only [Bool.false_eq_true, if_false, Bool.not_false] at hE0 hN hV
    go_wp2_with fail
    refine (HMK.out _ _ mMinus HP1.out.z).mono ?_
    rintro e1 w2 ⟨rfl, hp2⟩
    have HP2 := Lib.hid (HP1.out.of hp2)
    have HB2 := Lib.hid (hp2.o.blk HB1.out (by simp; omega))
    clear hp2
    clear hmn hmp
    go_wp2_with fail
    refine (HMK.out _ _ mSq HP2.out.z).mono ?_
    rintro e1 w3 ⟨rfl, hp3⟩
    have HP3 := Lib.hid (HP2.out.of hp3)
    have HB3 := Lib.hid (hp3.o.blk HB2.out (by simp; omega))
    clear hp3
    rw [← hE0] at HP3
    clear hE0
    generalize p.edge0 = p3 at *
    go_wp2_with fail
    refine (HNM.out _ _ false HP3.out.z (laid_only HLW.out HP3.out.o hq)).mono ?_
    rintro e1 w4 ⟨rfl, hp4⟩
    have HP4 := Lib.hid (HP3.out.of hp4)
    have HB4 := Lib.hid (hp4.o.blk HB3.out (by simp; omega))
    have hsz : w.heap.size < w4.heap.size := HB4.out.lt
    have HK5 : Hid (KS w q g o c ws 42 #[.string ⟨#[]⟩, .string ⟨#[]⟩, .bool false] w4.heap.size #[.string p3.nameS, .string ⟨#[]⟩, .bool true] (p3.name false) (w4.alloc (.cells #[.string p3.nameS, .string ⟨#[]⟩, .bool true] 42))) :=
      ⟨HP4.out.alloc _, HB4.out.alloc _, Blk.new _ _ _, hsz, ⟨p, HZ.out⟩⟩
    clear hp4
    go_wp2_with fail
    refine (HMY.out _ _ mColon HK5.out.pt.z).mono ?_
    rintro e1 w5 ⟨rfl, hp5⟩
    have HK6 := Lib.hid (HK5.out.step hp5)
    clear hp5 HK5 HP0 HP1 HB1 HP2 HB2 HP3 HB3 HP4 HB4
    generalize w4.heap.size = bN at *
    generalize p3.nameS = vr at *
    generalize p3.name false = p4 at *
    generalize hr : p4.is 4 mColon = r at *
    cases r
    · have HE : Hid (p.edge = (p4.must 4 mUnsq).must 4 mOn ∧ p.edgeV = ⟨vr, ⟨#[]⟩, true⟩) := ⟨by rw [hN, (opt_neg hr).1], by rw [hV, (opt_neg hr).2.1]⟩
      have hm := (opt_neg hr).2.2
      rw [hm] at HK6
      have HK7 := HK6
      clear hm hN hV
      go_wp2_with fail
      refine (HMK.out _ _ mUnsq HK7.out.pt.z).mono ?_
      rintro e1 w7 ⟨rfl, hp7⟩
      have HK8 := Lib.hid (HK7.out.step hp7)
      clear hp7
      go_wp2_with fail
      refine (HMK.out _ _ mOn HK8.out.pt.z).mono ?_
      rintro e1 w8 ⟨rfl, hp8⟩
      have HKF := Lib.hid (HK8.out.step hp8)
      clear hp8
      obtain ⟨n0, n1, n2, _, _, _⟩ := blk3 _ _ _ HKF.out.bn
      obtain ⟨c0, c1, c2, f0, f1, f2⟩ := blk3 _ _ _ HKF.out.b2
      have hbw := HKF.out.lt
      have hbw2 : ¬ w.heap.size = bN := by omega
      go_wp2_with fail
      refine bodyPost_ret (by rw [results_cell1 (fn := Tryd.f14) rfl]; go_simp; rfl) rfl ?_
      rw [HE.out.1, HE.out.2]
      exact ⟨rfl, (((HKF.out.pt.put HZ.out (Nat.le_refl _) _).put HZ.out (Nat.le_refl _) _).put HZ.out (Nat.le_refl _) _)⟩
    · have HE : Hid (p.edge = ((p4.nx.name true).must 4 mUnsq).must 4 mOn ∧ p.edgeV = ⟨vr, p4.nx.nameS, true⟩) := ⟨by rw [hN, (opt_pos hr).1], by rw [hV, (opt_pos hr).2.1]⟩
      have hm := (opt_pos hr).2.2
      rw [hm] at HK6
      clear hm hN hV
      go_wp2_with fail
      refine (HNM.out _ _ true HK6.out.pt.z (laid_only HLW.out HK6.out.pt.o hq)).mono ?_
      rintro e1 w6 ⟨rfl, hp6⟩
      have HK6b := Lib.hid (HK6.out.step hp6)
      have HK7 : Hid (KS _ _ _ _ _ _ _ _ _ _ _ _) := HK6b.out.set 1 (.string p4.nx.nameS)
      obtain ⟨_, l1, _, _, g1, _⟩ := blk3 _ _ _ HK6b.out.bn
      clear hp6
      go_wp2_with fail
      refine (HMK.out _ _ mUnsq HK7.out.pt.z).mono ?_
      rintro e1 w7 ⟨rfl, hp7⟩
      have HK8 := Lib.hid (HK7.out.step hp7)
      clear hp7
      go_wp2_with fail
      refine (HMK.out _ _ mOn HK8.out.pt.z).mono ?_
      rintro e1 w8 ⟨rfl, hp8⟩
      have HKF := Lib.hid (HK8.out.step hp8)
      clear hp8
      obtain ⟨n0, n1, n2, _, _, _⟩ := blk3 _ _ _ HKF.out.bn
      obtain ⟨c0, c1, c2, f0, f1, f2⟩ := blk3 _ _ _ HKF.out.b2
      have hbw := HKF.out.lt
      have hbw2 : ¬ w.heap.size = bN := by omega
      go_wp2_with fail
      refine bodyPost_ret (by rw [results_cell1 (fn := Tryd.f14) rfl]; go_simp; rfl) rfl ?_
      rw [HE.out.1, HE.out.2]
      exact ⟨rfl, (((HKF.out.pt.put HZ.out (Nat.le_refl _) _).put HZ.out (Nat.le_refl _) _).put HZ.out (Nat.le_refl _) _)⟩
  · rw [hmp rfl] at HP1
    simp only [if_true, Bool.not_true] at hE0 hN hV
    have HP2 := HP1
    have HB2 := HB1
    clear hmn hmp
    go_wp2_with fail
    refine (HMK.out _ _ mSq HP2.out.z).mono ?_
    rintro e1 w3 ⟨rfl, hp3⟩
    have HP3 := Lib.hid (HP2.out.of hp3)
    have HB3 := Lib.hid (hp3.o.blk HB2.out (by simp; omega))
    clear hp3
    rw [← hE0] at HP3
    clear hE0
    generalize p.edge0 = p3 at *
    go_wp2_with fail
    refine (HNM.out _ _ false HP3.out.z (laid_only HLW.out HP3.out.o hq)).mono ?_
    rintro e1 w4 ⟨rfl, hp4⟩
    have HP4 := Lib.hid (HP3.out.of hp4)
    have HB4 := Lib.hid (hp4.o.blk HB3.out (by simp; omega))
    have hsz : w.heap.size < w4.heap.size := HB4.out.lt
    have HK5 : Hid (KS w q g o c ws 42 #[.string ⟨#[]⟩, .string ⟨#[]⟩, .bool false] w4.heap.size #[.string p3.nameS, .string ⟨#[]⟩, .bool false] (p3.name false) (w4.alloc (.cells #[.string p3.nameS, .string ⟨#[]⟩, .bool false] 42))) :=
      ⟨HP4.out.alloc _, HB4.out.alloc _, Blk.new _ _ _, hsz, ⟨p, HZ.out⟩⟩
    clear hp4
    go_wp2_with fail
    refine (HMY.out _ _ mColon HK5.out.pt.z).mono ?_
    rintro e1 w5 ⟨rfl, hp5⟩
    have HK6 := Lib.hid (HK5.out.step hp5)
    clear hp5 HK5 HP0 HP1 HB1 HP2 HB2 HP3 HB3 HP4 HB4
    generalize w4.heap.size = bN at *
    generalize p3.nameS = vr at *
    generalize p3.name false = p4 at *
    generalize hr : p4.is 4 mColon = r at *
    cases r
    · have HE : Hid (p.edge = (p4.must 4 mUnsq).must 4 mMinus ∧ p.edgeV = ⟨vr, ⟨#[]⟩, false⟩) := ⟨by rw [hN, (opt_neg hr).1], by rw [hV, (opt_neg hr).2.1]⟩
      have hm := (opt_neg hr).2.2
      rw [hm] at HK6
      have HK7 := HK6
      clear hm hN hV
      go_wp2_with fail
      refine (HMK.out _ _ mUnsq HK7.out.pt.z).mono ?_
      rintro e1 w7 ⟨rfl, hp7⟩
      have HK8 := Lib.hid (HK7.out.step hp7)
      clear hp7
      go_wp2_with fail
      refine (HMK.out _ _ mMinus HK8.out.pt.z).mono ?_
      rintro e1 w8 ⟨rfl, hp8⟩
      have HKF := Lib.hid (HK8.out.step hp8)
      clear hp8
      obtain ⟨n0, n1, n2, _, _, _⟩ := blk3 _ _ _ HKF.out.bn
      obtain ⟨c0, c1, c2, f0, f1, f2⟩ := blk3 _ _ _ HKF.out.b2
      have hbw := HKF.out.lt
      have hbw2 : ¬ w.heap.size = bN := by omega
      go_wp2_with fail
      refine bodyPost_ret (by rw [results_cell1 (fn := Tryd.f14) rfl]; go_simp; rfl) rfl ?_
      rw [HE.out.1, HE.out.2]
      exact ⟨rfl, (((HKF.out.pt.put HZ.out (Nat.le_refl _) _).put HZ.out (Nat.le_refl _) _).put HZ.out (Nat.le_refl _) _)⟩
    · have HE : Hid (p.edge = ((p4.nx.name true).must 4 mUnsq).must 4 mMinus ∧ p.edgeV = ⟨vr, p4.nx.nameS, false⟩) := ⟨by rw [hN, (opt_pos hr).1], by rw [hV, (opt_pos hr).2.1]⟩
      have hm := (opt_pos hr).2.2
      rw [hm] at HK6
      clear hm hN hV
      go_wp2_with fail
      refine (HNM.out _ _ true HK6.out.pt.z (laid_only HLW.out HK6.out.pt.o hq)).mono ?_
      rintro e1 w6 ⟨rfl, hp6⟩
      have HK6b := Lib.hid (HK6.out.step hp6)
      have HK7 : Hid (KS _ _ _ _ _ _ _ _ _ _ _ _) := HK6b.out.set 1 (.string p4.nx.nameS)
      obtain ⟨_, l1, _, _, g1, _⟩ := blk3 _ _ _ HK6b.out.bn
      clear hp6
      go_wp2_with fail
      refine (HMK.out _ _ mUnsq HK7.out.pt.z).mono ?_
      rintro e1 w7 ⟨rfl, hp7⟩
      have HK8 := Lib.hid (HK7.out.step hp7)
      clear hp7
      go_wp2_with fail
      refine (HMK.out _ _ mMinus HK8.out.pt.z).mono ?_
      rintro e1 w8 ⟨rfl, hp8⟩
      have HKF := Lib.hid (HK8.out.step hp8)
      clear hp8
      obtain ⟨n0, n1, n2, _, _, _⟩ := blk3 _ _ _ HKF.out.bn
      obtain ⟨c0, c1, c2, f0, f1, f2⟩ := blk3 _ _ _ HKF.out.b2
      have hbw := HKF.out.lt
      have hbw2 : ¬ w.heap.size = bN := by omega
      go_wp2_with fail
      refine bodyPost_ret (by rw [results_cell1 (fn := Tryd.f14) rfl]; go_simp; rfl) rfl ?_
      rw [HE.out.1, HE.out.2]
      exact ⟨rfl, (((HKF.out.pt.put HZ.out (Nat.le_refl _) _).put HZ.out (Nat.le_refl _) _).put HZ.out (Nat.le_refl _) _)⟩

end Go.Proofs.YtahhbgfibelfaaaDoor
