import Derived.Test.YtahhbgfibelfaaaDoorQB
import Derived.Test.YtahhbgfibelfaaaDoorQP
namespace Go.Proofs.YtahhbgfibelfaaaDoor
open Go.RowKit Go.Lib
set_option linter.unusedVariables false

attribute [local go_sem] wfld0 wfld1 wfld2 wfld3
theorem blk6 {w : World} {g : Nat} {t : TypeId} (a b c d e f : Value) (h : Blk w g t #[a, b, c, d, e, f]) : w.cell? ⟨g, 0, none⟩ = some a ∧ w.cell? ⟨g, 1, none⟩ = some b ∧ w.cell? ⟨g, 2, none⟩ = some c ∧ w.cell? ⟨g, 3, none⟩ = some d ∧ w.cell? ⟨g, 4, none⟩ = some e ∧ w.cell? ⟨g, 5, none⟩ = some f := ⟨h.cell 0, h.cell 1, h.cell 2, h.cell 3, h.cell 4, h.cell 5⟩
theorem frz6 {w : World} {g : Nat} {t : TypeId} {cs : Array Value} (h : Blk w g t cs) : w.frozen? ⟨g, 0, none⟩ = false ∧ w.frozen? ⟨g, 1, none⟩ = false ∧ w.frozen? ⟨g, 2, none⟩ = false ∧ w.frozen? ⟨g, 3, none⟩ = false ∧ w.frozen? ⟨g, 4, none⟩ = false ∧ w.frozen? ⟨g, 5, none⟩ = false := ⟨h.frozen 0, h.frozen 1, h.frozen 2, h.frozen 3, h.frozen 4, h.frozen 5⟩
theorem idx_find (x : ByteArray) : ∀ (l : List ByteArray) (i : Nat), (l.findIdx? (fun s => decide (s = x)) = none ∧ Go.Lib.idxFromS l x i = -1) ∨ ∃ k, l.findIdx? (fun s => decide (s = x)) = some k ∧ Go.Lib.idxFromS l x i = ((i + k : Nat) : Int)
  | [], i => .inl ⟨rfl, rfl⟩
  | z :: l, i => by
    rw [List.findIdx?_cons]
    unfold Go.Lib.idxFromS
    by_cases h : z = x
    · right
      rw [if_pos h, decide_eq_true h]
      exact ⟨0, rfl, rfl⟩
    · rw [if_neg h, decide_eq_false h]
      rcases idx_find x l (i + 1) with ⟨h1, h2⟩ | ⟨k, h1, h2⟩
      · left; rw [h1, h2]; exact ⟨rfl, rfl⟩
      · right; rw [h1, h2]; exact ⟨k + 1, rfl, by congr 1; omega⟩
theorem op_idx (x : Wd) (h : x.k = 4) : (opI x = none ∧ Go.Lib.idxOfS opsL x.s = -1) ∨ ∃ i : Nat, opI x = some i ∧ Go.Lib.idxOfS opsL x.s = (i : Int) := by
  unfold opI Go.Lib.idxOfS
  rw [if_pos h]
  rcases idx_find x.s opsL 0 with ⟨h1, h2⟩ | ⟨k, h1, h2⟩
  · exact .inl ⟨h1, h2⟩
  · exact .inr ⟨k, h1, by rw [h2, Nat.zero_add]⟩
theorem op_none (x : Wd) (h : ¬ x.k = 4) : opI x = none := if_neg h
theorem cond_some {p : Ps} {i : Nat} (h : opI p.cond0.now = some i) : p.cond = p.cond0.nx.val ∧ p.condV = ⟨p.nameS, ((p.name true).must 4 mDot).nameS, (i : Int), p.cond0.nx.valV⟩ := by
  unfold Ps.cond Ps.condV; rw [h]; exact ⟨rfl, rfl⟩
theorem cond_none {p : Ps} (h : opI p.cond0.now = none) : p.cond = p.cond0.fl p.cond0.now.n ∧ p.condV = ⟨p.nameS, ((p.name true).must 4 mDot).nameS, 0, V0⟩ := by
  unfold Ps.cond Ps.condV; rw [h]; exact ⟨rfl, rfl⟩
set_option maxHeartbeats 4000000 in
set_option maxRecDepth 100000 in
theorem pcond_ok (w : World) (q g o c : Nat) (ws : List Wd) (p : Ps) (hw : Wok ws c) (h : Pz w q g o c ws p) (hL : Laid w) (hq : 9 ≤ q) :
    Calls Tryd.prog 16 #[qP q] w fun e w' => e = .returned (.agg #[.string p.condV.v, .string p.condV.k, .int .i64 p.condV.o, .int .i64 p.condV.x.k, .int .i64 p.condV.x.n, .string p.condV.x.s]) ∧ Pt w q g o c ws p.cond w' := by
  have HZ := Lib.hid h
  have HLW := Lib.hid hL
  have HMK := Lib.hid (fun w' p' s (h' : Pz w' q g o c ws p') => mark_ok w' q g o c ws p' s hw h')
  have HMY := Lib.hid (fun w' p' s (h' : Pz w' q g o c ws p') => may_ok w' q g o c ws p' s hw h')
  have HNM := Lib.hid (fun w' p' m (h' : Pz w' q g o c ws p') (hl : Laid w') => pname_ok w' q g o c ws p' m hw h' hl hq)
  have HVL := Lib.hid (fun w' p' (h' : Pz w' q g o c ws p') => pval_ok w' q g o c ws p' hw h')
  have HNW := Lib.hid (fun w' p' (h' : Pz w' q g o c ws p') => now_ok w' q g o c ws p' hw h')
  have HFL := Lib.hid (fun w' p' (h' : Pz w' q g o c ws p') => fail_ok w' q g o c ws p' hw h')
  have HNX := Lib.hid (fun w' p' (h' : Pz w' q g o c ws p') => next_ok w' q g o c ws p' hw h')
  have hlen := hw.len
  have hql := h.ql
  have hgl := h.gl
  have HWK := Lib.hid hw
  clear hw h hL
  unfold qP Wd.val4 at *
  go_enter Tryd.func16, Tryd.ntmps16
  go_wp2_with fail
  have HP0 := Lib.hid ((Pt.refl HZ.out).alloc (.cells #[.string ⟨#[]⟩, .string ⟨#[]⟩, .int .i64 0, .int .i64 0, .int .i64 0, .string ⟨#[]⟩] 61))
  refine (HNM.out _ p true HP0.out.z (laid_only HLW.out HP0.out.o hq)).mono ?_
  rintro e1 w1 ⟨rfl, hp1⟩
  have HP1 := Lib.hid (HP0.out.of hp1)
  have HB1 := Lib.hid (hp1.o.blk (Blk.new w 61 #[.string ⟨#[]⟩, .string ⟨#[]⟩, .int .i64 0, .int .i64 0, .int .i64 0, .string ⟨#[]⟩]) (by simp; omega))
  have hsz : w.heap.size < w1.heap.size := HB1.out.lt
  have HK2 : Hid (KS w q g o c ws 61 #[.string ⟨#[]⟩, .string ⟨#[]⟩, .int .i64 0, .int .i64 0, .int .i64 0, .string ⟨#[]⟩] w1.heap.size #[.string p.nameS, .string ⟨#[]⟩, .int .i64 0, .int .i64 0, .int .i64 0, .string ⟨#[]⟩] (p.name true) (w1.alloc (.cells #[.string p.nameS, .string ⟨#[]⟩, .int .i64 0, .int .i64 0, .int .i64 0, .string ⟨#[]⟩] 61))) :=
    ⟨HP1.out.alloc _, HB1.out.alloc _, Blk.new _ _ _, hsz, ⟨p, HZ.out⟩⟩
  clear hp1
  go_wp2_with fail
  refine (HMK.out _ _ mDot HK2.out.pt.z).mono ?_
  rintro e1 w2 ⟨rfl, hp2⟩
  have HK3 := Lib.hid (HK2.out.step hp2)
  clear hp2 HK2 HP0 HP1 HB1
  generalize w1.heap.size = bN at *
  have hcs := fun i h => cond_some (p := p) (i := i) h
  have hcn := fun h => cond_none (p := p) h
  have hc0 : p.cond0 = ((p.name true).must 4 mDot).name true := rfl
  generalize p.nameS = vr at *
  generalize (p.name true).must 4 mDot = p2 at *
  generalize p.cond0 = p3 at *
  subst hc0
  go_wp2_with fail
  refine (HNM.out _ _ true HK3.out.pt.z (laid_only HLW.out HK3.out.pt.o hq)).mono ?_
  rintro e1 w3 ⟨rfl, hp3⟩
  have HK4 := Lib.hid (HK3.out.step hp3)
  have HK5 : Hid (KS w q g o c ws 61 #[.string ⟨#[]⟩, .string ⟨#[]⟩, .int .i64 0, .int .i64 0, .int .i64 0, .string ⟨#[]⟩] bN #[.string vr, .string p2.nameS, .int .i64 0, .int .i64 0, .int .i64 0, .string ⟨#[]⟩] (p2.name true) (w3.setCell ⟨bN, 1, none⟩ (.string p2.nameS))) := HK4.out.set 1 (.string p2.nameS)
  obtain ⟨_, l1, _, _, _, _⟩ := blk6 _ _ _ _ _ _ HK4.out.bn
  obtain ⟨_, g1, _, _, _, _⟩ := frz6 HK4.out.bn
  clear hp3
  generalize p2.nameS = ky at *
  generalize p2.name true = p3 at *
  go_wp2_with fail
  by_cases hk : p3.now.k = 4
  · have hx : (p3.now.k != 4) = false := by simp [hk]
    rcases op_idx p3.now hk with ⟨ho, hi⟩ | ⟨i, ho, hi⟩
    · have HE := Lib.hid (hcn ho)
      clear hcs hcn hk ho
      refine wp_region_planG (fun w' => True) 5 [(true, 0), (true, 1), (false, 2), (true, 3), (false, 4)] (by kernel_rfl) (by kernel_rfl) trivial ?_
      simp only [List.map_cons, List.map_nil, List.getD_cons_zero, List.getD_cons_succ, List.drop_succ_cons, List.drop_zero]
      (refine planG_take (v := ?_) (by rfl) ?_ ?_; rotate_left; (rintro wS hS1; go_simp; try with_reducible rfl); simp only [Act.put, List.setIfInBounds_toArray, List.set_cons_zero, List.set_cons_succ])
      (refine planG_take (v := ?_) (by rfl) ?_ ?_; rotate_left; (rintro wS hS1; go_simp; try with_reducible rfl); simp only [Act.put, List.setIfInBounds_toArray, List.set_cons_zero, List.set_cons_succ])
      refine planG_run (by rfl) (fun K hK => ?_)
      go_simp
      refine (HNW.out _ _ (pz_drew HK5.out.pt.z)).mono ?_
      rintro e1 y2 ⟨rfl, hb2⟩
      have HK6 := Lib.hid (HK5.out.drew.up hb2)
      clear hb2
      refine hK.out _ _ trivial ?_
      clear hK K
      try simp only [Act.put, List.setIfInBounds_toArray, List.set_cons_zero, List.set_cons_succ]
      (refine planG_take (v := ?_) (by rfl) ?_ ?_; rotate_left; (rintro wS hS1; go_simp; try with_reducible rfl); simp only [Act.put, List.setIfInBounds_toArray, List.set_cons_zero, List.set_cons_succ])
      refine planG_run (by rfl) (fun K hK => ?_)
      go_simp
      refine (op_ok _ _ (laid_only HLW.out HK6.out.pt.o hq)).mono ?_
      rintro e1 y3 ⟨rfl, rfl⟩
      refine hK.out _ _ trivial ?_
      clear hK K
      try simp only [Act.put, List.setIfInBounds_toArray, List.set_cons_zero, List.set_cons_succ]
      refine planG_nil ?_
      go_wp2_with fail
      refine NoPanic.normal ?_
      go_wp2_with fail
      refine (HNW.out _ _ HK6.out.pt.z).mono ?_
      rintro e1 y4 ⟨rfl, hb4⟩
      have HK7 := Lib.hid (HK6.out.up hb4)
      clear hb4
      go_wp2_with fail
      refine (HFL.out _ _ HK7.out.pt.z).mono ?_
      rintro e1 y5 ⟨rfl, hp5⟩
      have HKF := Lib.hid (HK7.out.step hp5)
      clear hp5
      obtain ⟨n0, n1, n2, n3, n4, n5⟩ := blk6 _ _ _ _ _ _ HKF.out.bn
      obtain ⟨c0, c1, c2, c3, c4, c5⟩ := blk6 _ _ _ _ _ _ HKF.out.b2
      obtain ⟨f0, f1, f2, f3, f4, f5⟩ := frz6 HKF.out.b2
      have hbw := HKF.out.lt
      have hbw2 : ¬ w.heap.size = bN := by omega
      go_wp2_with fail
      refine bodyPost_ret (by rw [results_cell1 (fn := Tryd.f16) rfl]; go_simp; rfl) rfl ?_
      rw [HE.out.1, HE.out.2]
      exact ⟨rfl, ((((((HKF.out.pt.put HZ.out (Nat.le_refl _) _).put HZ.out (Nat.le_refl _) _).put HZ.out (Nat.le_refl _) _).put HZ.out (Nat.le_refl _) _).put HZ.out (Nat.le_refl _) _).put HZ.out (Nat.le_refl _) _)⟩
    · have HE := Lib.hid (hcs i ho)
      have hin : ¬ ((i : Int) < 0) := by omega
      clear hcs hcn hk ho
      refine wp_region_planG (fun w' => True) 5 [(true, 0), (true, 1), (false, 2), (true, 3), (false, 4)] (by kernel_rfl) (by kernel_rfl) trivial ?_
      simp only [List.map_cons, List.map_nil, List.getD_cons_zero, List.getD_cons_succ, List.drop_succ_cons, List.drop_zero]
      (refine planG_take (v := ?_) (by rfl) ?_ ?_; rotate_left; (rintro wS hS1; go_simp; try with_reducible rfl); simp only [Act.put, List.setIfInBounds_toArray, List.set_cons_zero, List.set_cons_succ])
      (refine planG_take (v := ?_) (by rfl) ?_ ?_; rotate_left; (rintro wS hS1; go_simp; try with_reducible rfl); simp only [Act.put, List.setIfInBounds_toArray, List.set_cons_zero, List.set_cons_succ])
      refine planG_run (by rfl) (fun K hK => ?_)
      go_simp
      refine (HNW.out _ _ (pz_drew HK5.out.pt.z)).mono ?_
      rintro e1 y2 ⟨rfl, hb2⟩
      have HK6 := Lib.hid (HK5.out.drew.up hb2)
      clear hb2
      refine hK.out _ _ trivial ?_
      clear hK K
      try simp only [Act.put, List.setIfInBounds_toArray, List.set_cons_zero, List.set_cons_succ]
      (refine planG_take (v := ?_) (by rfl) ?_ ?_; rotate_left; (rintro wS hS1; go_simp; try with_reducible rfl); simp only [Act.put, List.setIfInBounds_toArray, List.set_cons_zero, List.set_cons_succ])
      refine planG_run (by rfl) (fun K hK => ?_)
      go_simp
      refine (op_ok _ _ (laid_only HLW.out HK6.out.pt.o hq)).mono ?_
      rintro e1 y3 ⟨rfl, rfl⟩
      refine hK.out _ _ trivial ?_
      clear hK K
      try simp only [Act.put, List.setIfInBounds_toArray, List.set_cons_zero, List.set_cons_succ]
      refine planG_nil ?_
      go_wp2_with fail
      refine NoPanic.normal ?_
      go_wp2_with fail
      refine (HNW.out _ _ HK6.out.pt.z).mono ?_
      rintro e1 y4 ⟨rfl, hb4⟩
      have HK7 := Lib.hid (HK6.out.up hb4)
      clear hb4
      go_wp2_with fail
      refine (HNX.out _ _ HK7.out.pt.z).mono ?_
      rintro e1 y5 ⟨rfl, hp5⟩
      have HK8 := Lib.hid (HK7.out.step hp5)
      clear hp5
      go_wp2_with fail
      refine (HVL.out _ _ HK8.out.pt.z).mono ?_
      rintro e1 y6 ⟨rfl, hp6⟩
      have HK9 := Lib.hid (HK8.out.step hp6)
      clear hp6
      have HKF : Hid (KS _ _ _ _ _ _ _ _ _ _ _ _) := (((HK9.out.set 2 (.int .i64 (i : Int))).set 3 (.int .i64 p3.nx.valV.k)).set 4 (.int .i64 p3.nx.valV.n)).set 5 (.string p3.nx.valV.s)
      obtain ⟨n0, n1, n2, n3, n4, n5⟩ := blk6 _ _ _ _ _ _ HK9.out.bn
      obtain ⟨m0, m1, m2, m3, m4, m5⟩ := frz6 HK9.out.bn
      obtain ⟨c0, c1, c2, c3, c4, c5⟩ := blk6 _ _ _ _ _ _ HK9.out.b2
      obtain ⟨f0, f1, f2, f3, f4, f5⟩ := frz6 HK9.out.b2
      have hbw := HK9.out.lt
      have hbw2 : ¬ w.heap.size = bN := by omega
      have hbw3 : ¬ bN = w.heap.size := by omega
      unfold Vl.val
      go_wp2_with fail
      refine bodyPost_ret (by rw [results_cell1 (fn := Tryd.f16) rfl]; go_simp; rfl) rfl ?_
      rw [HE.out.1, HE.out.2]
      exact ⟨rfl, ((((((HKF.out.pt.put HZ.out (Nat.le_refl _) _).put HZ.out (Nat.le_refl _) _).put HZ.out (Nat.le_refl _) _).put HZ.out (Nat.le_refl _) _).put HZ.out (Nat.le_refl _) _).put HZ.out (Nat.le_refl _) _)⟩
  · have hx : (p3.now.k != 4) = true := by simpa using hk
    have HE := Lib.hid (hcn (op_none _ hk))
    clear hcs hcn hk
    refine wp_region_planG (fun w' => True) 5 [(true, 0), (true, 1), (false, 2), (true, 3), (false, 4)] (by kernel_rfl) (by kernel_rfl) trivial ?_
    simp only [List.map_cons, List.map_nil, List.getD_cons_zero, List.getD_cons_succ, List.drop_succ_cons, List.drop_zero]
    (refine planG_take (v := ?_) (by rfl) ?_ ?_; rotate_left; (rintro wS hS1; go_simp; try with_reducible rfl); simp only [Act.put, List.setIfInBounds_toArray, List.set_cons_zero, List.set_cons_succ])
    (refine planG_take (v := ?_) (by rfl) ?_ ?_; rotate_left; (rintro wS hS1; go_simp; try with_reducible rfl); simp only [Act.put, List.setIfInBounds_toArray, List.set_cons_zero, List.set_cons_succ])
    refine planG_run (by rfl) (fun K hK => ?_)
    go_simp
    refine (HNW.out _ _ (pz_drew HK5.out.pt.z)).mono ?_
    rintro e1 y2 ⟨rfl, hb2⟩
    have HK6 := Lib.hid (HK5.out.drew.up hb2)
    clear hb2
    refine hK.out _ _ trivial ?_
    clear hK K
    try simp only [Act.put, List.setIfInBounds_toArray, List.set_cons_zero, List.set_cons_succ]
    (refine planG_take (v := ?_) (by rfl) ?_ ?_; rotate_left; (rintro wS hS1; go_simp; try with_reducible rfl); simp only [Act.put, List.setIfInBounds_toArray, List.set_cons_zero, List.set_cons_succ])
    refine planG_run (by rfl) (fun K hK => ?_)
    go_simp
    refine (op_ok _ _ (laid_only HLW.out HK6.out.pt.o hq)).mono ?_
    rintro e1 y3 ⟨rfl, rfl⟩
    refine hK.out _ _ trivial ?_
    clear hK K
    try simp only [Act.put, List.setIfInBounds_toArray, List.set_cons_zero, List.set_cons_succ]
    refine planG_nil ?_
    go_wp2_with fail
    refine NoPanic.normal ?_
    go_wp2_with fail
    refine (HNW.out _ _ HK6.out.pt.z).mono ?_
    rintro e1 y4 ⟨rfl, hb4⟩
    have HK7 := Lib.hid (HK6.out.up hb4)
    clear hb4
    go_wp2_with fail
    refine (HFL.out _ _ HK7.out.pt.z).mono ?_
    rintro e1 y5 ⟨rfl, hp5⟩
    have HKF := Lib.hid (HK7.out.step hp5)
    clear hp5
    obtain ⟨n0, n1, n2, n3, n4, n5⟩ := blk6 _ _ _ _ _ _ HKF.out.bn
    obtain ⟨c0, c1, c2, c3, c4, c5⟩ := blk6 _ _ _ _ _ _ HKF.out.b2
    obtain ⟨f0, f1, f2, f3, f4, f5⟩ := frz6 HKF.out.b2
    have hbw := HKF.out.lt
    have hbw2 : ¬ w.heap.size = bN := by omega
    go_wp2_with fail
    refine bodyPost_ret (by rw [results_cell1 (fn := Tryd.f16) rfl]; go_simp; rfl) rfl ?_
    rw [HE.out.1, HE.out.2]
    exact ⟨rfl, ((((((HKF.out.pt.put HZ.out (Nat.le_refl _) _).put HZ.out (Nat.le_refl _) _).put HZ.out (Nat.le_refl _) _).put HZ.out (Nat.le_refl _) _).put HZ.out (Nat.le_refl _) _).put HZ.out (Nat.le_refl _) _)⟩

end Go.Proofs.YtahhbgfibelfaaaDoor
