import Derived.Test.YtahhbgfibelfaaaDoorQ6
import Derived.Test.YtahhbgfibelfaaaDoorLA
import Derived.Test.YtahhbgfibelfaaaDoorQP
namespace Go.Proofs.YtahhbgfibelfaaaDoor
open Go.RowKit Go.Lib
set_option linter.unusedVariables false

attribute [local go_sem] wfld0 wfld1 wfld2 wfld3
theorem containsS_eq (l : List ByteArray) (s : ByteArray) : Go.Lib.containsS l s = memB l s := by
  have h := Go.Lib.containsS_iff l s
  cases ha : Go.Lib.containsS l s with
  | true => exact ((memB_iff l s).2 (h.1 ha)).symm
  | false =>
    cases hb : memB l s with
    | false => rfl
    | true => rw [h.2 ((memB_iff l s).1 hb)] at ha; cases ha
theorem kw_ok (s : ByteArray) (w : World) (hL : Laid w) :
    Calls Tryd.prog 27 #[.slice (some ⟨2, 0, none⟩) 6 6, .string s] w fun e w' => e = .returned (.bool (memB kwords s)) ∧ w' = w := by
  have hh : ∀ j, j < kwords.length → w.cell? ⟨2, 0 + j, none⟩ = some (.string (kwords.getD j ByteArray.empty)) := fun j hj => by
    rw [Nat.zero_add, hL.wo j hj]
    simp [List.getD_eq_getElem?_getD, List.getElem?_eq_getElem hj]
  refine (Tryd.slices_Contains_string 2 0 6 6 kwords s w (by decide) (by decide) hh).mono ?_
  rintro e w' ⟨h1, h2⟩
  rw [containsS_eq, show kwords.take 6 = kwords from rfl] at h1
  exact ⟨h1, h2⟩
theorem op_ok (s : ByteArray) (w : World) (hL : Laid w) :
    Calls Tryd.prog 38 #[.slice (some ⟨0, 0, none⟩) 6 6, .string s] w fun e w' => e = .returned (.int .i64 (Go.Lib.idxOfS opsL s)) ∧ w' = w := by
  have hh : ∀ j, j < opsL.length → w.cell? ⟨0, 0 + j, none⟩ = some (.string (opsL.getD j ByteArray.empty)) := fun j hj => by
    rw [Nat.zero_add, hL.op j hj]
    simp [List.getD_eq_getElem?_getD, List.getElem?_eq_getElem hj]
  exact Tryd.slices_Index_string 0 0 6 6 opsL s w (by decide) (by decide) hh
theorem blk_drew {w : World} {g : Nat} {t : TypeId} {cs : Array Value} (h : Blk w g t cs) : Blk w.drew g t cs := h
theorem laid_drew {w : World} (h : Laid w) : Laid w.drew := h.below (w0 := w) (below_drew (Below.refl _ _))
theorem pz_drew {w : World} {q g o c : Nat} {ws : List Wd} {p : Ps} (h : Pz w q g o c ws p) : Pz w.drew q g o c ws p := h.below (below_drew (Below.refl _ _))
set_option maxHeartbeats 4000000 in
set_option maxRecDepth 100000 in
theorem pname_ok (w : World) (q g o c : Nat) (ws : List Wd) (p : Ps) (m : Bool) (hw : Wok ws c) (h : Pz w q g o c ws p) (hL : Laid w) (hq : 9 ≤ q) :
    Calls Tryd.prog 36 #[qP q, .bool (!m)] w fun e w' => e = .returned (.string p.nameS) ∧ Pt w q g o c ws (p.name m) w' := by
  have HN := Lib.hid (now_ok w q g o c ws p hw h)
  have HF := Lib.hid (fun w' (h' : Pz w' q g o c ws p) => fail_ok w' q g o c ws p hw h')
  have HX := Lib.hid (fun w' (h' : Pz w' q g o c ws p) => next_ok w' q g o c ws p hw h')
  have HZ := Lib.hid h
  have HLW := Lib.hid hL
  have hql := h.ql
  have hok : WdOk p.now := by obtain ⟨a, hs, _⟩ := h.at_; exact hw.ok _ hs.now_mem
  have hnm := hok.nm
  have hsz := hok.s
  have hin : p.isName = (decide (p.now.k = 1) && (nameB p.now.s && !(memB kwords p.now.s))) := rfl
  have hns : p.nameS = if p.isName then p.now.s else ⟨#[]⟩ := rfl
  have hnp : p.name m = if p.isName then p.nx else if m then p.fl p.now.n else p := rfl
  have HKW := Lib.hid (fun w' (h : Laid w') => kw_ok p.now.s w' h)
  have HNM := Lib.hid (fun w' (h : 0 < p.now.s.size ∧ p.now.s.data.toList.all isN = true) => names_ok p.now.s hsz h.2 h.1 w')
  clear h hL hok
  generalize p.name m = pm at *
  generalize p.nameS = ps at *
  generalize p.isName = is at *
  generalize p.fl p.now.n = pf at *
  generalize p.nx = pn at *
  generalize p.now = x at *
  obtain ⟨xk, xs, xv, xn⟩ := x
  simp only at hns hnp hin HKW HNM hnm hsz
  generalize nameB xs = nb at *
  generalize memB kwords xs = kb at *
  have HNN := Lib.hid hnm
  clear hnm
  unfold Wd.val4 qP at *
  by_cases h1 : xk = 1
  · have HC := Lib.hid (HNN.out h1)
    subst h1
    simp only [decide_true, Bool.true_and] at hin
    cases kb
    · cases nb
      · simp only [Bool.not_false, Bool.and_true, Bool.false_and] at hin
        subst hin
        cases m
        · simp only [Bool.false_eq_true, if_false] at hns hnp
          have hns := hns.symm
          subst hns hnp
          go_enter Tryd.func36, Tryd.ntmps36
          go_wp2_with fail
          refine HN.out.mono ?_
          rintro e1 w1 ⟨rfl, hb1⟩
          have HZ1 := Lib.hid ((HZ.out.below hb1).alloc (.cells #[.int .i64 1, .string xs, .int .i64 xv, .int .i64 xn] 47))
          have HO := Lib.hid (((Only.refl w [q]).new hb1).alloc (.cells #[.int .i64 1, .string xs, .int .i64 xv, .int .i64 xn] 47))
          have HL1 := Lib.hid ((HLW.out.below (w0 := w) hb1).alloc (.cells #[.int .i64 1, .string xs, .int .i64 xv, .int .i64 xn] 47))
          have HT := Lib.hid (Blk.new w1 47 #[.int .i64 1, .string xs, .int .i64 xv, .int .i64 xn])
          have hqn : ¬ q = w1.heap.size := by have := hb1.size; omega
          clear hb1
          go_wp2_with fail
          refine wp_region_planG (fun w' => w'.cell? ⟨w1.heap.size, 0, none⟩ = some (.int .i64 1) ∧ w'.cell? ⟨w1.heap.size, 1, none⟩ = some (.string xs)) 14 [(true, 0), (true, 1), (true, 2), (true, 3), (true, 4), (true, 5), (true, 6), (false, 7), (true, 8), (true, 9), (true, 10), (true, 11), (false, 12), (true, 13)] (by kernel_rfl) (by kernel_rfl) ⟨HT.out.cell 0, HT.out.cell 1⟩ ?_
          simp only [List.map_cons, List.map_nil, List.getD_cons_zero, List.getD_cons_succ, List.drop_succ_cons, List.drop_zero]
          (refine planG_take (v := ?_) (by rfl) ?_ ?_; rotate_left; (rintro wS ⟨hS1, hS2⟩; go_simp; try with_reducible rfl); simp only [Act.put, List.setIfInBounds_toArray, List.set_cons_zero, List.set_cons_succ])
          (refine planG_take (v := ?_) (by rfl) ?_ ?_; rotate_left; (rintro wS ⟨hS1, hS2⟩; go_simp; try with_reducible rfl); simp only [Act.put, List.setIfInBounds_toArray, List.set_cons_zero, List.set_cons_succ])
          (refine planG_take (v := ?_) (by rfl) ?_ ?_; rotate_left; (rintro wS ⟨hS1, hS2⟩; go_simp; try with_reducible rfl); simp only [Act.put, List.setIfInBounds_toArray, List.set_cons_zero, List.set_cons_succ])
          (refine planG_take (v := ?_) (by rfl) ?_ ?_; rotate_left; (rintro wS ⟨hS1, hS2⟩; go_simp; try with_reducible rfl); simp only [Act.put, List.setIfInBounds_toArray, List.set_cons_zero, List.set_cons_succ])
          (refine planG_take (v := ?_) (by rfl) ?_ ?_; rotate_left; (rintro wS ⟨hS1, hS2⟩; go_simp; try with_reducible rfl); simp only [Act.put, List.setIfInBounds_toArray, List.set_cons_zero, List.set_cons_succ])
          (refine planG_take (v := ?_) (by rfl) ?_ ?_; rotate_left; (rintro wS ⟨hS1, hS2⟩; go_simp; try with_reducible rfl); simp only [Act.put, List.setIfInBounds_toArray, List.set_cons_zero, List.set_cons_succ])
          (refine planG_take (v := ?_) (by rfl) ?_ ?_; rotate_left; (rintro wS ⟨hS1, hS2⟩; go_simp; try with_reducible rfl); simp only [Act.put, List.setIfInBounds_toArray, List.set_cons_zero, List.set_cons_succ])
          refine planG_run (by rfl) (fun K hK => ?_)
          go_simp
          refine (HKW.out _ (laid_drew HL1.out)).mono ?_
          rintro e1 w2 ⟨rfl, rfl⟩
          refine hK.out _ _ ⟨HT.out.cell 0, HT.out.cell 1⟩ ?_
          clear hK K
          try simp only [Act.put, List.setIfInBounds_toArray, List.set_cons_zero, List.set_cons_succ]
          (refine planG_take (v := ?_) (by rfl) ?_ ?_; rotate_left; (rintro wS ⟨hS1, hS2⟩; go_simp; try with_reducible rfl); simp only [Act.put, List.setIfInBounds_toArray, List.set_cons_zero, List.set_cons_succ])
          (refine planG_take (v := ?_) (by rfl) ?_ ?_; rotate_left; (rintro wS ⟨hS1, hS2⟩; go_simp; try with_reducible rfl); simp only [Act.put, List.setIfInBounds_toArray, List.set_cons_zero, List.set_cons_succ])
          (refine planG_take (v := ?_) (by rfl) ?_ ?_; rotate_left; (rintro wS ⟨hS1, hS2⟩; go_simp; try with_reducible rfl); simp only [Act.put, List.setIfInBounds_toArray, List.set_cons_zero, List.set_cons_succ])
          (refine planG_take (v := ?_) (by rfl) ?_ ?_; rotate_left; (rintro wS ⟨hS1, hS2⟩; go_simp; try with_reducible rfl); simp only [Act.put, List.setIfInBounds_toArray, List.set_cons_zero, List.set_cons_succ])
          refine planG_run (by rfl) (fun K hK => ?_)
          go_simp
          refine (HNM.out _ HC.out).mono ?_
          rintro e1 w2 ⟨rfl, hb2⟩
          have HZ2 := Lib.hid ((pz_drew HZ1.out).below hb2)
          have HO2 := Lib.hid ((HO.out.drew).new hb2)
          have HT2 := Lib.hid ((blk_drew HT.out).below hb2 (by simp))
          clear hb2
          refine hK.out _ _ ⟨HT2.out.cell 0, HT2.out.cell 1⟩ ?_
          clear hK K
          try simp only [Act.put, List.setIfInBounds_toArray, List.set_cons_zero, List.set_cons_succ]
          (refine planG_take (v := ?_) (by rfl) ?_ ?_; rotate_left; (rintro wS ⟨hS1, hS2⟩; go_simp; try with_reducible rfl); simp only [Act.put, List.setIfInBounds_toArray, List.set_cons_zero, List.set_cons_succ])
          refine planG_nil ?_
          go_wp2_with fail
          refine NoPanic.normal ?_
          have t1 := HT2.out.cell 1
          go_wp2_with fail
          go_ret
          exact ⟨rfl, HZ2.out, HO2.out⟩
        · simp only [Bool.false_eq_true, if_false, if_true] at hns hnp
          have hns := hns.symm
          subst hns hnp
          go_enter Tryd.func36, Tryd.ntmps36
          go_wp2_with fail
          refine HN.out.mono ?_
          rintro e1 w1 ⟨rfl, hb1⟩
          have HZ1 := Lib.hid ((HZ.out.below hb1).alloc (.cells #[.int .i64 1, .string xs, .int .i64 xv, .int .i64 xn] 47))
          have HO := Lib.hid (((Only.refl w [q]).new hb1).alloc (.cells #[.int .i64 1, .string xs, .int .i64 xv, .int .i64 xn] 47))
          have HL1 := Lib.hid ((HLW.out.below (w0 := w) hb1).alloc (.cells #[.int .i64 1, .string xs, .int .i64 xv, .int .i64 xn] 47))
          have HT := Lib.hid (Blk.new w1 47 #[.int .i64 1, .string xs, .int .i64 xv, .int .i64 xn])
          have hqn : ¬ q = w1.heap.size := by have := hb1.size; omega
          clear hb1
          go_wp2_with fail
          refine wp_region_planG (fun w' => w'.cell? ⟨w1.heap.size, 0, none⟩ = some (.int .i64 1) ∧ w'.cell? ⟨w1.heap.size, 1, none⟩ = some (.string xs)) 14 [(true, 0), (true, 1), (true, 2), (true, 3), (true, 4), (true, 5), (true, 6), (false, 7), (true, 8), (true, 9), (true, 10), (true, 11), (false, 12), (true, 13)] (by kernel_rfl) (by kernel_rfl) ⟨HT.out.cell 0, HT.out.cell 1⟩ ?_
          simp only [List.map_cons, List.map_nil, List.getD_cons_zero, List.getD_cons_succ, List.drop_succ_cons, List.drop_zero]
          (refine planG_take (v := ?_) (by rfl) ?_ ?_; rotate_left; (rintro wS ⟨hS1, hS2⟩; go_simp; try with_reducible rfl); simp only [Act.put, List.setIfInBounds_toArray, List.set_cons_zero, List.set_cons_succ])
          (refine planG_take (v := ?_) (by rfl) ?_ ?_; rotate_left; (rintro wS ⟨hS1, hS2⟩; go_simp; try with_reducible rfl); simp only [Act.put, List.setIfInBounds_toArray, List.set_cons_zero, List.set_cons_succ])
          (refine planG_take (v := ?_) (by rfl) ?_ ?_; rotate_left; (rintro wS ⟨hS1, hS2⟩; go_simp; try with_reducible rfl); simp only [Act.put, List.setIfInBounds_toArray, List.set_cons_zero, List.set_cons_succ])
          (refine planG_take (v := ?_) (by rfl) ?_ ?_; rotate_left; (rintro wS ⟨hS1, hS2⟩; go_simp; try with_reducible rfl); simp only [Act.put, List.setIfInBounds_toArray, List.set_cons_zero, List.set_cons_succ])
          (refine planG_take (v := ?_) (by rfl) ?_ ?_; rotate_left; (rintro wS ⟨hS1, hS2⟩; go_simp; try with_reducible rfl); simp only [Act.put, List.setIfInBounds_toArray, List.set_cons_zero, List.set_cons_succ])
          (refine planG_take (v := ?_) (by rfl) ?_ ?_; rotate_left; (rintro wS ⟨hS1, hS2⟩; go_simp; try with_reducible rfl); simp only [Act.put, List.setIfInBounds_toArray, List.set_cons_zero, List.set_cons_succ])
          (refine planG_take (v := ?_) (by rfl) ?_ ?_; rotate_left; (rintro wS ⟨hS1, hS2⟩; go_simp; try with_reducible rfl); simp only [Act.put, List.setIfInBounds_toArray, List.set_cons_zero, List.set_cons_succ])
          refine planG_run (by rfl) (fun K hK => ?_)
          go_simp
          refine (HKW.out _ (laid_drew HL1.out)).mono ?_
          rintro e1 w2 ⟨rfl, rfl⟩
          refine hK.out _ _ ⟨HT.out.cell 0, HT.out.cell 1⟩ ?_
          clear hK K
          try simp only [Act.put, List.setIfInBounds_toArray, List.set_cons_zero, List.set_cons_succ]
          (refine planG_take (v := ?_) (by rfl) ?_ ?_; rotate_left; (rintro wS ⟨hS1, hS2⟩; go_simp; try with_reducible rfl); simp only [Act.put, List.setIfInBounds_toArray, List.set_cons_zero, List.set_cons_succ])
          (refine planG_take (v := ?_) (by rfl) ?_ ?_; rotate_left; (rintro wS ⟨hS1, hS2⟩; go_simp; try with_reducible rfl); simp only [Act.put, List.setIfInBounds_toArray, List.set_cons_zero, List.set_cons_succ])
          (refine planG_take (v := ?_) (by rfl) ?_ ?_; rotate_left; (rintro wS ⟨hS1, hS2⟩; go_simp; try with_reducible rfl); simp only [Act.put, List.setIfInBounds_toArray, List.set_cons_zero, List.set_cons_succ])
          (refine planG_take (v := ?_) (by rfl) ?_ ?_; rotate_left; (rintro wS ⟨hS1, hS2⟩; go_simp; try with_reducible rfl); simp only [Act.put, List.setIfInBounds_toArray, List.set_cons_zero, List.set_cons_succ])
          refine planG_run (by rfl) (fun K hK => ?_)
          go_simp
          refine (HNM.out _ HC.out).mono ?_
          rintro e1 w2 ⟨rfl, hb2⟩
          have HZ2 := Lib.hid ((pz_drew HZ1.out).below hb2)
          have HO2 := Lib.hid ((HO.out.drew).new hb2)
          have HT2 := Lib.hid ((blk_drew HT.out).below hb2 (by simp))
          clear hb2
          refine hK.out _ _ ⟨HT2.out.cell 0, HT2.out.cell 1⟩ ?_
          clear hK K
          try simp only [Act.put, List.setIfInBounds_toArray, List.set_cons_zero, List.set_cons_succ]
          (refine planG_take (v := ?_) (by rfl) ?_ ?_; rotate_left; (rintro wS ⟨hS1, hS2⟩; go_simp; try with_reducible rfl); simp only [Act.put, List.setIfInBounds_toArray, List.set_cons_zero, List.set_cons_succ])
          refine planG_nil ?_
          go_wp2_with fail
          refine NoPanic.normal ?_
          have t1 := HT2.out.cell 1
          go_wp2_with fail
          refine (HF.out _ HZ2.out).mono ?_
          rintro e1 w3 ⟨rfl, hp3⟩
          have HP3 := Lib.hid hp3
          clear hp3
          go_wp2_with fail
          go_ret
          exact ⟨rfl, HP3.out.z, HO2.out.trans HP3.out.o⟩
      · simp only [Bool.not_false, Bool.and_true] at hin
        subst hin
        simp only [if_true] at hns hnp
        have hns := hns.symm
        subst hns hnp
        go_enter Tryd.func36, Tryd.ntmps36
        go_wp2_with fail
        refine HN.out.mono ?_
        rintro e1 w1 ⟨rfl, hb1⟩
        have HZ1 := Lib.hid ((HZ.out.below hb1).alloc (.cells #[.int .i64 1, .string xs, .int .i64 xv, .int .i64 xn] 47))
        have HO := Lib.hid (((Only.refl w [q]).new hb1).alloc (.cells #[.int .i64 1, .string xs, .int .i64 xv, .int .i64 xn] 47))
        have HL1 := Lib.hid ((HLW.out.below (w0 := w) hb1).alloc (.cells #[.int .i64 1, .string xs, .int .i64 xv, .int .i64 xn] 47))
        have HT := Lib.hid (Blk.new w1 47 #[.int .i64 1, .string xs, .int .i64 xv, .int .i64 xn])
        have hqn : ¬ q = w1.heap.size := by have := hb1.size; omega
        clear hb1
        go_wp2_with fail
        refine wp_region_planG (fun w' => w'.cell? ⟨w1.heap.size, 0, none⟩ = some (.int .i64 1) ∧ w'.cell? ⟨w1.heap.size, 1, none⟩ = some (.string xs)) 14 [(true, 0), (true, 1), (true, 2), (true, 3), (true, 4), (true, 5), (true, 6), (false, 7), (true, 8), (true, 9), (true, 10), (true, 11), (false, 12), (true, 13)] (by kernel_rfl) (by kernel_rfl) ⟨HT.out.cell 0, HT.out.cell 1⟩ ?_
        simp only [List.map_cons, List.map_nil, List.getD_cons_zero, List.getD_cons_succ, List.drop_succ_cons, List.drop_zero]
        (refine planG_take (v := ?_) (by rfl) ?_ ?_; rotate_left; (rintro wS ⟨hS1, hS2⟩; go_simp; try with_reducible rfl); simp only [Act.put, List.setIfInBounds_toArray, List.set_cons_zero, List.set_cons_succ])
        (refine planG_take (v := ?_) (by rfl) ?_ ?_; rotate_left; (rintro wS ⟨hS1, hS2⟩; go_simp; try with_reducible rfl); simp only [Act.put, List.setIfInBounds_toArray, List.set_cons_zero, List.set_cons_succ])
        (refine planG_take (v := ?_) (by rfl) ?_ ?_; rotate_left; (rintro wS ⟨hS1, hS2⟩; go_simp; try with_reducible rfl); simp only [Act.put, List.setIfInBounds_toArray, List.set_cons_zero, List.set_cons_succ])
        (refine planG_take (v := ?_) (by rfl) ?_ ?_; rotate_left; (rintro wS ⟨hS1, hS2⟩; go_simp; try with_reducible rfl); simp only [Act.put, List.setIfInBounds_toArray, List.set_cons_zero, List.set_cons_succ])
        (refine planG_take (v := ?_) (by rfl) ?_ ?_; rotate_left; (rintro wS ⟨hS1, hS2⟩; go_simp; try with_reducible rfl); simp only [Act.put, List.setIfInBounds_toArray, List.set_cons_zero, List.set_cons_succ])
        (refine planG_take (v := ?_) (by rfl) ?_ ?_; rotate_left; (rintro wS ⟨hS1, hS2⟩; go_simp; try with_reducible rfl); simp only [Act.put, List.setIfInBounds_toArray, List.set_cons_zero, List.set_cons_succ])
        (refine planG_take (v := ?_) (by rfl) ?_ ?_; rotate_left; (rintro wS ⟨hS1, hS2⟩; go_simp; try with_reducible rfl); simp only [Act.put, List.setIfInBounds_toArray, List.set_cons_zero, List.set_cons_succ])
        refine planG_run (by rfl) (fun K hK => ?_)
        go_simp
        refine (HKW.out _ (laid_drew HL1.out)).mono ?_
        rintro e1 w2 ⟨rfl, rfl⟩
        refine hK.out _ _ ⟨HT.out.cell 0, HT.out.cell 1⟩ ?_
        clear hK K
        try simp only [Act.put, List.setIfInBounds_toArray, List.set_cons_zero, List.set_cons_succ]
        (refine planG_take (v := ?_) (by rfl) ?_ ?_; rotate_left; (rintro wS ⟨hS1, hS2⟩; go_simp; try with_reducible rfl); simp only [Act.put, List.setIfInBounds_toArray, List.set_cons_zero, List.set_cons_succ])
        (refine planG_take (v := ?_) (by rfl) ?_ ?_; rotate_left; (rintro wS ⟨hS1, hS2⟩; go_simp; try with_reducible rfl); simp only [Act.put, List.setIfInBounds_toArray, List.set_cons_zero, List.set_cons_succ])
        (refine planG_take (v := ?_) (by rfl) ?_ ?_; rotate_left; (rintro wS ⟨hS1, hS2⟩; go_simp; try with_reducible rfl); simp only [Act.put, List.setIfInBounds_toArray, List.set_cons_zero, List.set_cons_succ])
        (refine planG_take (v := ?_) (by rfl) ?_ ?_; rotate_left; (rintro wS ⟨hS1, hS2⟩; go_simp; try with_reducible rfl); simp only [Act.put, List.setIfInBounds_toArray, List.set_cons_zero, List.set_cons_succ])
        refine planG_run (by rfl) (fun K hK => ?_)
        go_simp
        refine (HNM.out _ HC.out).mono ?_
        rintro e1 w2 ⟨rfl, hb2⟩
        have HZ2 := Lib.hid ((pz_drew HZ1.out).below hb2)
        have HO2 := Lib.hid ((HO.out.drew).new hb2)
        have HT2 := Lib.hid ((blk_drew HT.out).below hb2 (by simp))
        clear hb2
        refine hK.out _ _ ⟨HT2.out.cell 0, HT2.out.cell 1⟩ ?_
        clear hK K
        try simp only [Act.put, List.setIfInBounds_toArray, List.set_cons_zero, List.set_cons_succ]
        (refine planG_take (v := ?_) (by rfl) ?_ ?_; rotate_left; (rintro wS ⟨hS1, hS2⟩; go_simp; try with_reducible rfl); simp only [Act.put, List.setIfInBounds_toArray, List.set_cons_zero, List.set_cons_succ])
        refine planG_nil ?_
        go_wp2_with fail
        refine NoPanic.normal ?_
        have t1 := HT2.out.cell 1
        go_wp2_with fail
        refine (HX.out _ HZ2.out).mono ?_
        rintro e1 w3 ⟨rfl, hp3⟩
        have HP3 := Lib.hid hp3
        have t3 := (hp3.o.cell (p := ⟨w1.heap.size, 1, none⟩) (by have := HT2.out.lt; exact this) (by simp; omega)).trans t1
        clear hp3
        go_wp2_with fail
        go_ret
        exact ⟨rfl, HP3.out.z, HO2.out.trans HP3.out.o⟩
    · simp only [Bool.not_true, Bool.and_false] at hin
      subst hin
      cases m
      · simp only [Bool.false_eq_true, if_false] at hns hnp
        have hns := hns.symm
        subst hns hnp
        go_enter Tryd.func36, Tryd.ntmps36
        go_wp2_with fail
        refine HN.out.mono ?_
        rintro e1 w1 ⟨rfl, hb1⟩
        have HZ1 := Lib.hid ((HZ.out.below hb1).alloc (.cells #[.int .i64 1, .string xs, .int .i64 xv, .int .i64 xn] 47))
        have HO := Lib.hid (((Only.refl w [q]).new hb1).alloc (.cells #[.int .i64 1, .string xs, .int .i64 xv, .int .i64 xn] 47))
        have HL1 := Lib.hid ((HLW.out.below (w0 := w) hb1).alloc (.cells #[.int .i64 1, .string xs, .int .i64 xv, .int .i64 xn] 47))
        have HT := Lib.hid (Blk.new w1 47 #[.int .i64 1, .string xs, .int .i64 xv, .int .i64 xn])
        have hqn : ¬ q = w1.heap.size := by have := hb1.size; omega
        clear hb1
        go_wp2_with fail
        refine wp_region_planG (fun w' => w'.cell? ⟨w1.heap.size, 0, none⟩ = some (.int .i64 1) ∧ w'.cell? ⟨w1.heap.size, 1, none⟩ = some (.string xs)) 14 [(true, 0), (true, 1), (true, 2), (true, 3), (true, 4), (true, 5), (true, 6), (false, 7), (true, 8), (true, 9), (true, 10), (true, 11), (true, 12), (true, 13)] (by kernel_rfl) (by kernel_rfl) ⟨HT.out.cell 0, HT.out.cell 1⟩ ?_
        simp only [List.map_cons, List.map_nil, List.getD_cons_zero, List.getD_cons_succ, List.drop_succ_cons, List.drop_zero]
        (refine planG_take (v := ?_) (by rfl) ?_ ?_; rotate_left; (rintro wS ⟨hS1, hS2⟩; go_simp; try with_reducible rfl); simp only [Act.put, List.setIfInBounds_toArray, List.set_cons_zero, List.set_cons_succ])
        (refine planG_take (v := ?_) (by rfl) ?_ ?_; rotate_left; (rintro wS ⟨hS1, hS2⟩; go_simp; try with_reducible rfl); simp only [Act.put, List.setIfInBounds_toArray, List.set_cons_zero, List.set_cons_succ])
        (refine planG_take (v := ?_) (by rfl) ?_ ?_; rotate_left; (rintro wS ⟨hS1, hS2⟩; go_simp; try with_reducible rfl); simp only [Act.put, List.setIfInBounds_toArray, List.set_cons_zero, List.set_cons_succ])
        (refine planG_take (v := ?_) (by rfl) ?_ ?_; rotate_left; (rintro wS ⟨hS1, hS2⟩; go_simp; try with_reducible rfl); simp only [Act.put, List.setIfInBounds_toArray, List.set_cons_zero, List.set_cons_succ])
        (refine planG_take (v := ?_) (by rfl) ?_ ?_; rotate_left; (rintro wS ⟨hS1, hS2⟩; go_simp; try with_reducible rfl); simp only [Act.put, List.setIfInBounds_toArray, List.set_cons_zero, List.set_cons_succ])
        (refine planG_take (v := ?_) (by rfl) ?_ ?_; rotate_left; (rintro wS ⟨hS1, hS2⟩; go_simp; try with_reducible rfl); simp only [Act.put, List.setIfInBounds_toArray, List.set_cons_zero, List.set_cons_succ])
        (refine planG_take (v := ?_) (by rfl) ?_ ?_; rotate_left; (rintro wS ⟨hS1, hS2⟩; go_simp; try with_reducible rfl); simp only [Act.put, List.setIfInBounds_toArray, List.set_cons_zero, List.set_cons_succ])
        refine planG_run (by rfl) (fun K hK => ?_)
        go_simp
        refine (HKW.out _ (laid_drew HL1.out)).mono ?_
        rintro e1 w2 ⟨rfl, rfl⟩
        refine hK.out _ _ ⟨HT.out.cell 0, HT.out.cell 1⟩ ?_
        clear hK K
        try simp only [Act.put, List.setIfInBounds_toArray, List.set_cons_zero, List.set_cons_succ]
        (refine planG_take (v := ?_) (by rfl) ?_ ?_; rotate_left; (rintro wS ⟨hS1, hS2⟩; go_simp; try with_reducible rfl); simp only [Act.put, List.setIfInBounds_toArray, List.set_cons_zero, List.set_cons_succ])
        (refine planG_take (v := ?_) (by rfl) ?_ ?_; rotate_left; (rintro wS ⟨hS1, hS2⟩; go_simp; try with_reducible rfl); simp only [Act.put, List.setIfInBounds_toArray, List.set_cons_zero, List.set_cons_succ])
        (refine planG_skip (by rfl) ?_; simp only [Act.put, List.setIfInBounds_toArray, List.set_cons_zero, List.set_cons_succ])
        (refine planG_skip (by rfl) ?_; simp only [Act.put, List.setIfInBounds_toArray, List.set_cons_zero, List.set_cons_succ])
        (refine planG_skip (by rfl) ?_; simp only [Act.put, List.setIfInBounds_toArray, List.set_cons_zero, List.set_cons_succ])
        (refine planG_skip (by rfl) ?_; simp only [Act.put, List.setIfInBounds_toArray, List.set_cons_zero, List.set_cons_succ])
        refine planG_nil ?_
        go_wp2_with fail
        refine NoPanic.normal ?_
        have HZ2 := Lib.hid (pz_drew HZ1.out)
        have HO2 := Lib.hid HO.out.drew
        have HT2 := Lib.hid (blk_drew HT.out)
        have t1 := HT2.out.cell 1
        go_wp2_with fail
        go_ret
        exact ⟨rfl, HZ2.out, HO2.out⟩
      · simp only [Bool.false_eq_true, if_false, if_true] at hns hnp
        have hns := hns.symm
        subst hns hnp
        go_enter Tryd.func36, Tryd.ntmps36
        go_wp2_with fail
        refine HN.out.mono ?_
        rintro e1 w1 ⟨rfl, hb1⟩
        have HZ1 := Lib.hid ((HZ.out.below hb1).alloc (.cells #[.int .i64 1, .string xs, .int .i64 xv, .int .i64 xn] 47))
        have HO := Lib.hid (((Only.refl w [q]).new hb1).alloc (.cells #[.int .i64 1, .string xs, .int .i64 xv, .int .i64 xn] 47))
        have HL1 := Lib.hid ((HLW.out.below (w0 := w) hb1).alloc (.cells #[.int .i64 1, .string xs, .int .i64 xv, .int .i64 xn] 47))
        have HT := Lib.hid (Blk.new w1 47 #[.int .i64 1, .string xs, .int .i64 xv, .int .i64 xn])
        have hqn : ¬ q = w1.heap.size := by have := hb1.size; omega
        clear hb1
        go_wp2_with fail
        refine wp_region_planG (fun w' => w'.cell? ⟨w1.heap.size, 0, none⟩ = some (.int .i64 1) ∧ w'.cell? ⟨w1.heap.size, 1, none⟩ = some (.string xs)) 14 [(true, 0), (true, 1), (true, 2), (true, 3), (true, 4), (true, 5), (true, 6), (false, 7), (true, 8), (true, 9), (true, 10), (true, 11), (true, 12), (true, 13)] (by kernel_rfl) (by kernel_rfl) ⟨HT.out.cell 0, HT.out.cell 1⟩ ?_
        simp only [List.map_cons, List.map_nil, List.getD_cons_zero, List.getD_cons_succ, List.drop_succ_cons, List.drop_zero]
        (refine planG_take (v := ?_) (by rfl) ?_ ?_; rotate_left; (rintro wS ⟨hS1, hS2⟩; go_simp; try with_reducible rfl); simp only [Act.put, List.setIfInBounds_toArray, List.set_cons_zero, List.set_cons_succ])
        (refine planG_take (v := ?_) (by rfl) ?_ ?_; rotate_left; (rintro wS ⟨hS1, hS2⟩; go_simp; try with_reducible rfl); simp only [Act.put, List.setIfInBounds_toArray, List.set_cons_zero, List.set_cons_succ])
        (refine planG_take (v := ?_) (by rfl) ?_ ?_; rotate_left; (rintro wS ⟨hS1, hS2⟩; go_simp; try with_reducible rfl); simp only [Act.put, List.setIfInBounds_toArray, List.set_cons_zero, List.set_cons_succ])
        (refine planG_take (v := ?_) (by rfl) ?_ ?_; rotate_left; (rintro wS ⟨hS1, hS2⟩; go_simp; try with_reducible rfl); simp only [Act.put, List.setIfInBounds_toArray, List.set_cons_zero, List.set_cons_succ])
        (refine planG_take (v := ?_) (by rfl) ?_ ?_; rotate_left; (rintro wS ⟨hS1, hS2⟩; go_simp; try with_reducible rfl); simp only [Act.put, List.setIfInBounds_toArray, List.set_cons_zero, List.set_cons_succ])
        (refine planG_take (v := ?_) (by rfl) ?_ ?_; rotate_left; (rintro wS ⟨hS1, hS2⟩; go_simp; try with_reducible rfl); simp only [Act.put, List.setIfInBounds_toArray, List.set_cons_zero, List.set_cons_succ])
        (refine planG_take (v := ?_) (by rfl) ?_ ?_; rotate_left; (rintro wS ⟨hS1, hS2⟩; go_simp; try with_reducible rfl); simp only [Act.put, List.setIfInBounds_toArray, List.set_cons_zero, List.set_cons_succ])
        refine planG_run (by rfl) (fun K hK => ?_)
        go_simp
        refine (HKW.out _ (laid_drew HL1.out)).mono ?_
        rintro e1 w2 ⟨rfl, rfl⟩
        refine hK.out _ _ ⟨HT.out.cell 0, HT.out.cell 1⟩ ?_
        clear hK K
        try simp only [Act.put, List.setIfInBounds_toArray, List.set_cons_zero, List.set_cons_succ]
        (refine planG_take (v := ?_) (by rfl) ?_ ?_; rotate_left; (rintro wS ⟨hS1, hS2⟩; go_simp; try with_reducible rfl); simp only [Act.put, List.setIfInBounds_toArray, List.set_cons_zero, List.set_cons_succ])
        (refine planG_take (v := ?_) (by rfl) ?_ ?_; rotate_left; (rintro wS ⟨hS1, hS2⟩; go_simp; try with_reducible rfl); simp only [Act.put, List.setIfInBounds_toArray, List.set_cons_zero, List.set_cons_succ])
        (refine planG_skip (by rfl) ?_; simp only [Act.put, List.setIfInBounds_toArray, List.set_cons_zero, List.set_cons_succ])
        (refine planG_skip (by rfl) ?_; simp only [Act.put, List.setIfInBounds_toArray, List.set_cons_zero, List.set_cons_succ])
        (refine planG_skip (by rfl) ?_; simp only [Act.put, List.setIfInBounds_toArray, List.set_cons_zero, List.set_cons_succ])
        (refine planG_skip (by rfl) ?_; simp only [Act.put, List.setIfInBounds_toArray, List.set_cons_zero, List.set_cons_succ])
        refine planG_nil ?_
        go_wp2_with fail
        refine NoPanic.normal ?_
        have HZ2 := Lib.hid (pz_drew HZ1.out)
        have HO2 := Lib.hid HO.out.drew
        have HT2 := Lib.hid (blk_drew HT.out)
        have t1 := HT2.out.cell 1
        go_wp2_with fail
        refine (HF.out _ HZ2.out).mono ?_
        rintro e1 w3 ⟨rfl, hp3⟩
        have HP3 := Lib.hid hp3
        clear hp3
        go_wp2_with fail
        go_ret
        exact ⟨rfl, HP3.out.z, HO2.out.trans HP3.out.o⟩
  · have hx2 : (xk != 1) = true := by simpa using h1
    rw [decide_eq_false h1, Bool.false_and] at hin
    subst hin
    clear h1
    cases m
    · simp only [Bool.false_eq_true, if_false] at hns hnp
      have hns := hns.symm
      subst hns hnp
      go_enter Tryd.func36, Tryd.ntmps36
      go_wp2_with fail
      refine HN.out.mono ?_
      rintro e1 w1 ⟨rfl, hb1⟩
      have HZ1 := Lib.hid ((HZ.out.below hb1).alloc (.cells #[.int .i64 xk, .string xs, .int .i64 xv, .int .i64 xn] 47))
      have HO := Lib.hid (((Only.refl w [q]).new hb1).alloc (.cells #[.int .i64 xk, .string xs, .int .i64 xv, .int .i64 xn] 47))
      have HL1 := Lib.hid ((HLW.out.below (w0 := w) hb1).alloc (.cells #[.int .i64 xk, .string xs, .int .i64 xv, .int .i64 xn] 47))
      have HT := Lib.hid (Blk.new w1 47 #[.int .i64 xk, .string xs, .int .i64 xv, .int .i64 xn])
      have hqn : ¬ q = w1.heap.size := by have := hb1.size; omega
      clear hb1
      go_wp2_with fail
      refine wp_region_planG (fun w' => w'.cell? ⟨w1.heap.size, 0, none⟩ = some (.int .i64 xk) ∧ w'.cell? ⟨w1.heap.size, 1, none⟩ = some (.string xs)) 14 [(true, 0), (true, 1), (true, 2), (true, 3), (true, 4), (true, 5), (true, 6), (true, 7), (true, 8), (true, 9), (true, 10), (true, 11), (true, 12), (true, 13)] (by kernel_rfl) (by kernel_rfl) ⟨HT.out.cell 0, HT.out.cell 1⟩ ?_
      simp only [List.map_cons, List.map_nil, List.getD_cons_zero, List.getD_cons_succ, List.drop_succ_cons, List.drop_zero]
      (refine planG_take (v := ?_) (by rfl) ?_ ?_; rotate_left; (rintro wS ⟨hS1, hS2⟩; go_simp; try with_reducible rfl); simp only [Act.put, List.setIfInBounds_toArray, List.set_cons_zero, List.set_cons_succ])
      (refine planG_take (v := ?_) (by rfl) ?_ ?_; rotate_left; (rintro wS ⟨hS1, hS2⟩; go_simp; try with_reducible rfl); simp only [Act.put, List.setIfInBounds_toArray, List.set_cons_zero, List.set_cons_succ])
      (refine planG_take (v := ?_) (by rfl) ?_ ?_; rotate_left; (rintro wS ⟨hS1, hS2⟩; go_simp; try with_reducible rfl); simp only [Act.put, List.setIfInBounds_toArray, List.set_cons_zero, List.set_cons_succ])
      (refine planG_take (v := ?_) (by rfl) ?_ ?_; rotate_left; (rintro wS ⟨hS1, hS2⟩; go_simp; try with_reducible rfl); simp only [Act.put, List.setIfInBounds_toArray, List.set_cons_zero, List.set_cons_succ])
      (refine planG_skip (by rfl) ?_; simp only [Act.put, List.setIfInBounds_toArray, List.set_cons_zero, List.set_cons_succ])
      (refine planG_skip (by rfl) ?_; simp only [Act.put, List.setIfInBounds_toArray, List.set_cons_zero, List.set_cons_succ])
      (refine planG_skip (by rfl) ?_; simp only [Act.put, List.setIfInBounds_toArray, List.set_cons_zero, List.set_cons_succ])
      (refine planG_skip (by rfl) ?_; simp only [Act.put, List.setIfInBounds_toArray, List.set_cons_zero, List.set_cons_succ])
      (refine planG_take (v := ?_) (by rfl) ?_ ?_; rotate_left; (rintro wS ⟨hS1, hS2⟩; go_simp; try with_reducible rfl); simp only [Act.put, List.setIfInBounds_toArray, List.set_cons_zero, List.set_cons_succ])
      (refine planG_take (v := ?_) (by rfl) ?_ ?_; rotate_left; (rintro wS ⟨hS1, hS2⟩; go_simp; try with_reducible rfl); simp only [Act.put, List.setIfInBounds_toArray, List.set_cons_zero, List.set_cons_succ])
      (refine planG_skip (by rfl) ?_; simp only [Act.put, List.setIfInBounds_toArray, List.set_cons_zero, List.set_cons_succ])
      (refine planG_skip (by rfl) ?_; simp only [Act.put, List.setIfInBounds_toArray, List.set_cons_zero, List.set_cons_succ])
      (refine planG_skip (by rfl) ?_; simp only [Act.put, List.setIfInBounds_toArray, List.set_cons_zero, List.set_cons_succ])
      (refine planG_skip (by rfl) ?_; simp only [Act.put, List.setIfInBounds_toArray, List.set_cons_zero, List.set_cons_succ])
      refine planG_nil ?_
      go_wp2_with fail
      refine NoPanic.normal ?_
      have HZ2 := Lib.hid (pz_drew HZ1.out)
      have HO2 := Lib.hid HO.out.drew
      have HT2 := Lib.hid (blk_drew HT.out)
      have t1 := HT2.out.cell 1
      go_wp2_with fail
      go_ret
      exact ⟨rfl, HZ2.out, HO2.out⟩
    · simp only [Bool.false_eq_true, if_false, if_true] at hns hnp
      have hns := hns.symm
      subst hns hnp
      go_enter Tryd.func36, Tryd.ntmps36
      go_wp2_with fail
      refine HN.out.mono ?_
      rintro e1 w1 ⟨rfl, hb1⟩
      have HZ1 := Lib.hid ((HZ.out.below hb1).alloc (.cells #[.int .i64 xk, .string xs, .int .i64 xv, .int .i64 xn] 47))
      have HO := Lib.hid (((Only.refl w [q]).new hb1).alloc (.cells #[.int .i64 xk, .string xs, .int .i64 xv, .int .i64 xn] 47))
      have HL1 := Lib.hid ((HLW.out.below (w0 := w) hb1).alloc (.cells #[.int .i64 xk, .string xs, .int .i64 xv, .int .i64 xn] 47))
      have HT := Lib.hid (Blk.new w1 47 #[.int .i64 xk, .string xs, .int .i64 xv, .int .i64 xn])
      have hqn : ¬ q = w1.heap.size := by have := hb1.size; omega
      clear hb1
      go_wp2_with fail
      refine wp_region_planG (fun w' => w'.cell? ⟨w1.heap.size, 0, none⟩ = some (.int .i64 xk) ∧ w'.cell? ⟨w1.heap.size, 1, none⟩ = some (.string xs)) 14 [(true, 0), (true, 1), (true, 2), (true, 3), (true, 4), (true, 5), (true, 6), (true, 7), (true, 8), (true, 9), (true, 10), (true, 11), (true, 12), (true, 13)] (by kernel_rfl) (by kernel_rfl) ⟨HT.out.cell 0, HT.out.cell 1⟩ ?_
      simp only [List.map_cons, List.map_nil, List.getD_cons_zero, List.getD_cons_succ, List.drop_succ_cons, List.drop_zero]
      (refine planG_take (v := ?_) (by rfl) ?_ ?_; rotate_left; (rintro wS ⟨hS1, hS2⟩; go_simp; try with_reducible rfl); simp only [Act.put, List.setIfInBounds_toArray, List.set_cons_zero, List.set_cons_succ])
      (refine planG_take (v := ?_) (by rfl) ?_ ?_; rotate_left; (rintro wS ⟨hS1, hS2⟩; go_simp; try with_reducible rfl); simp only [Act.put, List.setIfInBounds_toArray, List.set_cons_zero, List.set_cons_succ])
      (refine planG_take (v := ?_) (by rfl) ?_ ?_; rotate_left; (rintro wS ⟨hS1, hS2⟩; go_simp; try with_reducible rfl); simp only [Act.put, List.setIfInBounds_toArray, List.set_cons_zero, List.set_cons_succ])
      (refine planG_take (v := ?_) (by rfl) ?_ ?_; rotate_left; (rintro wS ⟨hS1, hS2⟩; go_simp; try with_reducible rfl); simp only [Act.put, List.setIfInBounds_toArray, List.set_cons_zero, List.set_cons_succ])
      (refine planG_skip (by rfl) ?_; simp only [Act.put, List.setIfInBounds_toArray, List.set_cons_zero, List.set_cons_succ])
      (refine planG_skip (by rfl) ?_; simp only [Act.put, List.setIfInBounds_toArray, List.set_cons_zero, List.set_cons_succ])
      (refine planG_skip (by rfl) ?_; simp only [Act.put, List.setIfInBounds_toArray, List.set_cons_zero, List.set_cons_succ])
      (refine planG_skip (by rfl) ?_; simp only [Act.put, List.setIfInBounds_toArray, List.set_cons_zero, List.set_cons_succ])
      (refine planG_take (v := ?_) (by rfl) ?_ ?_; rotate_left; (rintro wS ⟨hS1, hS2⟩; go_simp; try with_reducible rfl); simp only [Act.put, List.setIfInBounds_toArray, List.set_cons_zero, List.set_cons_succ])
      (refine planG_take (v := ?_) (by rfl) ?_ ?_; rotate_left; (rintro wS ⟨hS1, hS2⟩; go_simp; try with_reducible rfl); simp only [Act.put, List.setIfInBounds_toArray, List.set_cons_zero, List.set_cons_succ])
      (refine planG_skip (by rfl) ?_; simp only [Act.put, List.setIfInBounds_toArray, List.set_cons_zero, List.set_cons_succ])
      (refine planG_skip (by rfl) ?_; simp only [Act.put, List.setIfInBounds_toArray, List.set_cons_zero, List.set_cons_succ])
      (refine planG_skip (by rfl) ?_; simp only [Act.put, List.setIfInBounds_toArray, List.set_cons_zero, List.set_cons_succ])
      (refine planG_skip (by rfl) ?_; simp only [Act.put, List.setIfInBounds_toArray, List.set_cons_zero, List.set_cons_succ])
      refine planG_nil ?_
      go_wp2_with fail
      refine NoPanic.normal ?_
      have HZ2 := Lib.hid (pz_drew HZ1.out)
      have HO2 := Lib.hid HO.out.drew
      have HT2 := Lib.hid (blk_drew HT.out)
      have t1 := HT2.out.cell 1
      go_wp2_with fail
      refine (HF.out _ HZ2.out).mono ?_
      rintro e1 w3 ⟨rfl, hp3⟩
      have HP3 := Lib.hid hp3
      clear hp3
      go_wp2_with fail
      go_ret
      exact ⟨rfl, HP3.out.z, HO2.out.trans HP3.out.o⟩

end Go.Proofs.YtahhbgfibelfaaaDoor
