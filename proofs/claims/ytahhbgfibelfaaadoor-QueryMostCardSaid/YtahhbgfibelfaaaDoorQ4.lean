import Derived.Test.YtahhbgfibelfaaaDoorQ3
namespace Go.Proofs.YtahhbgfibelfaaaDoor
open Go.RowKit Go.Lib
set_option linter.unusedVariables false

attribute [local go_sem] wfld0 wfld1 wfld2 wfld3
theorem Pz.below {w w' : World} {q g o c : Nat} {ws : List Wd} {p : Ps} (h : Pz w q g o c ws p) (hb : Below w.heap.size w w') : Pz w' q g o c ws p := h.only (Only.of_below hb []) (by simp) (by simp)
theorem Pz.alloc {w : World} {q g o c : Nat} {ws : List Wd} {p : Ps} (h : Pz w q g o c ws p) (ob : Obj) : Pz (w.alloc ob) q g o c ws p := h.below ((Below.refl _ _).alloc (Nat.le_refl _) _)
theorem Only.new {w w1 w2 : World} {S : List Nat} (h : Only w w1 S) (hb : Below w1.heap.size w1 w2) : Only w w2 S := h.trans (Only.of_below hb S)
theorem Pz.blk {w : World} {q g o c : Nat} {ws : List Wd} {p : Ps} (h : Pz w q g o c ws p) : ∃ a, Suf ws p a ∧ Blk w q 38 (pzC g o c ws.length a p.b) := h.at_
/-- Another word at which the box stands. -/
theorem Pz.to {w w' : World} {q g o c a : Nat} {ws : List Wd} {p p' : Ps} (h : Pz w q g o c ws p) (ho : Only w w' [q]) (hs : Suf ws p' a) (hb : Blk w' q 38 (pzC g o c ws.length a p'.b)) : Pt w q g o c ws p' w' :=
  ⟨⟨⟨a, hs, hb⟩, h.lies.only ho h.gl (by simp [h.ne]), Nat.lt_of_lt_of_le h.gl ho.size, Nat.lt_of_lt_of_le h.ql ho.size, h.ne⟩, ho⟩
theorem wdz : (Tryd.prog.info? 47).map (fun i => (i.zero, i.size, i.bytes)) = some (some (.agg #[.int .i64 0, .string ⟨#[]⟩, .int .i64 0, .int .i64 0]), 4, 40) := by kernel_rfl
set_option maxHeartbeats 1000000 in
set_option maxRecDepth 100000 in
theorem next_ok (w : World) (q g o c : Nat) (ws : List Wd) (p : Ps) (hw : Wok ws c) (h : Pz w q g o c ws p) :
    Calls Tryd.prog 20 #[qP q] w fun e w' => e = .returned p.now.val4 ∧ Pt w q g o c ws p.nx w' := by
  have HN := Lib.hid (fun ob => now_ok (w.alloc ob) q g o c ws p hw (h.alloc ob))
  have HZ := Lib.hid h
  obtain ⟨a, hs, hb⟩ := h.at_
  have ha := hs.a
  have hlen := hw.len
  have hcap := hw.cap
  have hcm := hw.cm
  have HB := Lib.hid hb
  have hql := h.ql
  have hS := hs.nx
  have hx : (p.nx).b = p.b := rfl
  have hS2 : Hid (Suf ws p.nx (nxA ws.length a) ∧ (p.nx).b = p.b) := ⟨hS, hx⟩
  generalize p.nx = p' at *
  generalize p.now = x at *
  generalize p.b = b at *
  obtain ⟨xk, xs, xv, xn⟩ := x
  clear h hb hs hS hx
  unfold Wd.val4 qP at *
  by_cases h1 : a + 1 < ws.length
  · have hnx : nxA ws.length a = a + 1 := if_pos h1
    rw [hnx] at hS2
    have hm : (1 : Int) < ((ws.length - a : Nat) : Int) := by omega
    have hm2 : ¬ ((ws.length - a : Nat) : Int) < 1 := by omega
    have hcc : 1 < c - a := by omega
    go_enter Tryd.func20, Tryd.ntmps20
    go_wp2_with fail
    refine (HN.out _).mono ?_
    rintro e w1 ⟨rfl, hb1⟩
    have HX := Lib.hid hb1
    have HB1 := Lib.hid ((HB.out.alloc (.cells #[.int .i64 0, .string ⟨#[]⟩, .int .i64 0, .int .i64 0] 47)).below hb1 (by simp; omega))
    have HB2 := Lib.hid ((Blk.new w 47 #[.int .i64 0, .string ⟨#[]⟩, .int .i64 0, .int .i64 0]).below hb1 (by simp))
    have s0 := HB1.out.cell 0
    have r0 := HB1.out.frozen 0
    have c0 := HB2.out.cell 0
    have c1 := HB2.out.cell 1
    have c2 := HB2.out.cell 2
    have c3 := HB2.out.cell 3
    have f0 := HB2.out.frozen 0
    have f1 := HB2.out.frozen 1
    have f2 := HB2.out.frozen 2
    have f3 := HB2.out.frozen 3
    have hq1 : q < w1.heap.size := Nat.lt_of_lt_of_le (by simp; omega) hb1.size
    have ht1 : w.heap.size < w1.heap.size := Nat.lt_of_lt_of_le (by simp) hb1.size
    have hqt : ¬ q = w.heap.size := by omega
    have hqn : ¬ q = w1.heap.size := by omega
    have htn : ¬ w.heap.size = w1.heap.size := by omega
    have HO := Lib.hid (((Only.refl w [q]).alloc (.cells #[.int .i64 0, .string ⟨#[]⟩, .int .i64 0, .int .i64 0] 47)).new hb1)
    simp only [pzC, List.getElem?_toArray, List.getElem?_cons_zero] at s0
    clear hb1
    go_wp2_with fail
    refine bodyPost_ret (by rw [results_cell1 (fn := Tryd.f20) rfl]; go_simp; rfl) rfl ?_
    refine ⟨rfl, HZ.out.to (a := a + 1) ?_ hS2.out.1 ?_⟩
    · exact ((((((HO.out.setCell (p := ⟨q, 0, none⟩) (by simp) _).setNew (p := ⟨w.heap.size, 0, none⟩) (Nat.le_refl _) _).setNew (p := ⟨w.heap.size, 1, none⟩) (Nat.le_refl _) _).setNew (p := ⟨w.heap.size, 2, none⟩) (Nat.le_refl _) _).setNew (p := ⟨w.heap.size, 3, none⟩) (Nat.le_refl _) _).alloc _)
    · rw [hS2.out.2]
      have hh := ((((((HB1.out.set_ 0 (.slice (some ⟨g, o + a * 4 + 4, none⟩) (ws.length - a - 1) (c - a - 1))).far (p := ⟨w.heap.size, 0, none⟩) hqt (.int .i64 xk)).far (p := ⟨w.heap.size, 1, none⟩) hqt (.string xs)).far (p := ⟨w.heap.size, 2, none⟩) hqt (.int .i64 xv)).far (p := ⟨w.heap.size, 3, none⟩) hqt (.int .i64 xn)).alloc (.cells #[.int .i64 xk, .string xs, .int .i64 xv, .int .i64 xn] 47))
      have e : (pzC g o c ws.length a b).setIfInBounds 0 (.slice (some ⟨g, o + a * 4 + 4, none⟩) (ws.length - a - 1) (c - a - 1)) = pzC g o c ws.length (a + 1) b := by
        unfold pzC
        rw [show o + (a + 1) * 4 = o + a * 4 + 4 by omega, show ws.length - (a + 1) = ws.length - a - 1 by omega, show c - (a + 1) = c - a - 1 by omega]
        rfl
      rw [e] at hh
      exact hh
  · have hnx : nxA ws.length a = a := if_neg h1
    rw [hnx] at hS2
    have hm : ¬ (1 : Int) < ((ws.length - a : Nat) : Int) := by omega
    go_enter Tryd.func20, Tryd.ntmps20
    go_wp2_with fail
    refine (HN.out _).mono ?_
    rintro e w1 ⟨rfl, hb1⟩
    have HX := Lib.hid hb1
    have HB1 := Lib.hid ((HB.out.alloc (.cells #[.int .i64 0, .string ⟨#[]⟩, .int .i64 0, .int .i64 0] 47)).below hb1 (by simp; omega))
    have HB2 := Lib.hid ((Blk.new w 47 #[.int .i64 0, .string ⟨#[]⟩, .int .i64 0, .int .i64 0]).below hb1 (by simp))
    have s0 := HB1.out.cell 0
    have c0 := HB2.out.cell 0
    have c1 := HB2.out.cell 1
    have c2 := HB2.out.cell 2
    have c3 := HB2.out.cell 3
    have f0 := HB2.out.frozen 0
    have f1 := HB2.out.frozen 1
    have f2 := HB2.out.frozen 2
    have f3 := HB2.out.frozen 3
    have hq1 : q < w1.heap.size := Nat.lt_of_lt_of_le (by simp; omega) hb1.size
    have ht1 : w.heap.size < w1.heap.size := Nat.lt_of_lt_of_le (by simp) hb1.size
    have hqt : ¬ q = w.heap.size := by omega
    have hqn : ¬ q = w1.heap.size := by omega
    have htn : ¬ w.heap.size = w1.heap.size := by omega
    have HO := Lib.hid (((Only.refl w [q]).alloc (.cells #[.int .i64 0, .string ⟨#[]⟩, .int .i64 0, .int .i64 0] 47)).new hb1)
    simp only [pzC, List.getElem?_toArray, List.getElem?_cons_zero] at s0
    clear hb1
    go_wp2_with fail
    refine bodyPost_ret (by rw [results_cell1 (fn := Tryd.f20) rfl]; go_simp; rfl) rfl ?_
    refine ⟨rfl, HZ.out.to (a := a) ?_ hS2.out.1 ?_⟩
    · exact (((((HO.out.setNew (p := ⟨w.heap.size, 0, none⟩) (Nat.le_refl _) _).setNew (p := ⟨w.heap.size, 1, none⟩) (Nat.le_refl _) _).setNew (p := ⟨w.heap.size, 2, none⟩) (Nat.le_refl _) _).setNew (p := ⟨w.heap.size, 3, none⟩) (Nat.le_refl _) _).alloc _)
    · rw [hS2.out.2]
      exact (((((HB1.out.far (p := ⟨w.heap.size, 0, none⟩) hqt (.int .i64 xk)).far (p := ⟨w.heap.size, 1, none⟩) hqt (.string xs)).far (p := ⟨w.heap.size, 2, none⟩) hqt (.int .i64 xv)).far (p := ⟨w.heap.size, 3, none⟩) hqt (.int .i64 xn)).alloc (.cells #[.int .i64 xk, .string xs, .int .i64 xv, .int .i64 xn] 47))
theorem fl_b {p : Ps} {n : Int} (h : p.b < 0) : (p.fl n).b = n := by unfold Ps.fl; rw [if_pos h]
theorem fl_no {p : Ps} {n : Int} (h : ¬ p.b < 0) : p.fl n = p := by unfold Ps.fl; rw [if_neg h]
set_option maxHeartbeats 1000000 in
set_option maxRecDepth 100000 in
theorem fail_ok (w : World) (q g o c : Nat) (ws : List Wd) (p : Ps) (hw : Wok ws c) (h : Pz w q g o c ws p) :
    Calls Tryd.prog 19 #[qP q] w fun e w' => e = .returned (.tuple #[]) ∧ Pt w q g o c ws (p.fl p.now.n) w' := by
  have HN := Lib.hid (now_ok w q g o c ws p hw h)
  have HZ := Lib.hid h
  obtain ⟨a, hs, hb⟩ := h.at_
  have HB := Lib.hid hb
  have hql := h.ql
  have hok := hw.ok _ hs.now_mem
  have hn0 := hok.n0
  have hS : Hid (Suf ws (p.fl p.now.n) a) := hs.fl hok.n0 hok.n1
  have c1 := hb.cell 1
  have f1 := hb.frozen 1
  have c2 := hb.cell 2
  have f2 := hb.frozen 2
  simp only [pzC, List.getElem?_toArray, List.getElem?_cons_zero, List.getElem?_cons_succ] at c1 c2
  clear h hb hs hok
  by_cases hp : p.b < 0
  · have hd : decide (0 ≤ p.b) = false := by simp; omega
    have hfb : Hid ((p.fl p.now.n).b = p.now.n) := fl_b hp
    rw [hd] at c1
    rw [if_pos hp] at c2
    have e : Hid (((pzC g o c ws.length a p.b).setIfInBounds 1 (.bool true)).setIfInBounds 2 (.int .i64 p.now.n) = pzC g o c ws.length a p.now.n) := by
      show _ = _
      unfold pzC
      rw [show decide (0 ≤ p.now.n) = true by simpa using hn0, show (if p.now.n < 0 then (0 : Int) else p.now.n) = p.now.n from if_neg (by omega)]
      rfl
    generalize p.fl p.now.n = p' at *
    generalize p.now = x at *
    generalize p.b = b at *
    obtain ⟨xk, xs, xv, xn⟩ := x
    clear hd hp hn0
    unfold Wd.val4 qP at *
    go_enter Tryd.func19, Tryd.ntmps19
    go_wp2_with fail
    refine HN.out.mono ?_
    rintro e1 w1 ⟨rfl, hb1⟩
    have HB1 := Lib.hid (HB.out.below hb1 hql)
    have HO := Lib.hid ((Only.refl w [q]).new hb1)
    have c1 := hb1.cell hql |>.trans c1
    have f1 := HB1.out.frozen 1
    have c2 := hb1.cell hql |>.trans c2
    have f2 := HB1.out.frozen 2
    clear hb1
    go_wp2_with fail
    go_end0
    refine ⟨rfl, HZ.out.to (a := a) ?_ hS.out ?_⟩
    · exact (HO.out.setCell (p := ⟨q, 1, none⟩) (by simp) _).setCell (p := ⟨q, 2, none⟩) (by simp) _
    · rw [hfb.out]
      have hh := (HB1.out.set_ 1 (.bool true)).set_ 2 (.int .i64 xn)
      rw [e.out] at hh
      exact hh
  · have hd : decide (0 ≤ p.b) = true := by simp; omega
    rw [hd] at c1
    have HP : Hid (p.fl p.now.n = p) := fl_no hp
    clear hd hp
    unfold qP at *
    go_enter Tryd.func19, Tryd.ntmps19
    go_wp2_with fail
    go_end0
    exact ⟨rfl, by rw [HP.out]; exact Pt.refl HZ.out⟩

end Go.Proofs.YtahhbgfibelfaaaDoor
