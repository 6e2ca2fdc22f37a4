import Derived.Test.YtahhbgfibelfaaaDoorQ4
namespace Go.Proofs.YtahhbgfibelfaaaDoor
open Go.RowKit Go.Lib
set_option linter.unusedVariables false

attribute [local go_sem] wfld0 wfld1 wfld2 wfld3
theorem bl_ne {U s : ByteArray} (h : ¬ U = s) : (U.toList == s.toList) = false := by
  rw [ByteArray.toList_eq, ByteArray.toList_eq]
  cases hb : (U.data.toList == s.data.toList) with
  | false => rfl
  | true =>
    exfalso
    apply h
    have := beq_iff_eq.1 hb
    apply ByteArray.ext
    exact Array.toList_inj.1 this
theorem is_false_b {p : Ps} {k : Int} {s : ByteArray} (h : ¬ p.b < 0) : p.is k s = false := by unfold Ps.is; rw [decide_eq_false h]; rfl
theorem is_false_k {p : Ps} {k : Int} {s : ByteArray} (h : ¬ p.now.k = k) : p.is k s = false := by unfold Ps.is; rw [decide_eq_false h, Bool.false_and, Bool.and_false]
theorem is_false_s {p : Ps} {k : Int} {s : ByteArray} (h : ¬ p.now.s = s) : p.is k s = false := by unfold Ps.is; rw [decide_eq_false h, Bool.and_false, Bool.and_false]
theorem is_true {p : Ps} {k : Int} {s : ByteArray} (h : p.b < 0) (h1 : p.now.k = k) (h2 : p.now.s = s) : p.is k s = true := by unfold Ps.is; rw [decide_eq_true h, decide_eq_true h1, decide_eq_true h2]; rfl
theorem may_pos {p : Ps} {k : Int} {s : ByteArray} (h : p.is k s = true) : p.may k s = p.nx := if_pos h
theorem may_neg {p : Ps} {k : Int} {s : ByteArray} (h : p.is k s = false) : p.may k s = p := if_neg (by rw [h]; decide)
set_option maxHeartbeats 1000000 in
set_option maxRecDepth 100000 in
theorem take_ok (w : World) (q g o c : Nat) (ws : List Wd) (p : Ps) (k : Int) (s : ByteArray) (hw : Wok ws c) (h : Pz w q g o c ws p) :
    Calls Tryd.prog 15 #[qP q, .int .i64 k, .string s] w fun e w' => e = .returned (.bool (p.is k s)) ∧ Pt w q g o c ws (p.may k s) w' := by
  have HN := Lib.hid (now_ok w q g o c ws p hw h)
  have HX := Lib.hid (fun w' (h' : Pz w' q g o c ws p) => next_ok w' q g o c ws p hw h')
  have HZ := Lib.hid h
  have hql := h.ql
  have c1 : w.cell? ⟨q, 1, none⟩ = some (.bool (decide (0 ≤ p.b))) := by
    obtain ⟨a, hs, hb⟩ := h.at_
    exact hb.cell 1
  clear h
  by_cases hp : p.b < 0
  · have hd : decide (0 ≤ p.b) = false := by simp; omega
    rw [hd] at c1
    have hk := fun h => is_false_k (p := p) (k := k) (s := s) h
    have hs := fun h => is_false_s (p := p) (k := k) (s := s) h
    have ht := fun h1 h2 => may_pos (is_true (p := p) (k := k) (s := s) hp h1 h2)
    have ht2 := fun h1 h2 => is_true (p := p) (k := k) (s := s) hp h1 h2
    have HM : Hid (p.is k s = false → p.may k s = p) := fun h => may_neg h
    generalize p.is k s = r at *
    generalize p.may k s = p1 at *
    generalize p.now = x at *
    obtain ⟨xk, xs, xv, xn⟩ := x
    simp only at hk hs ht ht2
    clear hd hp
    unfold Wd.val4 qP at *
    by_cases h1 : xk = k
    · subst h1
      by_cases h2 : xs = s
      · subst h2
        have e1 := ht rfl rfl
        have e2 := ht2 rfl rfl
        subst e1 e2
        clear hk hs ht ht2 HM
        go_enter Tryd.func15, Tryd.ntmps15
        go_wp2_with fail
        refine HN.out.mono ?_
        rintro e1 w1 ⟨rfl, hb1⟩
        have HZ1 := Lib.hid ((HZ.out.below hb1).alloc (.cells #[.int .i64 xk, .string xs, .int .i64 xv, .int .i64 xn] 47))
        have HO := Lib.hid (((Only.refl w [q]).new hb1).alloc (.cells #[.int .i64 xk, .string xs, .int .i64 xv, .int .i64 xn] 47))
        have c1 := hb1.cell hql |>.trans c1
        have hq1 : q < w1.heap.size := Nat.lt_of_lt_of_le hql hb1.size
        have hqn : ¬ q = w1.heap.size := by omega
        clear hb1
        go_wp2_with fail
        refine (HX.out _ HZ1.out).mono ?_
        rintro e1 w2 ⟨rfl, hp2⟩
        have HP2 := Lib.hid hp2
        clear hp2
        go_wp2_with fail
        go_ret
        exact ⟨rfl, HP2.out.z, HO.out.trans HP2.out.o⟩
      · have HF : Hid (r = false) := hs h2
        have hx : (xs.toList == s.toList) = false := bl_ne h2
        clear hk hs ht ht2
        go_enter Tryd.func15, Tryd.ntmps15
        go_wp2_with fail
        refine HN.out.mono ?_
        rintro e1 w1 ⟨rfl, hb1⟩
        have HZ1 := Lib.hid ((HZ.out.below hb1).alloc (.cells #[.int .i64 xk, .string xs, .int .i64 xv, .int .i64 xn] 47))
        have HO := Lib.hid (((Only.refl w [q]).new hb1).alloc (.cells #[.int .i64 xk, .string xs, .int .i64 xv, .int .i64 xn] 47))
        have c1 := hb1.cell hql |>.trans c1
        have hq1 : q < w1.heap.size := Nat.lt_of_lt_of_le hql hb1.size
        have hqn : ¬ q = w1.heap.size := by omega
        clear hb1
        go_wp2_with fail
        go_ret
        exact ⟨by rw [HF.out]; rfl, by rw [HM.out HF.out]; exact HZ1.out, HO.out⟩
    · have HF : Hid (r = false) := hk h1
      have hx : (xk == k) = false := by simpa using h1
      clear hk hs ht ht2
      go_enter Tryd.func15, Tryd.ntmps15
      go_wp2_with fail
      refine HN.out.mono ?_
      rintro e1 w1 ⟨rfl, hb1⟩
      have HZ1 := Lib.hid ((HZ.out.below hb1).alloc (.cells #[.int .i64 xk, .string xs, .int .i64 xv, .int .i64 xn] 47))
      have HO := Lib.hid (((Only.refl w [q]).new hb1).alloc (.cells #[.int .i64 xk, .string xs, .int .i64 xv, .int .i64 xn] 47))
      have c1 := hb1.cell hql |>.trans c1
      have hq1 : q < w1.heap.size := Nat.lt_of_lt_of_le hql hb1.size
      have hqn : ¬ q = w1.heap.size := by omega
      clear hb1
      go_wp2_with fail
      go_ret
      exact ⟨by rw [HF.out]; rfl, by rw [HM.out HF.out]; exact HZ1.out, HO.out⟩
  · have hd : decide (0 ≤ p.b) = true := by simp; omega
    rw [hd] at c1
    have HF : Hid (p.is k s = false) := is_false_b hp
    have HM : Hid (p.may k s = p) := may_neg HF.out
    generalize p.is k s = r at *
    generalize p.may k s = p1 at *
    generalize p.now = x at *
    obtain ⟨xk, xs, xv, xn⟩ := x
    clear hd hp
    unfold Wd.val4 qP at *
    go_enter Tryd.func15, Tryd.ntmps15
    go_wp2_with fail
    refine HN.out.mono ?_
    rintro e1 w1 ⟨rfl, hb1⟩
    have HZ1 := Lib.hid ((HZ.out.below hb1).alloc (.cells #[.int .i64 xk, .string xs, .int .i64 xv, .int .i64 xn] 47))
    have HO := Lib.hid (((Only.refl w [q]).new hb1).alloc (.cells #[.int .i64 xk, .string xs, .int .i64 xv, .int .i64 xn] 47))
    have c1 := hb1.cell hql |>.trans c1
    have hq1 : q < w1.heap.size := Nat.lt_of_lt_of_le hql hb1.size
    have hqn : ¬ q = w1.heap.size := by omega
    clear hb1
    go_wp2_with fail
    go_ret
    exact ⟨by rw [HF.out]; rfl, by rw [HM.out]; exact HZ1.out, HO.out⟩

set_option maxRecDepth 100000 in
theorem must_ok (w : World) (q g o c : Nat) (ws : List Wd) (p : Ps) (k : Int) (s : ByteArray) (hw : Wok ws c) (h : Pz w q g o c ws p) :
    Calls Tryd.prog 34 #[qP q, .int .i64 k, .string s] w fun e w' => e = .returned (.tuple #[]) ∧ Pt w q g o c ws (p.must k s) w' := by
  have HT := Lib.hid (take_ok w q g o c ws p k s hw h)
  have HFL := Lib.hid (fun w' (h' : Pz w' q g o c ws p) => fail_ok w' q g o c ws p hw h')
  have hm : p.must k s = if p.is k s then p.nx else p.fl p.now.n := rfl
  have hy : p.may k s = if p.is k s then p.nx else p := rfl
  clear h
  generalize p.fl p.now.n = pf at *
  generalize p.nx = pn at *
  generalize p.must k s = pm at *
  generalize p.may k s = py at *
  generalize p.is k s = r at *
  subst hm hy
  cases r
  · go_enter Tryd.func34, Tryd.ntmps34
    go_wp2_with fail
    refine HT.out.mono ?_
    rintro e1 w1 ⟨rfl, hp1⟩
    have HP1 := Lib.hid hp1
    clear hp1
    go_wp2_with fail
    refine (HFL.out _ HP1.out.z).mono ?_
    rintro e1 w2 ⟨rfl, hp2⟩
    have HP2 := Lib.hid hp2
    clear hp2
    go_wp2_with fail
    go_end0
    exact ⟨rfl, HP1.out.trans HP2.out⟩
  · go_enter Tryd.func34, Tryd.ntmps34
    go_wp2_with fail
    refine HT.out.mono ?_
    rintro e1 w1 ⟨rfl, hp1⟩
    have HP1 := Lib.hid hp1
    clear hp1
    go_wp2_with fail
    go_end0
    exact ⟨rfl, HP1.out⟩
set_option maxRecDepth 100000 in
theorem mark_ok (w : World) (q g o c : Nat) (ws : List Wd) (p : Ps) (s : ByteArray) (hw : Wok ws c) (h : Pz w q g o c ws p) :
    Calls Tryd.prog 35 #[qP q, .string s] w fun e w' => e = .returned (.tuple #[]) ∧ Pt w q g o c ws (p.must 4 s) w' := by
  have HT := Lib.hid (must_ok w q g o c ws p 4 s hw h)
  clear h
  go_enter Tryd.func35, Tryd.ntmps35
  go_wp2_with fail
  refine HT.out.mono ?_
  rintro e1 w1 ⟨rfl, hp1⟩
  have HP1 := Lib.hid hp1
  clear hp1
  go_wp2_with fail
  go_end0
  exact ⟨rfl, HP1.out⟩
set_option maxRecDepth 100000 in
theorem word_ok (w : World) (q g o c : Nat) (ws : List Wd) (p : Ps) (s : ByteArray) (hw : Wok ws c) (h : Pz w q g o c ws p) :
    Calls Tryd.prog 11 #[qP q, .string s] w fun e w' => e = .returned (.tuple #[]) ∧ Pt w q g o c ws (p.must 1 s) w' := by
  have HT := Lib.hid (must_ok w q g o c ws p 1 s hw h)
  clear h
  go_enter Tryd.func11, Tryd.ntmps11
  go_wp2_with fail
  refine HT.out.mono ?_
  rintro e1 w1 ⟨rfl, hp1⟩
  have HP1 := Lib.hid hp1
  clear hp1
  go_wp2_with fail
  go_end0
  exact ⟨rfl, HP1.out⟩
set_option maxRecDepth 100000 in
theorem may_ok (w : World) (q g o c : Nat) (ws : List Wd) (p : Ps) (s : ByteArray) (hw : Wok ws c) (h : Pz w q g o c ws p) :
    Calls Tryd.prog 17 #[qP q, .string s] w fun e w' => e = .returned (.bool (p.is 4 s)) ∧ Pt w q g o c ws (p.may 4 s) w' := by
  have HT := Lib.hid (take_ok w q g o c ws p 4 s hw h)
  clear h
  generalize p.is 4 s = r at *
  go_enter Tryd.func17, Tryd.ntmps17
  go_wp2_with fail
  refine HT.out.mono ?_
  rintro e1 w1 ⟨rfl, hp1⟩
  have HP1 := Lib.hid hp1
  clear hp1
  go_wp2_with fail
  go_ret
  exact ⟨rfl, HP1.out⟩

end Go.Proofs.YtahhbgfibelfaaaDoor
