import Derived.Test.YtahhbgfibelfaaaDoorQ7
namespace Go.Proofs.YtahhbgfibelfaaaDoor
open Go.RowKit Go.Lib
set_option linter.unusedVariables false

attribute [local go_sem] wfld0 wfld1 wfld2 wfld3
def Vl.val (v : Vl) : Value := .agg #[.int .i64 v.k, .int .i64 v.n, .string v.s]
theorem may_b {p : Ps} {k : Int} {s : ByteArray} : (p.may k s).b = p.b := by unfold Ps.may; split <;> rfl
theorem Pt.put {w w1 : World} {q g o c : Nat} {ws : List Wd} {p p0 : Ps} {a : Addr} (h : Pt w q g o c ws p w1) (h0 : Pz w q g o c ws p0) (hB : w.heap.size ≤ a.block) (u : Value) : Pt w q g o c ws p (w1.setCell a u) :=
  ⟨h.z.only ((Only.refl w1 [a.block]).setCell (by simp) _) (by have := h0.gl; simp; omega) (by have := h0.ql; simp; omega), h.o.setNew hB u⟩
theorem Pt.below {w w1 w2 : World} {q g o c : Nat} {ws : List Wd} {p : Ps} (h : Pt w q g o c ws p w1) (hb : Below w1.heap.size w1 w2) : Pt w q g o c ws p w2 := ⟨h.z.below hb, h.o.new hb⟩
theorem Pt.drew {w w1 : World} {q g o c : Nat} {ws : List Wd} {p : Ps} (h : Pt w q g o c ws p w1) : Pt w q g o c ws p w1.drew := h.below (below_drew (Below.refl _ _))
theorem Pt.of {w w0 w1 : World} {q g o c : Nat} {ws : List Wd} {p p' : Ps} (h : Pt w q g o c ws p w0) (k : Pt w0 q g o c ws p' w1) : Pt w q g o c ws p' w1 := ⟨k.z, h.o.trans k.o⟩
theorem Suf.may {ws : List Wd} {p : Ps} {a : Nat} (h : Suf ws p a) (k : Int) (s : ByteArray) : ∃ a', Suf ws (p.may k s) a' := by
  unfold Ps.may
  split
  · exact ⟨_, h.nx⟩
  · exact ⟨_, h⟩
theorem Pz.bad {w : World} {q g o c : Nat} {ws : List Wd} {p : Ps} (h : Pz w q g o c ws p) : w.cell? ⟨q, 1, none⟩ = some (.bool (decide (0 ≤ p.b))) ∧ w.cell? ⟨q, 2, none⟩ = some (.int .i64 (if p.b < 0 then 0 else p.b)) ∧ w.frozen? ⟨q, 1, none⟩ = false ∧ w.frozen? ⟨q, 2, none⟩ = false := by
  obtain ⟨a, hs, hb⟩ := h.at_
  exact ⟨hb.cell 1, hb.cell 2, hb.frozen 1, hb.frozen 2⟩
theorem Pz.fail {w : World} {q g o c : Nat} {ws : List Wd} {p : Ps} (h : Pz w q g o c ws p) (hp : p.b < 0) {n : Int} (h0 : 0 ≤ n) (h1 : n ≤ 1000000) : Pt w q g o c ws (p.fl n) ((w.setCell ⟨q, 1, none⟩ (.bool true)).setCell ⟨q, 2, none⟩ (.int .i64 n)) := by
  obtain ⟨a, hs, hb⟩ := h.at_
  refine h.to (a := a) (((Only.refl w [q]).setCell (p := ⟨q, 1, none⟩) (by simp) _).setCell (p := ⟨q, 2, none⟩) (by simp) _) (hs.fl h0 h1) ?_
  rw [fl_b hp]
  have hh := (hb.set_ 1 (.bool true)).set_ 2 (.int .i64 n)
  have e : ((pzC g o c ws.length a p.b).setIfInBounds 1 (.bool true)).setIfInBounds 2 (.int .i64 n) = pzC g o c ws.length a n := by
    unfold pzC
    rw [show decide (0 ≤ n) = true by simpa using h0, show (if n < 0 then (0 : Int) else n) = n from if_neg (by omega)]
    rfl
  rw [e] at hh
  exact hh
theorem blk3 {w : World} {g : Nat} {t : TypeId} (a b c : Value) (h : Blk w g t #[a, b, c]) : w.cell? ⟨g, 0, none⟩ = some a ∧ w.cell? ⟨g, 1, none⟩ = some b ∧ w.cell? ⟨g, 2, none⟩ = some c ∧ w.frozen? ⟨g, 0, none⟩ = false ∧ w.frozen? ⟨g, 1, none⟩ = false ∧ w.frozen? ⟨g, 2, none⟩ = false := ⟨h.cell 0, h.cell 1, h.cell 2, h.frozen 0, h.frozen 1, h.frozen 2⟩
set_option maxHeartbeats 4000000 in
set_option maxRecDepth 100000 in
theorem pval_ok (w : World) (q g o c : Nat) (ws : List Wd) (p : Ps) (hw : Wok ws c) (h : Pz w q g o c ws p) :
    Calls Tryd.prog 37 #[qP q] w fun e w' => e = .returned p.valV.val ∧ Pt w q g o c ws p.val w' := by
  have HM := Lib.hid (may_ok (w.alloc (.cells #[.int .i64 0, .int .i64 0, .string ⟨#[]⟩] 59)) q g o c ws p mMinus hw (h.alloc _))
  have HX := Lib.hid (fun w' (h' : Pz w' q g o c ws (p.may 4 mMinus)) => next_ok w' q g o c ws (p.may 4 mMinus) hw h')
  have HOB : Hid (Pt w q g o c ws p (w.alloc (.cells #[.int .i64 0, .int .i64 0, .string ⟨#[]⟩] 59))) := (Pt.refl h).alloc _
  have hql := h.ql
  have hok : WdOk (p.may 4 mMinus).now := by obtain ⟨a, hs, _⟩ := h.at_; obtain ⟨a', hs'⟩ := hs.may 4 mMinus; exact hw.ok _ hs'.now_mem
  obtain ⟨hv0, hv1, hn0, hn1, _, _⟩ := hok
  have hv : p.valW = (p.may 4 mMinus).now.val (p.is 4 mMinus) := rfl
  have hvp : p.val = if p.valW.isSome then (p.may 4 mMinus).nx else (p.may 4 mMinus).nx.fl (p.may 4 mMinus).now.n := rfl
  have hvv : p.valV = p.valW.getD V0 := rfl
  rw [hvv]
  have hbb : (p.may 4 mMinus).nx.b = p.b := may_b
  have HBB := Lib.hid hbb
  unfold mMinus at *
  have HZ := Lib.hid h
  clear hvv h hbb
  generalize p.val = pe at *
  generalize p.valW = vw at *
  generalize p.is 4 ⟨#[45]⟩ = m at *
  generalize p.may 4 ⟨#[45]⟩ = p1 at *
  have HQN := Lib.hid (show p1.nx.b = p.b from HBB.out)
  generalize p1.nx = p2 at *
  generalize p1.now = x at *
  obtain ⟨xk, xs, xv, xn⟩ := x
  unfold Wd.val4 qP at *
  unfold Wd.val at hv
  simp only at hv hvp hv0 hv1 hn0 hn1
  by_cases h2 : xk = 2
  · subst h2
    cases m
    · simp only [if_true, Bool.false_eq_true, if_false] at hv
      subst hv
      simp only [Option.isSome_some, if_true, Option.getD_some] at hvp ⊢
      subst hvp
      unfold Vl.val
      go_enter Tryd.func37, Tryd.ntmps37
      go_wp2_with fail
      refine HM.out.mono ?_
      rintro e1 w1 ⟨rfl, hp1⟩
      have HP1 := Lib.hid hp1
      clear hp1
      go_wp2_with fail
      refine (HX.out _ HP1.out.z).mono ?_
      rintro e1 w2 ⟨rfl, hp2⟩
      have HT2 := Lib.hid ((hp2.o.blk (HP1.out.o.blk (Blk.new w 59 #[.int .i64 0, .int .i64 0, .string ⟨#[]⟩]) (by simp; omega)) (by simp; omega)))
      have HPZ := Lib.hid hp2.z
      have HPP := Lib.hid ((HOB.out.of HP1.out).of hp2)
      have HP2 := Lib.hid (((HOB.out.of HP1.out).of hp2).alloc (.cells #[.int .i64 2, .string xs, .int .i64 xv, .int .i64 xn] 47))
      have hlt : w.heap.size < w2.heap.size := by have := HP1.out.o.size; have h2 := hp2.o.size; simp at this; omega
      have hne : ¬ w.heap.size = w2.heap.size := by omega
      have hqn : ¬ q = w2.heap.size := by omega
      have hqw : ¬ q = w.heap.size := by omega
      have hq2 : q < w2.heap.size := by omega
      clear hp2
      go_wp2_with fail
      refine (valInt_ok xv _).mono ?_
      rintro e1 w3 ⟨rfl, hb3⟩
      have HP3 := Lib.hid (HP2.out.below hb3)
      obtain ⟨c0, c1, c2, f0, f1, f2⟩ := blk3 _ _ _ ((HT2.out.alloc (.cells #[.int .i64 2, .string xs, .int .i64 xv, .int .i64 xn] 47)).below hb3 (by simp; omega))
      clear hb3
      go_wp2_with fail
      refine bodyPost_ret (by rw [results_cell1 (fn := Tryd.f37) rfl]; go_simp; rfl) rfl ?_
      exact ⟨rfl, (((HP3.out).put (a := ⟨w.heap.size, 0, none⟩) HZ.out (Nat.le_refl _) _).put (a := ⟨w.heap.size, 1, none⟩) HZ.out (Nat.le_refl _) _).put (a := ⟨w.heap.size, 2, none⟩) HZ.out (Nat.le_refl _) _⟩
    · have hn1 : wrap64 (-xv) = -xv := by unfold wrap64; omega
      simp only [if_true] at hv
      subst hv
      simp only [Option.isSome_some, if_true, Option.getD_some] at hvp ⊢
      subst hvp
      unfold Vl.val
      go_enter Tryd.func37, Tryd.ntmps37
      go_wp2_with fail
      refine HM.out.mono ?_
      rintro e1 w1 ⟨rfl, hp1⟩
      have HP1 := Lib.hid hp1
      clear hp1
      go_wp2_with fail
      refine (HX.out _ HP1.out.z).mono ?_
      rintro e1 w2 ⟨rfl, hp2⟩
      have HT2 := Lib.hid ((hp2.o.blk (HP1.out.o.blk (Blk.new w 59 #[.int .i64 0, .int .i64 0, .string ⟨#[]⟩]) (by simp; omega)) (by simp; omega)))
      have HPZ := Lib.hid hp2.z
      have HPP := Lib.hid ((HOB.out.of HP1.out).of hp2)
      have HP2 := Lib.hid (((HOB.out.of HP1.out).of hp2).alloc (.cells #[.int .i64 2, .string xs, .int .i64 xv, .int .i64 xn] 47))
      have hlt : w.heap.size < w2.heap.size := by have := HP1.out.o.size; have h2 := hp2.o.size; simp at this; omega
      have hne : ¬ w.heap.size = w2.heap.size := by omega
      have hqn : ¬ q = w2.heap.size := by omega
      have hqw : ¬ q = w.heap.size := by omega
      have hq2 : q < w2.heap.size := by omega
      clear hp2
      go_wp2_with fail
      refine (valInt_ok (-xv) _).mono ?_
      rintro e1 w3 ⟨rfl, hb3⟩
      have HP3 := Lib.hid (HP2.out.below hb3)
      obtain ⟨c0, c1, c2, f0, f1, f2⟩ := blk3 _ _ _ ((HT2.out.alloc (.cells #[.int .i64 2, .string xs, .int .i64 xv, .int .i64 xn] 47)).below hb3 (by simp; omega))
      clear hb3
      go_wp2_with fail
      refine bodyPost_ret (by rw [results_cell1 (fn := Tryd.f37) rfl]; go_simp; rfl) rfl ?_
      exact ⟨rfl, (((HP3.out).put (a := ⟨w.heap.size, 0, none⟩) HZ.out (Nat.le_refl _) _).put (a := ⟨w.heap.size, 1, none⟩) HZ.out (Nat.le_refl _) _).put (a := ⟨w.heap.size, 2, none⟩) HZ.out (Nat.le_refl _) _⟩
  · have hx2 : (xk == 2) = false := by simpa using h2
    cases m
    · by_cases h3 : xk = 3
      · subst h3
        simp only [if_neg h2, Bool.false_eq_true, if_false, if_true] at hv
        subst hv
        simp only [Option.isSome_some, if_true, Option.getD_some] at hvp ⊢
        subst hvp
        unfold Vl.val
        go_enter Tryd.func37, Tryd.ntmps37
        go_wp2_with fail
        refine HM.out.mono ?_
        rintro e1 w1 ⟨rfl, hp1⟩
        have HP1 := Lib.hid hp1
        clear hp1
        go_wp2_with fail
        refine (HX.out _ HP1.out.z).mono ?_
        rintro e1 w2 ⟨rfl, hp2⟩
        have HT2 := Lib.hid ((hp2.o.blk (HP1.out.o.blk (Blk.new w 59 #[.int .i64 0, .int .i64 0, .string ⟨#[]⟩]) (by simp; omega)) (by simp; omega)))
        have HPZ := Lib.hid hp2.z
        have HPP := Lib.hid ((HOB.out.of HP1.out).of hp2)
        have HP2 := Lib.hid (((HOB.out.of HP1.out).of hp2).alloc (.cells #[.int .i64 3, .string xs, .int .i64 xv, .int .i64 xn] 47))
        have hlt : w.heap.size < w2.heap.size := by have := HP1.out.o.size; have h2 := hp2.o.size; simp at this; omega
        have hne : ¬ w.heap.size = w2.heap.size := by omega
        have hqn : ¬ q = w2.heap.size := by omega
        have hqw : ¬ q = w.heap.size := by omega
        have hq2 : q < w2.heap.size := by omega
        clear hp2
        go_wp2_with fail
        refine (valText_ok xs _).mono ?_
        rintro e1 w3 ⟨rfl, hb3⟩
        have HP3 := Lib.hid (HP2.out.below hb3)
        obtain ⟨c0, c1, c2, f0, f1, f2⟩ := blk3 _ _ _ ((HT2.out.alloc (.cells #[.int .i64 3, .string xs, .int .i64 xv, .int .i64 xn] 47)).below hb3 (by simp; omega))
        clear hb3
        go_wp2_with fail
        refine bodyPost_ret (by rw [results_cell1 (fn := Tryd.f37) rfl]; go_simp; rfl) rfl ?_
        exact ⟨rfl, (((HP3.out).put (a := ⟨w.heap.size, 0, none⟩) HZ.out (Nat.le_refl _) _).put (a := ⟨w.heap.size, 1, none⟩) HZ.out (Nat.le_refl _) _).put (a := ⟨w.heap.size, 2, none⟩) HZ.out (Nat.le_refl _) _⟩
      · have hx3 : (xk == 3) = false := by simpa using h3
        by_cases h1 : xk = 1
        · subst h1
          by_cases s1 : xs = wTrue
          · subst s1
            simp only [if_neg h2, if_neg h3, Bool.false_eq_true, if_false, if_true] at hv
            subst hv
            simp only [Option.isSome_some, if_true, Option.getD_some] at hvp ⊢
            subst hvp
            unfold Vl.val
            unfold wTrue at *
            go_enter Tryd.func37, Tryd.ntmps37
            go_wp2_with fail
            refine HM.out.mono ?_
            rintro e1 w1 ⟨rfl, hp1⟩
            have HP1 := Lib.hid hp1
            clear hp1
            go_wp2_with fail
            refine (HX.out _ HP1.out.z).mono ?_
            rintro e1 w2 ⟨rfl, hp2⟩
            have HT2 := Lib.hid ((hp2.o.blk (HP1.out.o.blk (Blk.new w 59 #[.int .i64 0, .int .i64 0, .string ⟨#[]⟩]) (by simp; omega)) (by simp; omega)))
            have HPZ := Lib.hid hp2.z
            have HPP := Lib.hid ((HOB.out.of HP1.out).of hp2)
            have HP2 := Lib.hid (((HOB.out.of HP1.out).of hp2).alloc (.cells #[.int .i64 1, .string ⟨#[116, 114, 117, 101]⟩, .int .i64 xv, .int .i64 xn] 47))
            have hlt : w.heap.size < w2.heap.size := by have := HP1.out.o.size; have h2 := hp2.o.size; simp at this; omega
            have hne : ¬ w.heap.size = w2.heap.size := by omega
            have hqn : ¬ q = w2.heap.size := by omega
            have hqw : ¬ q = w.heap.size := by omega
            have hq2 : q < w2.heap.size := by omega
            clear hp2
            go_wp2_with fail
            refine (valBool_ok true _).mono ?_
            rintro e1 w3 ⟨rfl, hb3⟩
            have HP3 := Lib.hid (HP2.out.below hb3)
            obtain ⟨c0, c1, c2, f0, f1, f2⟩ := blk3 _ _ _ ((HT2.out.alloc (.cells #[.int .i64 1, .string ⟨#[116, 114, 117, 101]⟩, .int .i64 xv, .int .i64 xn] 47)).below hb3 (by simp; omega))
            clear hb3
            go_wp2_with fail
            refine bodyPost_ret (by rw [results_cell1 (fn := Tryd.f37) rfl]; go_simp; rfl) rfl ?_
            exact ⟨rfl, (((HP3.out).put (a := ⟨w.heap.size, 0, none⟩) HZ.out (Nat.le_refl _) _).put (a := ⟨w.heap.size, 1, none⟩) HZ.out (Nat.le_refl _) _).put (a := ⟨w.heap.size, 2, none⟩) HZ.out (Nat.le_refl _) _⟩
          · have n1 : (xs.toList == [116, 114, 117, 101]) = false := ba_ne s1
            by_cases s2 : xs = wFalse
            · subst s2
              simp only [if_neg h2, if_neg h3, if_neg s1, Bool.false_eq_true, if_false, if_true] at hv
              subst hv
              simp only [Option.isSome_some, if_true, Option.getD_some] at hvp ⊢
              subst hvp
              unfold Vl.val
              unfold wFalse at *
              go_enter Tryd.func37, Tryd.ntmps37
              go_wp2_with fail
              refine HM.out.mono ?_
              rintro e1 w1 ⟨rfl, hp1⟩
              have HP1 := Lib.hid hp1
              clear hp1
              go_wp2_with fail
              refine (HX.out _ HP1.out.z).mono ?_
              rintro e1 w2 ⟨rfl, hp2⟩
              have HT2 := Lib.hid ((hp2.o.blk (HP1.out.o.blk (Blk.new w 59 #[.int .i64 0, .int .i64 0, .string ⟨#[]⟩]) (by simp; omega)) (by simp; omega)))
              have HPZ := Lib.hid hp2.z
              have HPP := Lib.hid ((HOB.out.of HP1.out).of hp2)
              have HP2 := Lib.hid (((HOB.out.of HP1.out).of hp2).alloc (.cells #[.int .i64 1, .string ⟨#[102, 97, 108, 115, 101]⟩, .int .i64 xv, .int .i64 xn] 47))
              have hlt : w.heap.size < w2.heap.size := by have := HP1.out.o.size; have h2 := hp2.o.size; simp at this; omega
              have hne : ¬ w.heap.size = w2.heap.size := by omega
              have hqn : ¬ q = w2.heap.size := by omega
              have hqw : ¬ q = w.heap.size := by omega
              have hq2 : q < w2.heap.size := by omega
              clear hp2
              go_wp2_with fail
              refine (valBool_ok false _).mono ?_
              rintro e1 w3 ⟨rfl, hb3⟩
              have HP3 := Lib.hid (HP2.out.below hb3)
              obtain ⟨c0, c1, c2, f0, f1, f2⟩ := blk3 _ _ _ ((HT2.out.alloc (.cells #[.int .i64 1, .string ⟨#[102, 97, 108, 115, 101]⟩, .int .i64 xv, .int .i64 xn] 47)).below hb3 (by simp; omega))
              clear hb3
              go_wp2_with fail
              refine bodyPost_ret (by rw [results_cell1 (fn := Tryd.f37) rfl]; go_simp; rfl) rfl ?_
              exact ⟨rfl, (((HP3.out).put (a := ⟨w.heap.size, 0, none⟩) HZ.out (Nat.le_refl _) _).put (a := ⟨w.heap.size, 1, none⟩) HZ.out (Nat.le_refl _) _).put (a := ⟨w.heap.size, 2, none⟩) HZ.out (Nat.le_refl _) _⟩
            · have n2 : (xs.toList == [102, 97, 108, 115, 101]) = false := ba_ne s2
              by_cases s3 : xs = wNothing
              · subst s3
                simp only [if_neg h2, if_neg h3, if_neg s1, if_neg s2, Bool.false_eq_true, if_false, if_true] at hv
                subst hv
                simp only [Option.isSome_some, if_true, Option.getD_some] at hvp ⊢
                subst hvp
                unfold Vl.val
                unfold wNothing V0 at *
                go_enter Tryd.func37, Tryd.ntmps37
                go_wp2_with fail
                refine HM.out.mono ?_
                rintro e1 w1 ⟨rfl, hp1⟩
                have HP1 := Lib.hid hp1
                clear hp1
                go_wp2_with fail
                refine (HX.out _ HP1.out.z).mono ?_
                rintro e1 w2 ⟨rfl, hp2⟩
                have HT2 := Lib.hid ((hp2.o.blk (HP1.out.o.blk (Blk.new w 59 #[.int .i64 0, .int .i64 0, .string ⟨#[]⟩]) (by simp; omega)) (by simp; omega)))
                have HPZ := Lib.hid hp2.z
                have HPP := Lib.hid ((HOB.out.of HP1.out).of hp2)
                have HP2 := Lib.hid (((HOB.out.of HP1.out).of hp2).alloc (.cells #[.int .i64 1, .string ⟨#[110, 111, 116, 104, 105, 110, 103]⟩, .int .i64 xv, .int .i64 xn] 47))
                have hlt : w.heap.size < w2.heap.size := by have := HP1.out.o.size; have h2 := hp2.o.size; simp at this; omega
                have hne : ¬ w.heap.size = w2.heap.size := by omega
                have hqn : ¬ q = w2.heap.size := by omega
                have hqw : ¬ q = w.heap.size := by omega
                have hq2 : q < w2.heap.size := by omega
                clear hp2
                obtain ⟨c0, c1, c2, f0, f1, f2⟩ := blk3 _ _ _ HT2.out
                go_wp2_with fail
                refine bodyPost_ret (by rw [results_cell1 (fn := Tryd.f37) rfl]; go_simp; rfl) rfl ?_
                exact ⟨rfl, ((((HPP.out).put (a := ⟨w.heap.size, 0, none⟩) HZ.out (Nat.le_refl _) _).put (a := ⟨w.heap.size, 1, none⟩) HZ.out (Nat.le_refl _) _).put (a := ⟨w.heap.size, 2, none⟩) HZ.out (Nat.le_refl _) _).alloc _⟩
              · have n3 : (xs.toList == [110, 111, 116, 104, 105, 110, 103]) = false := ba_ne s3
                simp only [if_neg h2, if_neg h3, if_neg s1, if_neg s2, if_neg s3, Bool.false_eq_true, if_false, if_true] at hv
                subst hv
                simp only [Option.isSome_none, Bool.false_eq_true, if_false, Option.getD_none] at hvp ⊢
                unfold Vl.val V0
                clear s1 s2 s3 h2 h3
                by_cases hb : p2.b < 0
                · have hpe : Hid (pe = p2.fl xn) := hvp
                  have HBN := Lib.hid hb
                  clear hvp
                  go_enter Tryd.func37, Tryd.ntmps37
                  go_wp2_with fail
                  refine HM.out.mono ?_
                  rintro e1 w1 ⟨rfl, hp1⟩
                  have HP1 := Lib.hid hp1
                  clear hp1
                  go_wp2_with fail
                  refine (HX.out _ HP1.out.z).mono ?_
                  rintro e1 w2 ⟨rfl, hp2⟩
                  have HT2 := Lib.hid ((hp2.o.blk (HP1.out.o.blk (Blk.new w 59 #[.int .i64 0, .int .i64 0, .string ⟨#[]⟩]) (by simp; omega)) (by simp; omega)))
                  have HPZ := Lib.hid hp2.z
                  have HPP := Lib.hid ((HOB.out.of HP1.out).of hp2)
                  have HP2 := Lib.hid (((HOB.out.of HP1.out).of hp2).alloc (.cells #[.int .i64 1, .string xs, .int .i64 xv, .int .i64 xn] 47))
                  have hlt : w.heap.size < w2.heap.size := by have := HP1.out.o.size; have h2 := hp2.o.size; simp at this; omega
                  have hne : ¬ w.heap.size = w2.heap.size := by omega
                  have hqn : ¬ q = w2.heap.size := by omega
                  have hqw : ¬ q = w.heap.size := by omega
                  have hq2 : q < w2.heap.size := by omega
                  clear hp2
                  obtain ⟨c0, c1, c2, f0, f1, f2⟩ := blk3 _ _ _ HT2.out
                  have hz2 := HPZ.out.bad
                  obtain ⟨b1, b2, g1, g2⟩ := hz2
                  rw [show decide (0 ≤ p2.b) = false by simpa using hb] at b1
                  rw [if_pos hb] at b2
                  clear hb
                  go_wp2_with fail
                  go_region
                  go_wp2_with fail
                  refine bodyPost_ret (by rw [results_cell1 (fn := Tryd.f37) rfl]; go_simp; rfl) rfl ?_
                  have hpf := HPP.out.of (HPP.out.z.fail HBN.out hn0 hn1)
                  rw [hpe.out]
                  exact ⟨rfl, (((((hpf).put (a := ⟨w.heap.size, 0, none⟩) HZ.out (Nat.le_refl _) _).put (a := ⟨w.heap.size, 1, none⟩) HZ.out (Nat.le_refl _) _).put (a := ⟨w.heap.size, 2, none⟩) HZ.out (Nat.le_refl _) _).alloc _).drew⟩
                · have hpe : Hid (pe = p2) := by rw [fl_no hb] at hvp; exact hvp
                  clear hvp
                  go_enter Tryd.func37, Tryd.ntmps37
                  go_wp2_with fail
                  refine HM.out.mono ?_
                  rintro e1 w1 ⟨rfl, hp1⟩
                  have HP1 := Lib.hid hp1
                  clear hp1
                  go_wp2_with fail
                  refine (HX.out _ HP1.out.z).mono ?_
                  rintro e1 w2 ⟨rfl, hp2⟩
                  have HT2 := Lib.hid ((hp2.o.blk (HP1.out.o.blk (Blk.new w 59 #[.int .i64 0, .int .i64 0, .string ⟨#[]⟩]) (by simp; omega)) (by simp; omega)))
                  have HPZ := Lib.hid hp2.z
                  have HPP := Lib.hid ((HOB.out.of HP1.out).of hp2)
                  have HP2 := Lib.hid (((HOB.out.of HP1.out).of hp2).alloc (.cells #[.int .i64 1, .string xs, .int .i64 xv, .int .i64 xn] 47))
                  have hlt : w.heap.size < w2.heap.size := by have := HP1.out.o.size; have h2 := hp2.o.size; simp at this; omega
                  have hne : ¬ w.heap.size = w2.heap.size := by omega
                  have hqn : ¬ q = w2.heap.size := by omega
                  have hqw : ¬ q = w.heap.size := by omega
                  have hq2 : q < w2.heap.size := by omega
                  clear hp2
                  obtain ⟨c0, c1, c2, f0, f1, f2⟩ := blk3 _ _ _ HT2.out
                  have hz2 := HPZ.out.bad
                  obtain ⟨b1, b2, g1, g2⟩ := hz2
                  rw [show decide (0 ≤ p2.b) = true by simp; omega] at b1
                  clear b2 hb
                  go_wp2_with fail
                  refine bodyPost_ret (by rw [results_cell1 (fn := Tryd.f37) rfl]; go_simp; rfl) rfl ?_
                  rw [hpe.out]
                  exact ⟨rfl, ((((HPP.out).put (a := ⟨w.heap.size, 0, none⟩) HZ.out (Nat.le_refl _) _).put (a := ⟨w.heap.size, 1, none⟩) HZ.out (Nat.le_refl _) _).put (a := ⟨w.heap.size, 2, none⟩) HZ.out (Nat.le_refl _) _).alloc _⟩
        · have hx1 : (xk == 1) = false := by simpa using h1
          simp only [if_neg h2, if_neg h3, if_neg h1, Bool.false_eq_true, if_false] at hv
          subst hv
          simp only [Option.isSome_none, Bool.false_eq_true, if_false, Option.getD_none] at hvp ⊢
          unfold Vl.val V0
          clear h1 h2 h3
          by_cases hb : p2.b < 0
          · have hpe : Hid (pe = p2.fl xn) := hvp
            have HBN := Lib.hid hb
            clear hvp
            go_enter Tryd.func37, Tryd.ntmps37
            go_wp2_with fail
            refine HM.out.mono ?_
            rintro e1 w1 ⟨rfl, hp1⟩
            have HP1 := Lib.hid hp1
            clear hp1
            go_wp2_with fail
            refine (HX.out _ HP1.out.z).mono ?_
            rintro e1 w2 ⟨rfl, hp2⟩
            have HT2 := Lib.hid ((hp2.o.blk (HP1.out.o.blk (Blk.new w 59 #[.int .i64 0, .int .i64 0, .string ⟨#[]⟩]) (by simp; omega)) (by simp; omega)))
            have HPZ := Lib.hid hp2.z
            have HPP := Lib.hid ((HOB.out.of HP1.out).of hp2)
            have HP2 := Lib.hid (((HOB.out.of HP1.out).of hp2).alloc (.cells #[.int .i64 xk, .string xs, .int .i64 xv, .int .i64 xn] 47))
            have hlt : w.heap.size < w2.heap.size := by have := HP1.out.o.size; have h2 := hp2.o.size; simp at this; omega
            have hne : ¬ w.heap.size = w2.heap.size := by omega
            have hqn : ¬ q = w2.heap.size := by omega
            have hqw : ¬ q = w.heap.size := by omega
            have hq2 : q < w2.heap.size := by omega
            clear hp2
            obtain ⟨c0, c1, c2, f0, f1, f2⟩ := blk3 _ _ _ HT2.out
            have hz2 := HPZ.out.bad
            obtain ⟨b1, b2, g1, g2⟩ := hz2
            rw [show decide (0 ≤ p2.b) = false by simpa using hb] at b1
            rw [if_pos hb] at b2
            clear hb
            go_wp2_with fail
            go_region
            go_wp2_with fail
            refine bodyPost_ret (by rw [results_cell1 (fn := Tryd.f37) rfl]; go_simp; rfl) rfl ?_
            have hpf := HPP.out.of (HPP.out.z.fail HBN.out hn0 hn1)
            rw [hpe.out]
            exact ⟨rfl, (((((hpf).put (a := ⟨w.heap.size, 0, none⟩) HZ.out (Nat.le_refl _) _).put (a := ⟨w.heap.size, 1, none⟩) HZ.out (Nat.le_refl _) _).put (a := ⟨w.heap.size, 2, none⟩) HZ.out (Nat.le_refl _) _).alloc _).drew⟩
          · have hpe : Hid (pe = p2) := by rw [fl_no hb] at hvp; exact hvp
            clear hvp
            go_enter Tryd.func37, Tryd.ntmps37
            go_wp2_with fail
            refine HM.out.mono ?_
            rintro e1 w1 ⟨rfl, hp1⟩
            have HP1 := Lib.hid hp1
            clear hp1
            go_wp2_with fail
            refine (HX.out _ HP1.out.z).mono ?_
            rintro e1 w2 ⟨rfl, hp2⟩
            have HT2 := Lib.hid ((hp2.o.blk (HP1.out.o.blk (Blk.new w 59 #[.int .i64 0, .int .i64 0, .string ⟨#[]⟩]) (by simp; omega)) (by simp; omega)))
            have HPZ := Lib.hid hp2.z
            have HPP := Lib.hid ((HOB.out.of HP1.out).of hp2)
            have HP2 := Lib.hid (((HOB.out.of HP1.out).of hp2).alloc (.cells #[.int .i64 xk, .string xs, .int .i64 xv, .int .i64 xn] 47))
            have hlt : w.heap.size < w2.heap.size := by have := HP1.out.o.size; have h2 := hp2.o.size; simp at this; omega
            have hne : ¬ w.heap.size = w2.heap.size := by omega
            have hqn : ¬ q = w2.heap.size := by omega
            have hqw : ¬ q = w.heap.size := by omega
            have hq2 : q < w2.heap.size := by omega
            clear hp2
            obtain ⟨c0, c1, c2, f0, f1, f2⟩ := blk3 _ _ _ HT2.out
            have hz2 := HPZ.out.bad
            obtain ⟨b1, b2, g1, g2⟩ := hz2
            rw [show decide (0 ≤ p2.b) = true by simp; omega] at b1
            clear b2 hb
            go_wp2_with fail
            refine bodyPost_ret (by rw [results_cell1 (fn := Tryd.f37) rfl]; go_simp; rfl) rfl ?_
            rw [hpe.out]
            exact ⟨rfl, ((((HPP.out).put (a := ⟨w.heap.size, 0, none⟩) HZ.out (Nat.le_refl _) _).put (a := ⟨w.heap.size, 1, none⟩) HZ.out (Nat.le_refl _) _).put (a := ⟨w.heap.size, 2, none⟩) HZ.out (Nat.le_refl _) _).alloc _⟩
    · simp only [if_neg h2, if_true] at hv
      subst hv
      simp only [Option.isSome_none, Bool.false_eq_true, if_false, Option.getD_none] at hvp ⊢
      unfold Vl.val V0
      clear h2
      by_cases hb : p2.b < 0
      · have hpe : Hid (pe = p2.fl xn) := hvp
        have HBN := Lib.hid hb
        clear hvp
        go_enter Tryd.func37, Tryd.ntmps37
        go_wp2_with fail
        refine HM.out.mono ?_
        rintro e1 w1 ⟨rfl, hp1⟩
        have HP1 := Lib.hid hp1
        clear hp1
        go_wp2_with fail
        refine (HX.out _ HP1.out.z).mono ?_
        rintro e1 w2 ⟨rfl, hp2⟩
        have HT2 := Lib.hid ((hp2.o.blk (HP1.out.o.blk (Blk.new w 59 #[.int .i64 0, .int .i64 0, .string ⟨#[]⟩]) (by simp; omega)) (by simp; omega)))
        have HPZ := Lib.hid hp2.z
        have HPP := Lib.hid ((HOB.out.of HP1.out).of hp2)
        have HP2 := Lib.hid (((HOB.out.of HP1.out).of hp2).alloc (.cells #[.int .i64 xk, .string xs, .int .i64 xv, .int .i64 xn] 47))
        have hlt : w.heap.size < w2.heap.size := by have := HP1.out.o.size; have h2 := hp2.o.size; simp at this; omega
        have hne : ¬ w.heap.size = w2.heap.size := by omega
        have hqn : ¬ q = w2.heap.size := by omega
        have hqw : ¬ q = w.heap.size := by omega
        have hq2 : q < w2.heap.size := by omega
        clear hp2
        obtain ⟨c0, c1, c2, f0, f1, f2⟩ := blk3 _ _ _ HT2.out
        have hz2 := HPZ.out.bad
        obtain ⟨b1, b2, g1, g2⟩ := hz2
        rw [show decide (0 ≤ p2.b) = false by simpa using hb] at b1
        rw [if_pos hb] at b2
        clear hb
        go_wp2_with fail
        go_region
        go_wp2_with fail
        refine bodyPost_ret (by rw [results_cell1 (fn := Tryd.f37) rfl]; go_simp; rfl) rfl ?_
        have hpf := HPP.out.of (HPP.out.z.fail HBN.out hn0 hn1)
        rw [hpe.out]
        exact ⟨rfl, (((((hpf).put (a := ⟨w.heap.size, 0, none⟩) HZ.out (Nat.le_refl _) _).put (a := ⟨w.heap.size, 1, none⟩) HZ.out (Nat.le_refl _) _).put (a := ⟨w.heap.size, 2, none⟩) HZ.out (Nat.le_refl _) _).alloc _).drew⟩
      · have hpe : Hid (pe = p2) := by rw [fl_no hb] at hvp; exact hvp
        clear hvp
        go_enter Tryd.func37, Tryd.ntmps37
        go_wp2_with fail
        refine HM.out.mono ?_
        rintro e1 w1 ⟨rfl, hp1⟩
        have HP1 := Lib.hid hp1
        clear hp1
        go_wp2_with fail
        refine (HX.out _ HP1.out.z).mono ?_
        rintro e1 w2 ⟨rfl, hp2⟩
        have HT2 := Lib.hid ((hp2.o.blk (HP1.out.o.blk (Blk.new w 59 #[.int .i64 0, .int .i64 0, .string ⟨#[]⟩]) (by simp; omega)) (by simp; omega)))
        have HPZ := Lib.hid hp2.z
        have HPP := Lib.hid ((HOB.out.of HP1.out).of hp2)
        have HP2 := Lib.hid (((HOB.out.of HP1.out).of hp2).alloc (.cells #[.int .i64 xk, .string xs, .int .i64 xv, .int .i64 xn] 47))
        have hlt : w.heap.size < w2.heap.size := by have := HP1.out.o.size; have h2 := hp2.o.size; simp at this; omega
        have hne : ¬ w.heap.size = w2.heap.size := by omega
        have hqn : ¬ q = w2.heap.size := by omega
        have hqw : ¬ q = w.heap.size := by omega
        have hq2 : q < w2.heap.size := by omega
        clear hp2
        obtain ⟨c0, c1, c2, f0, f1, f2⟩ := blk3 _ _ _ HT2.out
        have hz2 := HPZ.out.bad
        obtain ⟨b1, b2, g1, g2⟩ := hz2
        rw [show decide (0 ≤ p2.b) = true by simp; omega] at b1
        clear b2 hb
        go_wp2_with fail
        refine bodyPost_ret (by rw [results_cell1 (fn := Tryd.f37) rfl]; go_simp; rfl) rfl ?_
        rw [hpe.out]
        exact ⟨rfl, ((((HPP.out).put (a := ⟨w.heap.size, 0, none⟩) HZ.out (Nat.le_refl _) _).put (a := ⟨w.heap.size, 1, none⟩) HZ.out (Nat.le_refl _) _).put (a := ⟨w.heap.size, 2, none⟩) HZ.out (Nat.le_refl _) _).alloc _⟩

end Go.Proofs.YtahhbgfibelfaaaDoor
