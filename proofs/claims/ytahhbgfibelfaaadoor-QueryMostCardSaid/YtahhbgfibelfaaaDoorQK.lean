import Derived.Test.YtahhbgfibelfaaaDoorQJ
import Derived.Test.YtahhbgfibelfaaaDoorQP
import Derived.Test.YtahhbgfibelfaaaDoorLB
namespace Go.Proofs.YtahhbgfibelfaaaDoor
open Go.RowKit Go.Lib
set_option linter.unusedVariables false

attribute [local go_sem] wfld0 wfld1 wfld2 wfld3
theorem results_ctt {fn : Func} {p u v : Tmp} {ty : TypeId} (h : fn.results = #[.cell p ty, .tmp u, .tmp v]) (tmps : Array Value) (P : Program) (w : World) :
    (results fn tmps).run P w = ((asAddr (tmps.getD p undef)).run P w).andThen fun a w₁ => ((loadVar ty a).run P w₁).andThen fun x w₂ => .ok (.tuple #[x, tmps.getD u undef, tmps.getD v undef]) w₂ := by
  simp only [results, h]
  simp [Sem.run_bind, Result.andThen]
theorem wok_of {s : ByteArray} {ws : List Wd} {c : Nat} (h : ∀ x ∈ ws, WdOk x) (hs : s.size ≤ 1000) (hl : (ws ++ [endW s]).length ≤ 1000000) (hc : (ws ++ [endW s]).length ≤ c) (hm : c ≤ 9223372036854775807) : Wok (ws ++ [endW s]) c := by
  refine ⟨fun x hx => ?_, hl, hc, hm, fun x hx => ?_⟩
  · rcases List.mem_append.1 hx with hx | hx
    · exact h x hx
    · rw [List.mem_singleton] at hx
      subst hx
      exact ⟨by simp [endW], by simp [endW], by simp [endW], by simp [endW]; omega, by show (0 : Nat) ≤ _; omega, fun e => by simp [endW] at e⟩
  · rw [List.getLast?_append] at hx
    simp at hx
    rw [← hx]
    rfl
theorem wpost_cases {s : ByteArray} {w w' : World} {e : Ending} (hs1 : s.size ≤ 1000000) (h : WordsPost s w e w') : Below w.heap.size w w' ∧ ((∃ n k : Int, ParseR s (.inl (n, k)) ∧ k ≠ 0 ∧ e = .returned (.tuple #[.slice none 0 0, .int .i64 n, .int .i64 k])) ∨
    ∃ ws g o c, ParseR s (finW s (questW ⟨ws ++ [endW s], -1⟩)) ∧ s.size ≤ 1000 ∧ Wok (ws ++ [endW s]) c ∧ g < w'.heap.size ∧ w.heap.size ≤ g ∧ Lies w' g o (ws ++ [endW s]) ∧ e = .returned (.tuple #[.slice (some ⟨g, o, none⟩) (ws ++ [endW s]).length c, .int .i64 0, .int .i64 0])) := by
  obtain ⟨hb, h⟩ := h
  refine ⟨hb, ?_⟩
  by_cases hbig : 1000 < s.size
  · rw [if_pos hbig] at h
    exact .inl ⟨0, 4, .inl ⟨hbig, rfl⟩, by decide, h⟩
  · rw [if_neg hbig] at h
    cases hw : wds s (s.size + 1) 0 [] with
    | inl n =>
      rw [hw] at h
      exact .inl ⟨n, 320, .inr ⟨hbig, .inl ⟨n, hw, rfl⟩⟩, by decide, h⟩
    | inr out =>
      rw [hw] at h
      obtain ⟨v, k, hk, he, hm⟩ := h
      obtain ⟨ws, hws, hok⟩ := wds_ok s hs1 (s.size + 1) 0 [] out (fun x hx => by cases hx) hw
      subst hws
      rw [show wc 0 ⟨#[]⟩ 0 s.size = (endW s).cells from rfl, flat_snoc] at hm
      have hl := hm.1
      rw [flat_length] at hl
      obtain ⟨g, o, c, hv, hg, hB, hc, hcm, hlies⟩ := words_form2 hm (by simp)
      refine .inr ⟨ws, g, o, c, .inr ⟨hbig, .inr ⟨ws, hw, rfl⟩⟩, by omega, wok_of hok (by omega) (by omega) hc hcm, hg, hB, hlies, ?_⟩
      rw [he, hv]
theorem set5 {w w1 : World} {B : Nat} (h : Below B w w1) (u0 u1 u2 u3 u4 : Value) : Below B w (((((w1.setCell ⟨B, 0, none⟩ u0).setCell ⟨B, 1, none⟩ u1).setCell ⟨B, 2, none⟩ u2).setCell ⟨B, 3, none⟩ u3).setCell ⟨B, 4, none⟩ u4) :=
  ((((h.setCell (Nat.le_refl _) _).setCell (Nat.le_refl _) _).setCell (Nat.le_refl _) _).setCell (Nat.le_refl _) _).setCell (Nat.le_refl _) _
theorem QuAt.put5 {w : World} {B b : Nat} {V1 V2 V3 V4 : Value} {ns : List NV} {x : Qu} {cs : Array Value} (h : QuAt w B V1 V2 V3 V4 ns x) (hb : Blk w b 27 cs) (u0 u1 u2 u3 u4 : Value) : QuAt (((((w.setCell ⟨b, 0, none⟩ u0).setCell ⟨b, 1, none⟩ u1).setCell ⟨b, 2, none⟩ u2).setCell ⟨b, 3, none⟩ u3).setCell ⟨b, 4, none⟩ u4) B V1 V2 V3 V4 ns x := by
  have b1 := hb.set_ 0 u0
  have b2 := b1.set_ 1 u1
  have b3 := b2.set_ 2 u2
  have b4 := b3.set_ 3 u3
  have k : ∀ {e size n : Nat} {v : Value} {xs : List Value}, e ≠ 27 → Mid w B e size v n xs → Mid (((((w.setCell ⟨b, 0, none⟩ u0).setCell ⟨b, 1, none⟩ u1).setCell ⟨b, 2, none⟩ u2).setCell ⟨b, 3, none⟩ u3).setCell ⟨b, 4, none⟩ u4) B e size v n xs :=
    fun he hm => mid_set1 (mid_set1 (mid_set1 (mid_set1 (mid_set1 hm hb he _ _) b1 he _ _) b2 he _ _) b3 he _ _) b4 he _ _
  exact ⟨h.n, k (by decide) h.m1, fun y hy => k (by decide) (h.p1 y hy), k (by decide) h.m2, k (by decide) h.m3, k (by decide) h.m4⟩
set_option maxHeartbeats 8000000 in
set_option maxRecDepth 100000 in
theorem parse_q (s : ByteArray) (w : World) (hs1 : s.size ≤ 1000000) (hL : Laid w) :
    Calls Tryd.prog 4 #[.string s] w (ParsePost s w) := by
  have HWD := Lib.hid (words_lex s (w.alloc (.cells quZ 27)) hs1 (hL.alloc _))
  have HLW := Lib.hid hL
  have hsz9 := hL.sz
  have HBX := Lib.hid (Blk.new w 27 quZ)
  have HB0 := Lib.hid ((Below.refl w.heap.size w).alloc (Nat.le_refl _) (.cells quZ 27))
  clear hL
  unfold quZ at *
  go_enter Tryd.func4, Tryd.ntmps4
  go_wp2_with fail
  refine HWD.out.mono ?_
  intro e1 w1 hp
  obtain ⟨hb1, ⟨n, k, hpr, hk, rfl⟩ | ⟨ws, g, o, c, hpr, hs2, hwk, hg, hgB, hlies, rfl⟩⟩ := wpost_cases hs1 hp
  · have HPR := Lib.hid hpr
    have HB1 := Lib.hid (HB0.out.trans (hb1.mono (by simp)))
    have HX1 := HBX.out.below hb1 (by simp)
    obtain ⟨c0, c1, c2, c3, c4⟩ := blk5 _ _ _ _ _ HX1
    obtain ⟨f0, f1, f2, f3, f4, _⟩ := frz6 HX1
    have hk0 : (k != 0) = true := by simpa using hk
    clear hb1 hp hpr hk HX1
    go_wp2_with fail
    refine bodyPost_ret (by rw [results_ctt (fn := Tryd.f4) rfl]; go_simp; rfl) rfl ?_
    exact ⟨set5 HB1.out _ _ _ _ _, _, HPR.out, rfl⟩
  · have HPR := Lib.hid hpr
    have HB1 := Lib.hid (HB0.out.trans (hb1.mono (by simp)))
    have HX1 := Lib.hid (HBX.out.below hb1 (by simp))
    have hsz1 := HX1.out.lt
    have hne : g ≠ w1.heap.size := by omega
    have hbd := quest_bd ⟨ws ++ [endW s], -1⟩ 1000000 hwk.len
    have HQP : Hid (∀ w', Only w w' [] → Laid w') := fun w' h => HLW.out.below (w0 := w) (h.below (Nat.le_refl _) (by simp))
    have HPZ : Hid (Pz (w1.alloc (.cells #[.slice (some ⟨g, o, none⟩) (ws ++ [endW s]).length c, .bool false, .int .i64 0] 38)) w1.heap.size g o c (ws ++ [endW s]) ⟨ws ++ [endW s], -1⟩) := by
      refine ⟨⟨0, ⟨rfl, by simp, by show (-1 : Int) ≤ -1; omega, by show (-1 : Int) ≤ 1000000; omega⟩, ?_⟩, fun i hi j u hj hu => ?_, by simp; omega, by simp, hne⟩
      · have hh := Blk.new w1 38 #[.slice (some ⟨g, o, none⟩) (ws ++ [endW s]).length c, .bool false, .int .i64 0]
        have e : pzC g o c (ws ++ [endW s]).length 0 (-1) = #[.slice (some ⟨g, o, none⟩) (ws ++ [endW s]).length c, .bool false, .int .i64 0] := by
          unfold pzC
          rw [Nat.zero_mul, Nat.add_zero, Nat.sub_zero, Nat.sub_zero]
          rfl
        rw [e]
        exact hh
      · rw [World.cell?_of_block (w := w1) (Below.heap_alloc _ _ _ hg)]
        exact hlies i hi j u hj hu
    have HLQ : Hid (Laid (w1.alloc (.cells #[.slice (some ⟨g, o, none⟩) (ws ++ [endW s]).length c, .bool false, .int .i64 0] 38))) := (HLW.out.below (w0 := w) HB1.out).alloc _
    have HQU := Lib.hid (quest_ok _ w1.heap.size g o c _ _ hwk HPZ.out HLQ.out (by omega))
    generalize hW : ws ++ [endW s] = L at *
    clear hb1 hp hpr hlies hwk hg hgB hne hW
    generalize hRR : questW ⟨L, -1⟩ = R at *
    obtain ⟨pr, x⟩ := R
    simp only at hbd HQU
    clear hRR
    unfold qP at *
    go_wp2_with fail
    refine HQU.out.mono ?_
    rintro e1 w2 ⟨V1, V2, V3, V4, ns, rfl, hpt, hqa⟩
    have hxl : w.heap.size < w1.heap.size := hsz1
    have HX2 := Lib.hid (hpt.o.blk (HX1.out.alloc (.cells #[.slice (some ⟨g, o, none⟩) L.length c, .bool false, .int .i64 0] 38)) (by simp; omega))
    have HB2 := Lib.hid ((HB1.out.alloc (Nat.le_of_lt hxl) (.cells #[.slice (some ⟨g, o, none⟩) L.length c, .bool false, .int .i64 0] 38)).trans (hpt.o.below (B := w.heap.size) (by simp; omega) (fun y hy => by rw [List.mem_singleton] at hy; omega)))
    obtain ⟨A1, A2, A3, A4, k1, k2, k3, k4, rfl, rfl, rfl, rfl, hrd⟩ := hqa.rd 1000000 (by omega) hbd
    have HRD := Lib.hid hrd
    have HQA := Lib.hid (hqa.mono (show w.heap.size ≤ _ by simp; omega))
    have hnx := hqa.n
    have HMY := Lib.hid (fun w' (hb : Below w2.heap.size w2 w') => qmay_ok w' A1 A2 A3 A4 k1 k2 k3 k4 x.m ns x.es x.ws x.ts (hrd.up hb))
    rw [hnx] at HMY
    have hqz := hpt.z.ql
    obtain ⟨z1, z2, y1, y2⟩ := hpt.z.bad
    obtain ⟨c0, c1, c2, c3, c4⟩ := blk5 _ _ _ _ _ HX2.out
    obtain ⟨f0, f1, f2, f3, f4, _⟩ := frz6 HX2.out
    have hx2l := HX2.out.lt
    have hq1 : ¬ w1.heap.size = w2.heap.size := by omega
    have hq2 : ¬ w.heap.size = w2.heap.size := by omega
    have hq3 : ¬ w1.heap.size = w.heap.size := by omega
    have hq4 : ¬ w.heap.size = w1.heap.size := by omega
    unfold quV at *
    clear hrd hqa hnx hpt HPZ HLQ HQU HX1 HB1 hbd
    generalize w1.heap.size = qb at *
    by_cases hb : pr.b < 0
    · rw [show decide (0 ≤ pr.b) = false by simp; omega] at z1
      rw [if_pos hb] at z2
      have HFW : Hid (finW s (pr, x) = if x.may then .inr x else .inl (s.size, 330)) := if_pos hb
      cases hm : x.may
      · have HP2 : Hid (ParseR s (.inl ((s.size : Int), 330))) := by have := HPR.out; rw [HFW.out, hm] at this; exact this
        have HMY2 := Lib.hid (HMY.out (w2.alloc (.cells #[.slice A1 ns.length k1, .slice A2 x.es.length k2, .slice A3 x.ws.length k3, .slice A4 x.ts.length k4, .int .i64 x.m] 27)) ((Below.refl _ _).alloc (Nat.le_refl _) _))
        rw [show (⟨x.ns, x.es, x.ws, x.ts, x.m⟩ : Qu) = x from rfl, hm] at HMY2
        clear hb hm HFW HMY HPR
        go_wp2_with fail
        refine HMY2.out.mono ?_
        rintro e1 w3 ⟨rfl, hb3⟩
        have HB3 := Lib.hid ((HB2.out.alloc (Nat.le_of_lt hx2l) (.cells #[.slice A1 ns.length k1, .slice A2 x.es.length k2, .slice A3 x.ws.length k3, .slice A4 x.ts.length k4, .int .i64 x.m] 27)).trans (hb3.mono (by simp; omega)))
        have hHX := ((HX2.out.alloc (.cells #[.slice A1 ns.length k1, .slice A2 x.es.length k2, .slice A3 x.ws.length k3, .slice A4 x.ts.length k4, .int .i64 x.m] 27)).below hb3 (by simp; omega))
        obtain ⟨c0, c1, c2, c3, c4⟩ := blk5 _ _ _ _ _ hHX
        obtain ⟨f0, f1, f2, f3, f4, _⟩ := frz6 hHX
        have hbq := ((Below.refl w2.heap.size w2).alloc (Nat.le_refl _) (.cells #[.slice A1 ns.length k1, .slice A2 x.es.length k2, .slice A3 x.ws.length k3, .slice A4 x.ts.length k4, .int .i64 x.m] 27)).trans (hb3.mono (by simp))
        have z1 := (hbq.cell (p := ⟨qb, 1, none⟩) hqz).trans z1
        have z2 := (hbq.cell (p := ⟨qb, 2, none⟩) hqz).trans z2
        have y1 := (World.frozen?_of_block (w := w2) (a := ⟨qb, 1, none⟩) (hbq.block qb hqz)).trans y1
        have y2 := (World.frozen?_of_block (w := w2) (a := ⟨qb, 2, none⟩) (hbq.block qb hqz)).trans y2
        clear hb3 hHX hbq
        go_wp2_with fail
        go_region
        go_wp2_with fail
        refine bodyPost_ret (by rw [results_ctt (fn := Tryd.f4) rfl]; go_simp; rfl) rfl ?_
        exact ⟨below_drew (set5 ((HB3.out.setCell (p := ⟨qb, 1, none⟩) (Nat.le_of_lt hxl) _).setCell (p := ⟨qb, 2, none⟩) (Nat.le_of_lt hxl) _) _ _ _ _ _), _, HP2.out, rfl⟩
      · have HP2 : Hid (ParseR s (.inr x)) := by have := HPR.out; rw [HFW.out, hm] at this; exact this
        have HMY2 := Lib.hid (HMY.out (w2.alloc (.cells #[.slice A1 ns.length k1, .slice A2 x.es.length k2, .slice A3 x.ws.length k3, .slice A4 x.ts.length k4, .int .i64 x.m] 27)) ((Below.refl _ _).alloc (Nat.le_refl _) _))
        rw [show (⟨x.ns, x.es, x.ws, x.ts, x.m⟩ : Qu) = x from rfl, hm] at HMY2
        clear hb hm HFW HMY HPR
        go_wp2_with fail
        refine HMY2.out.mono ?_
        rintro e1 w3 ⟨rfl, hb3⟩
        have HB3 := Lib.hid ((HB2.out.alloc (Nat.le_of_lt hx2l) (.cells #[.slice A1 ns.length k1, .slice A2 x.es.length k2, .slice A3 x.ws.length k3, .slice A4 x.ts.length k4, .int .i64 x.m] 27)).trans (hb3.mono (by simp; omega)))
        have HHX := Lib.hid ((HX2.out.alloc (.cells #[.slice A1 ns.length k1, .slice A2 x.es.length k2, .slice A3 x.ws.length k3, .slice A4 x.ts.length k4, .int .i64 x.m] 27)).below hb3 (by simp; omega))
        obtain ⟨c0, c1, c2, c3, c4⟩ := blk5 _ _ _ _ _ HHX.out
        obtain ⟨f0, f1, f2, f3, f4, _⟩ := frz6 HHX.out
        have hT9 := (Blk.new w2 27 #[.slice A1 ns.length k1, .slice A2 x.es.length k2, .slice A3 x.ws.length k3, .slice A4 x.ts.length k4, .int .i64 x.m]).below hb3 (by simp)
        obtain ⟨d0, d1, d2, d3, d4⟩ := blk5 _ _ _ _ _ hT9
        have hbq := ((Below.refl w2.heap.size w2).alloc (Nat.le_refl _) (.cells #[.slice A1 ns.length k1, .slice A2 x.es.length k2, .slice A3 x.ws.length k3, .slice A4 x.ts.length k4, .int .i64 x.m] 27)).trans (hb3.mono (by simp))
        have z1 := (hbq.cell (p := ⟨qb, 1, none⟩) hqz).trans z1
        have HQ3 := Lib.hid (HQA.out.up hbq)
        clear hb3 hbq hT9 HQA
        go_wp2_with fail
        refine bodyPost_ret (by rw [results_ctt (fn := Tryd.f4) rfl]; go_simp; rfl) rfl ?_
        exact ⟨set5 HB3.out _ _ _ _ _, _, HP2.out, _, _, _, _, ns, rfl, HQ3.out.put5 HHX.out _ _ _ _ _⟩
    · rw [show decide (0 ≤ pr.b) = true by simp; omega] at z1
      rw [if_neg hb] at z2
      have HFW : Hid (finW s (pr, x) = .inl (pr.b, 330)) := if_neg hb
      have HP2 : Hid (ParseR s (.inl (pr.b, 330))) := by have := HPR.out; rw [HFW.out] at this; exact this
      clear hb HFW HMY HPR
      go_wp2_with fail
      go_region
      go_wp2_with fail
      refine bodyPost_ret (by rw [results_ctt (fn := Tryd.f4) rfl]; go_simp; rfl) rfl ?_
      exact ⟨below_drew ((set5 HB2.out _ _ _ _ _).alloc (by simp [World.setCell]; omega) _), _, HP2.out, rfl⟩

end Go.Proofs.YtahhbgfibelfaaaDoor
