import Derived.Test.YtahhbgfibelfaaaDoorQH
import Derived.Test.YtahhbgfibelfaaaDoorQP
namespace Go.Proofs.YtahhbgfibelfaaaDoor
open Go.RowKit Go.Lib
set_option linter.unusedVariables false

attribute [local go_sem] wfld0 wfld1 wfld2 wfld3
def Qu.names (x : Qu) : List (List UInt8) := fullL ((x.ns.map (fun y => y.v) ++ x.es.map (fun y => y.v)).map fun s => s.data.toList)
/-- May a question be? -/
def Qu.may (x : Qu) : Bool :=
  decide (x.ns.length = x.es.length + 1) && (decide (x.es.length ≤ 6) && (decide (x.ws.length ≤ 8) && (decide (1 ≤ x.ts.length) && (decide (x.ts.length ≤ 8) && (decide (0 ≤ x.m) && (decide (x.m ≤ 256) &&
    (decide x.names.Nodup && (x.ws.all (fun c => decide (c.v.data.toList ∈ x.names)) && x.ts.all (fun t => decide (t.v.data.toList ∈ x.names))))))))))
theorem stC_sv (l : List ByteArray) : stC l = sv (l.map fun s => s.data.toList) := by
  unfold stC sv
  rw [List.map_map]
  apply List.map_congr_left
  intro x _
  simp
theorem all_take {α : Type} (f : α → Bool) (l : List α) (j : Nat) (hj : j < l.length) (h0 : (l.take j).all f = true) : (l.take (j + 1)).all f = f l[j] := by
  rw [List.take_add_one, List.all_append, h0, List.getElem?_eq_getElem hj]
  simp
theorem all_no {α : Type} (f : α → Bool) (l : List α) (j : Nat) (hj : j < l.length) (h0 : f l[j] = false) : l.all f = false := by
  rw [List.all_eq_false]
  exact ⟨_, List.getElem_mem hj, by rw [h0]; decide⟩
theorem srt_mem (NL : List (List UInt8)) (x : List UInt8) : decide (x ∈ srt NL) = decide (x ∈ NL) := by
  have : x ∈ srt NL ↔ x ∈ NL := List.mem_mergeSort
  simp only [this]
set_option maxHeartbeats 8000000 in
set_option maxRecDepth 100000 in
theorem qmay_ok (w : World) (A1 A2 A3 A4 : Option Addr) (k1 k2 k3 k4 : Nat) (m : Int) (ns : List NV) (es : List Ed) (cs : List Co) (ts : List It) (h : QuRd w A1 A2 A3 A4 ns es cs ts) :
    Calls Tryd.prog 8 #[.agg (quV A1 A2 A3 A4 ns.length es.length cs.length ts.length k1 k2 k3 k4 m)] w fun e w' => e = .returned (.bool (Qu.may ⟨ns.map Prod.fst, es, cs, ts, m⟩)) ∧ Below w.heap.size w w' := by
  have hR : Qu.may ⟨ns.map Prod.fst, es, cs, ts, m⟩ = (decide (ns.length = es.length + 1) && (decide (es.length ≤ 6) && (decide (cs.length ≤ 8) && (decide (1 ≤ ts.length) && (decide (ts.length ≤ 8) && (decide (0 ≤ m) && (decide (m ≤ 256) && (decide (Qu.names ⟨ns.map Prod.fst, es, cs, ts, m⟩).Nodup && (cs.all (fun c => decide (c.v.data.toList ∈ Qu.names ⟨ns.map Prod.fst, es, cs, ts, m⟩)) && ts.all (fun t => decide (t.v.data.toList ∈ Qu.names ⟨ns.map Prod.fst, es, cs, ts, m⟩))))))))))) := by
    unfold Qu.may
    simp only [List.length_map]
  have HNM : Hid (Qu.names ⟨ns.map Prod.fst, es, cs, ts, m⟩ = fullL ((qvars ns es).map fun s => s.data.toList)) := by
    show fullL (((ns.map Prod.fst).map (fun y => y.v) ++ es.map (fun y => y.v)).map fun s => s.data.toList) = _
    unfold qvars
    rw [List.map_map]
    rfl
  generalize Qu.may ⟨ns.map Prod.fst, es, cs, ts, m⟩ = R at *
  generalize Qu.names ⟨ns.map Prod.fst, es, cs, ts, m⟩ = NL at *
  have HR := Lib.hid hR
  have HQ := Lib.hid h
  have l1 := h.l1
  have l2 := h.l2
  have l3 := h.l3
  have l4 := h.l4
  have HV := Lib.hid (fun w' (hb : Below w.heap.size w w') => vars_ok w' A1 A2 A3 A4 cs.length ts.length k1 k2 k3 k4 m ns es (h.r1.up hb) (fun x hx => by obtain ⟨A, k, e, _⟩ := h.rp x hx; exact ⟨A, k, e⟩) (h.r2.up hb) l1 l2)
  have HBX := Lib.hid (Blk.new w 27 (quV A1 A2 A3 A4 ns.length es.length cs.length ts.length k1 k2 k3 k4 m))
  have HB0 := Lib.hid ((Below.refl w.heap.size w).alloc (Nat.le_refl _) (.cells (quV A1 A2 A3 A4 ns.length es.length cs.length ts.length k1 k2 k3 k4 m) 27))
  have hwr : wrap64 ((es.length : Int) + 1) = (es.length : Int) + 1 := by unfold wrap64; omega
  clear h hR
  unfold quV at *
  by_cases h0 : ns.length = es.length + 1
  · have x0 : ((ns.length : Int) != (es.length : Int) + 1) = false := by simp; omega
    by_cases h1 : es.length ≤ 6
    · have x1 : ¬ (6 < (es.length : Int)) := by omega
      by_cases h2 : cs.length ≤ 8
      · have x2 : ¬ (8 < (cs.length : Int)) := by omega
        by_cases h3 : 1 ≤ ts.length
        · have x3 : ¬ ((ts.length : Int) < 1) := by omega
          by_cases h4 : ts.length ≤ 8
          · have x4 : ¬ (8 < (ts.length : Int)) := by omega
            by_cases h5 : 0 ≤ m
            · have x5 : ¬ (m < 0) := by omega
              by_cases h6 : m ≤ 256
              · have x6 : ¬ (256 < m) := by omega
                have hR2 : R = (decide NL.Nodup && (cs.all (fun c => decide (c.v.data.toList ∈ NL)) && ts.all (fun t => decide (t.v.data.toList ∈ NL)))) := by
                  rw [HR.out, decide_eq_true h0, decide_eq_true h1, decide_eq_true h2, decide_eq_true h3, decide_eq_true h4, decide_eq_true h5, decide_eq_true h6]
                  simp only [Bool.true_and]
                have hvl : (qvars ns es).length = ns.length + es.length := by unfold qvars; rw [List.length_append, List.length_map, List.length_map]
                have HPL : Hid (0 < ns.length ∧ ns.length ≤ 7 ∧ es.length ≤ 6 ∧ cs.length ≤ 8 ∧ 0 < ts.length ∧ ts.length ≤ 8) := ⟨by omega, by omega, by omega, by omega, by omega, by omega⟩
                have HR2 := Lib.hid hR2
                have HVL := Lib.hid hvl
                clear HR hR2 hvl h0 h1 h2 h3 h4 h5 h6
                go_enter Tryd.func8, Tryd.ntmps8
                go_wp2_with fail
                refine (HV.out _ HB0.out).mono ?_
                rintro e1 w1 ⟨v1, rfl, hm1, hb1⟩
                have hB1 := HB0.out.trans (hb1.mono (by simp))
                have HBX1 := Lib.hid (HBX.out.below hb1 (by simp))
                have hsz1 : w.heap.size < w1.heap.size := HBX1.out.lt
                have hm1' := hm1.mono (Nat.le_of_lt (by simp : w.heap.size < _))
                rw [stC_sv, ← List.length_map (f := fun s : ByteArray => s.data.toList)] at hm1'
                generalize hVS : (qvars ns es).map (fun s => s.data.toList) = VS at *
                have hvs : VS.length ≤ 13 ∧ 0 < VS.length := by have := HPL.out; have := HVL.out; rw [← hVS, List.length_map]; omega
                have HM1 := Lib.hid hm1'
                have HB1 := Lib.hid hB1
                clear hm1 hb1 hm1' hB1 hVS
                go_wp2_with fail
                refine (del_mid HM1.out (by omega) hvs.2).mono ?_
                rintro e1 w2 ⟨v2, rfl, hm2, hv2, S2, ho2, hs2⟩
                rw [← HNM.out] at hm2
                have hge : ∀ x ∈ S2, w.heap.size ≤ x := fun x hx => (HM1.out.block x (hs2 x hx)).1
                have hgx : w.heap.size ∉ S2 := fun hx => by
                  have h1 := HM1.out.ne_blk HBX1.out (by decide)
                  exact h1 (hs2 _ hx)
                have HB2 := Lib.hid (HB1.out.trans (ho2.below (B := w.heap.size) (Nat.le_of_lt hsz1) hge))
                have HBX2 := Lib.hid (ho2.blk HBX1.out hgx)
                have hNL : NL.length ≤ 13 := by rw [HNM.out]; exact Nat.le_trans (List.length_filter_le _ _) hvs.1
                have HM2 := Lib.hid hm2
                have hsz2 := HBX2.out.lt
                obtain ⟨A2', c2', hv2', _, _, _⟩ := hm2.form
                subst hv2'
                clear hm2 hv2 ho2 hs2 hge hgx HM1 HB1 HBX1
                go_wp2_with fail
                refine (sort_mid (HM2.out.alloc _) (by omega)).mono ?_
                rintro e1 w4 ⟨rfl, hm4, S4, ho4, hs4⟩
                have HT3 := Blk.new w2 65 #[.slice A2' NL.length c2']
                have HM3 := HM2.out.alloc (.cells #[.slice A2' NL.length c2'] 65)
                have HBX3 := HBX2.out.alloc (.cells #[.slice A2' NL.length c2'] 65)
                have hge : ∀ x ∈ S4, w.heap.size ≤ x := fun x hx => (HM3.block x (hs4 x hx)).1
                have HB4 := Lib.hid ((HB2.out.alloc (Nat.le_of_lt hsz2) (.cells #[.slice A2' NL.length c2'] 65)).trans (ho4.below (B := w.heap.size) (by simp; omega) hge))
                have HBX4 := Lib.hid (ho4.blk HBX3 (fun hx => HM3.ne_blk HBX3 (by decide) (hs4 _ hx)))
                have HT4 := Lib.hid (ho4.blk HT3 (fun hx => HM3.ne_blk HT3 (by decide) (hs4 _ hx)))
                have hsl : (srt NL).length = NL.length := List.length_mergeSort _
                have hm4' : Mid w4 w.heap.size 9 1 (.slice A2' NL.length c2') (srt NL).length (sv (srt NL)) := by rw [hsl]; exact hm4
                have hsb : (srt NL).length ≤ 13 := by omega
                have HSL := Lib.hid hsl
                clear hsl
                have HM4 := Lib.hid hm4'
                have hsz4 := HT4.out.lt
                have HND := Lib.hid (srt_nodup NL)
                clear hm4 hm4' ho4 hs4 hge HT3 HM3 HBX3 HM2 HB2 HBX2
                generalize w2.heap.size = b3 at *
                by_cases hnd : NL.Nodup
                · have hR3 : R = (cs.all (fun c => decide (c.v.data.toList ∈ NL)) && ts.all (fun t => decide (t.v.data.toList ∈ NL))) := by rw [HR2.out, decide_eq_true hnd, Bool.true_and]
                  have HR3 := Lib.hid hR3
                  have hx : (((Lib.compact (srt NL)).length : Int) != (NL.length : Int)) = false := by have := HND.out.2 hnd; have := HSL.out; simp; omega
                  clear hR3 HR2 HND hnd
                  go_wp2_with fail
                  refine wp_region_planG (fun w' => w'.cell? ⟨b3, 0, none⟩ = some (.slice A2' NL.length c2')) 6 [(true, 0), (true, 4), (true, 5), (false, 1), (false, 2), (true, 3)] (by kernel_rfl) (by kernel_rfl) ((blk_drew HT4.out).cell 0) ?_
                  simp only [List.map_cons, List.map_nil, List.getD_cons_zero, List.getD_cons_succ, List.drop_succ_cons, List.drop_zero]
                  (refine planG_take (v := ?_) (by rfl) ?_ ?_; rotate_left; (rintro wS hS1; go_simp; try with_reducible rfl); simp only [Act.put, List.setIfInBounds_toArray, List.set_cons_zero, List.set_cons_succ])
                  (refine planG_take (v := ?_) (by rfl) ?_ ?_; rotate_left; (rintro wS hS1; go_simp; try with_reducible rfl); simp only [Act.put, List.setIfInBounds_toArray, List.set_cons_zero, List.set_cons_succ])
                  (refine planG_take (v := ?_) (by rfl) ?_ ?_; rotate_left; (rintro wS hS1; go_simp; try with_reducible rfl); simp only [Act.put, List.setIfInBounds_toArray, List.set_cons_zero, List.set_cons_succ])
                  refine planG_run (by rfl) (fun K hK => ?_)
                  go_simp
                  refine (clone_mid (l := srt NL) (B := w.heap.size) HM4.out.drew (by omega)).mono ?_
                  rintro e1 w5 ⟨v5, rfl, hm5, hb5⟩
                  have HM5 := Lib.hid hm5
                  have HT5 := Lib.hid ((blk_drew HT4.out).below hb5 HT4.out.lt)
                  have HBX5 := Lib.hid ((blk_drew HBX4.out).below hb5 HBX4.out.lt)
                  have HMo := Lib.hid (HM4.out.drew.only (Only.of_below hb5 []) (by simp))
                  have HB5 := Lib.hid ((below_drew HB4.out).trans (hb5.mono (Nat.le_of_lt HBX4.out.lt)))
                  have hs5 := hb5.size
                  clear hm5 hb5
                  refine hK.out _ _ (HT5.out.cell 0) ?_
                  clear hK K
                  try simp only [Act.put, List.setIfInBounds_toArray, List.set_cons_zero, List.set_cons_succ]
                  refine planG_run (by rfl) (fun K hK => ?_)
                  go_simp
                  refine (compact_mid HM5.out (by omega)).mono ?_
                  rintro e1 w6 ⟨v6, rfl, hm6, _, S6, ho6, hs6⟩
                  have hge6 : ∀ x ∈ S6, w4.drew.heap.size ≤ x := fun x hx => (HM5.out.block x (hs6 x hx)).1
                  have hlt4 : w4.drew.heap.size = w4.heap.size := rfl
                  have HT6 := Lib.hid (ho6.blk HT5.out (fun hx => by have := hge6 _ hx; have := HT4.out.lt; omega))
                  have HBX6 := Lib.hid (ho6.blk HBX5.out (fun hx => by have := hge6 _ hx; have := HBX4.out.lt; omega))
                  have HM6 := Lib.hid (HMo.out.only ho6 (fun g hg hx => by have := hge6 _ hx; obtain ⟨_, cur, hcur⟩ := HM4.out.block g hg; have := hcur.lt; omega))
                  have HB6 := Lib.hid (HB5.out.trans (ho6.below (B := w.heap.size) (Nat.le_of_lt HBX5.out.lt) (fun x hx => by have := hge6 x hx; have := HBX4.out.lt; omega)))
                  obtain ⟨A6, c6, hv6, _, _, _⟩ := hm6.form
                  subst hv6
                  clear hm6 ho6 hs6 hge6 hlt4
                  refine hK.out _ _ (HT6.out.cell 0) ?_
                  clear hK K
                  try simp only [Act.put, List.setIfInBounds_toArray, List.set_cons_zero, List.set_cons_succ]
                  (refine planG_take (v := ?_) (by rfl) ?_ ?_; rotate_left; (rintro wS hS1; go_simp; try with_reducible rfl); simp only [Act.put, List.setIfInBounds_toArray, List.set_cons_zero, List.set_cons_succ])
                  refine planG_nil ?_
                  go_wp2_with fail
                  refine NoPanic.normal ?_
                  clear hx
                  have x2 : w6.cell? ⟨w.heap.size, 2, none⟩ = some (.slice A3 cs.length k3) := HBX6.out.cell 2
                  have HAS := Lib.hid (fun w' (hb : Below w6.heap.size w6 w') (x : ByteArray) => (has_mid (x := x) (HM6.out.only (Only.of_below hb []) (by simp)) (by omega)))
                  go_wp2_with fail
                  go_loopg [5, 63] cs.length (fun q z i wr => ∃ (j : Nat), q + j = cs.length ∧ i = .int .i64 (j : Int) ∧ Below w6.heap.size w6 wr ∧ (cs.take j).all (fun c => decide (c.v.data.toList ∈ NL)) = true)
                  case atStart => exact ⟨0, by omega, rfl, Below.refl _ _, rfl⟩
                  case round =>
                    obtain ⟨j, hj, rfl, hb, hall⟩ := hrel
                    have HB := Lib.hid hb
                    have HALL := Lib.hid hall
                    have HTr := Lib.hid (HT6.out.below hb HT6.out.lt)
                    have HBXr := Lib.hid (HBX6.out.below hb HBX6.out.lt)
                    have hsr := hb.size
                    have hs6 := HT6.out.lt
                    have HBW := Lib.hid (HB6.out.trans (hb.mono (Nat.le_of_lt HBX6.out.lt)))
                    clear hb hall
                    by_cases hlt : j < cs.length
                    · obtain ⟨g, o, hA3, hal, hc⟩ := row_at HQ.out.r3 coC_len (by omega) hlt
                      subst hA3
                      have HT := Lib.hid (all_take (fun c => decide (c.v.data.toList ∈ NL)) cs j hlt HALL.out)
                      have HNO := Lib.hid (all_no (fun c => decide (c.v.data.toList ∈ NL)) cs j hlt)
                      generalize cs[j] = x at *
                      obtain ⟨xv, xk, xo, ⟨yk, yn, ys⟩⟩ := x
                      have a0 := (Only.addr HBW.out hal _).trans (hc 0 _ (by omega) rfl)
                      have a1 := (Only.addr HBW.out hal _).trans (hc 1 _ (by omega) rfl)
                      have a2 := (Only.addr HBW.out hal _).trans (hc 2 _ (by omega) rfl)
                      have a3 := (Only.addr HBW.out hal _).trans (hc 3 _ (by omega) rfl)
                      have a4 := (Only.addr HBW.out hal _).trans (hc 4 _ (by omega) rfl)
                      have a5 := (Only.addr HBW.out hal _).trans (hc 5 _ (by omega) rfl)
                      simp only [Nat.add_zero] at a0
                      have t0 : wr.cell? ⟨b3, 0, none⟩ = some (.slice A2' NL.length c2') := HTr.out.cell 0
                      have hbr : b3 < wr.heap.size := by omega
                      have HHX := Lib.hid (HAS.out (wr.alloc (.cells #[.string xv, .string xk, .int .i64 xo, .int .i64 yk, .int .i64 yn, .string ys] 61)) (HB.out.alloc hsr _) xv)
                      rw [srt_mem] at HHX
                      simp only at HT HNO
                      clear hc
                      cases hin : decide (xv.data.toList ∈ NL)
                      · rw [hin] at HHX HNO
                        have HF : Hid (R = false) := by show _ = _; rw [HR3.out, HNO.out rfl]; rfl
                        clear hin HT
                        go_wp2_with fail
                        refine HHX.out.mono ?_
                        rintro e1 wz ⟨rfl, rfl⟩
                        go_wp2_with fail
                        go_ret
                        exact ⟨by rw [HF.out]; rfl, HBW.out.alloc (by omega) _⟩
                      · rw [hin] at HHX HT
                        clear hin HNO
                        go_wp2_with fail
                        refine HHX.out.mono ?_
                        rintro e1 wz ⟨rfl, rfl⟩
                        go_wp2_with fail
                        go_roundg (gk - 1)
                        case measure => omega
                        case rel => exact ⟨j + 1, by omega, by go_num, HB.out.alloc hsr _, HT.out⟩
                    · have hj2 : j = cs.length := by omega
                      subst hj2
                      have HF : Hid (R = ts.all (fun t => decide (t.v.data.toList ∈ NL))) := by
                        show _ = _
                        have := HALL.out
                        rw [List.take_of_length_le (Nat.le_refl _)] at this
                        rw [HR3.out, this, Bool.true_and]
                      rcases HQ.out.r4 with h0 | ⟨g4, o4, hA4, hg4, hc4⟩
                      · have h1 : (ts.flatMap itC).length = 0 := by rw [h0]; rfl
                        rw [fm_len itC 2 itC_len] at h1
                        have := HPL.out
                        exact absurd h1 (by omega)
                      · subst hA4
                        have c3 : wr.cell? ⟨w.heap.size, 3, none⟩ = some (.slice (some ⟨g4, o4, none⟩) ts.length k4) := HBXr.out.cell 3
                        have HCF := Lib.hid (AnyQ.slices_ContainsFunc layHas 2 Tryd.isAgg44 Tryd.sizeOf44 itC itC_len (fun t => !(decide (t.v.data.toList ∈ srt NL))) 29 #[.pointer (some ⟨b3, 0, none⟩)] eg30 g4 o4 ts.length k4 ts wr
                          (fun W x hb => isNo_ok b3 _ (srt NL) x W (HM6.out.only (Only.of_below (HB.out.trans (hb.mono hsr)) []) (by simp)) (by omega) (HT6.out.below (HB.out.trans (hb.mono hsr)) HT6.out.lt) |>.mono fun e w' ⟨h1, h2⟩ => ⟨h1, hb.trans (h2.mono hb.size)⟩)
                          (Nat.le_refl _) (by omega) (Nat.lt_of_lt_of_le hg4 HBW.out.size)
                          (fun i hi k u hu => by
                            rw [getElem!_pos ts i hi] at hu
                            have hk : k < 2 := by have := (List.getElem?_eq_some_iff.1 hu).1; rwa [itC_len] at this
                            exact (Only.addr HBW.out hg4 _).trans (by rw [Nat.add_assoc]; exact hc4 _ _ ((fm_at itC 2 itC_len ts i k hi hk).trans hu))))
                        rw [List.take_of_length_le (Nat.le_refl _)] at HCF
                        have HAN : Hid (R = !(ts.any (fun t => !(decide (t.v.data.toList ∈ srt NL))))) := by
                          show _ = _
                          rw [HF.out]
                          simp only [srt_mem, List.not_any_eq_all_not, Bool.not_not]
                        generalize ts.any (fun t => !(decide (t.v.data.toList ∈ srt NL))) = an at *
                        clear hlt hc4
                        go_wp2_with fail
                        refine HCF.out.mono ?_
                        rintro e1 wz ⟨rfl, hbz⟩
                        have HBZ := Lib.hid (HBW.out.trans (hbz.mono HBW.out.size))
                        clear hbz
                        go_wp2_with fail
                        go_ret
                        exact ⟨by rw [HAN.out]; rfl, HBZ.out⟩
                · have hR3 : Hid (R = false) := by show _ = _; rw [HR2.out, decide_eq_false hnd]; rfl
                  have hx : (((Lib.compact (srt NL)).length : Int) != (NL.length : Int)) = true := by
                    have : ¬ (Lib.compact (srt NL)).length = (srt NL).length := fun e => hnd (HND.out.1 e)
                    have := HSL.out
                    simp; omega
                  clear HR2 HND hnd
                  go_wp2_with fail
                  refine wp_region_planG (fun w' => w'.cell? ⟨b3, 0, none⟩ = some (.slice A2' NL.length c2')) 6 [(true, 0), (true, 4), (true, 5), (false, 1), (false, 2), (true, 3)] (by kernel_rfl) (by kernel_rfl) ((blk_drew HT4.out).cell 0) ?_
                  simp only [List.map_cons, List.map_nil, List.getD_cons_zero, List.getD_cons_succ, List.drop_succ_cons, List.drop_zero]
                  (refine planG_take (v := ?_) (by rfl) ?_ ?_; rotate_left; (rintro wS hS1; go_simp; try with_reducible rfl); simp only [Act.put, List.setIfInBounds_toArray, List.set_cons_zero, List.set_cons_succ])
                  (refine planG_take (v := ?_) (by rfl) ?_ ?_; rotate_left; (rintro wS hS1; go_simp; try with_reducible rfl); simp only [Act.put, List.setIfInBounds_toArray, List.set_cons_zero, List.set_cons_succ])
                  (refine planG_take (v := ?_) (by rfl) ?_ ?_; rotate_left; (rintro wS hS1; go_simp; try with_reducible rfl); simp only [Act.put, List.setIfInBounds_toArray, List.set_cons_zero, List.set_cons_succ])
                  refine planG_run (by rfl) (fun K hK => ?_)
                  go_simp
                  refine (clone_mid (l := srt NL) (B := w.heap.size) HM4.out.drew (by omega)).mono ?_
                  rintro e1 w5 ⟨v5, rfl, hm5, hb5⟩
                  have HM5 := Lib.hid hm5
                  have HT5 := Lib.hid ((blk_drew HT4.out).below hb5 HT4.out.lt)
                  have HBX5 := Lib.hid ((blk_drew HBX4.out).below hb5 HBX4.out.lt)
                  have HMo := Lib.hid (HM4.out.drew.only (Only.of_below hb5 []) (by simp))
                  have HB5 := Lib.hid ((below_drew HB4.out).trans (hb5.mono (Nat.le_of_lt HBX4.out.lt)))
                  have hs5 := hb5.size
                  clear hm5 hb5
                  refine hK.out _ _ (HT5.out.cell 0) ?_
                  clear hK K
                  try simp only [Act.put, List.setIfInBounds_toArray, List.set_cons_zero, List.set_cons_succ]
                  refine planG_run (by rfl) (fun K hK => ?_)
                  go_simp
                  refine (compact_mid HM5.out (by omega)).mono ?_
                  rintro e1 w6 ⟨v6, rfl, hm6, _, S6, ho6, hs6⟩
                  have hge6 : ∀ x ∈ S6, w4.drew.heap.size ≤ x := fun x hx => (HM5.out.block x (hs6 x hx)).1
                  have hlt4 : w4.drew.heap.size = w4.heap.size := rfl
                  have HT6 := Lib.hid (ho6.blk HT5.out (fun hx => by have := hge6 _ hx; have := HT4.out.lt; omega))
                  have HBX6 := Lib.hid (ho6.blk HBX5.out (fun hx => by have := hge6 _ hx; have := HBX4.out.lt; omega))
                  have HM6 := Lib.hid (HMo.out.only ho6 (fun g hg hx => by have := hge6 _ hx; obtain ⟨_, cur, hcur⟩ := HM4.out.block g hg; have := hcur.lt; omega))
                  have HB6 := Lib.hid (HB5.out.trans (ho6.below (B := w.heap.size) (Nat.le_of_lt HBX5.out.lt) (fun x hx => by have := hge6 x hx; have := HBX4.out.lt; omega)))
                  obtain ⟨A6, c6, hv6, _, _, _⟩ := hm6.form
                  subst hv6
                  clear hm6 ho6 hs6 hge6 hlt4
                  refine hK.out _ _ (HT6.out.cell 0) ?_
                  clear hK K
                  try simp only [Act.put, List.setIfInBounds_toArray, List.set_cons_zero, List.set_cons_succ]
                  (refine planG_take (v := ?_) (by rfl) ?_ ?_; rotate_left; (rintro wS hS1; go_simp; try with_reducible rfl); simp only [Act.put, List.setIfInBounds_toArray, List.set_cons_zero, List.set_cons_succ])
                  refine planG_nil ?_
                  go_wp2_with fail
                  refine NoPanic.normal ?_
                  go_wp2_with fail
                  go_ret
                  exact ⟨by rw [hR3.out]; rfl, HB6.out⟩
              · have hR : R = false := by rw [HR.out, decide_eq_false h6]; simp
                have x6 : (256 < m) := by omega
                clear h0 h1 h2 h3 h4 h5 h6 HR
                go_enter Tryd.func8, Tryd.ntmps8
                go_wp2_with fail
                go_ret
                first | exact ⟨rfl, HB0.out⟩ | exact ⟨by rw [hR]; rfl, HB0.out⟩
            · have hR : R = false := by rw [HR.out, decide_eq_false h5]; simp
              have x5 : (m < 0) := by omega
              clear h0 h1 h2 h3 h4 h5 HR
              go_enter Tryd.func8, Tryd.ntmps8
              go_wp2_with fail
              go_ret
              first | exact ⟨rfl, HB0.out⟩ | exact ⟨by rw [hR]; rfl, HB0.out⟩
          · have hR : R = false := by rw [HR.out, decide_eq_false h4]; simp
            have x4 : (8 < (ts.length : Int)) := by omega
            clear h0 h1 h2 h3 h4 HR
            go_enter Tryd.func8, Tryd.ntmps8
            go_wp2_with fail
            go_ret
            first | exact ⟨rfl, HB0.out⟩ | exact ⟨by rw [hR]; rfl, HB0.out⟩
        · have hR : R = false := by rw [HR.out, decide_eq_false h3]; simp
          have x3 : ((ts.length : Int) < 1) := by omega
          clear h0 h1 h2 h3 HR
          go_enter Tryd.func8, Tryd.ntmps8
          go_wp2_with fail
          go_ret
          first | exact ⟨rfl, HB0.out⟩ | exact ⟨by rw [hR]; rfl, HB0.out⟩
      · have hR : R = false := by rw [HR.out, decide_eq_false h2]; simp
        have x2 : (8 < (cs.length : Int)) := by omega
        clear h0 h1 h2 HR
        go_enter Tryd.func8, Tryd.ntmps8
        go_wp2_with fail
        go_ret
        first | exact ⟨rfl, HB0.out⟩ | exact ⟨by rw [hR]; rfl, HB0.out⟩
    · have hR : R = false := by rw [HR.out, decide_eq_false h1]; simp
      have x1 : (6 < (es.length : Int)) := by omega
      clear h0 h1 HR
      go_enter Tryd.func8, Tryd.ntmps8
      go_wp2_with fail
      go_ret
      first | exact ⟨rfl, HB0.out⟩ | exact ⟨by rw [hR]; rfl, HB0.out⟩
  · have hR : R = false := by rw [HR.out, decide_eq_false h0]; simp
    have x0 : ((ns.length : Int) != (es.length : Int) + 1) = true := by simp; omega
    clear h0 HR
    go_enter Tryd.func8, Tryd.ntmps8
    go_wp2_with fail
    go_ret
    first | exact ⟨rfl, HB0.out⟩ | exact ⟨by rw [hR]; rfl, HB0.out⟩

end Go.Proofs.YtahhbgfibelfaaaDoor
