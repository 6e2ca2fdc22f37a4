import Derived.Test.YtahhbgfibelfaaaDoorQ9
import Derived.Test.YtahhbgfibelfaaaDoorQP
namespace Go.Proofs.YtahhbgfibelfaaaDoor
open Go.RowKit Go.Lib
set_option linter.unusedVariables false

attribute [local go_sem] wfld0 wfld1 wfld2 wfld3
theorem infoPair : (Tryd.prog.info? 85).map (fun i => (i.zero, i.size, i.bytes)) = some (some (.agg #[.string ⟨#[]⟩, .int .i64 0, .int .i64 0, .string ⟨#[]⟩]), 4, 48) := by kernel_rfl
theorem row4 (w : World) (a b c d : Value) (t : TypeId) {g : Nat} (hg : g = w.heap.size) : Row (w.alloc (.cells #[a, b, c, d] t)) (some ⟨g, 0, none⟩) [a, b, c, d] := by
  subst hg; exact row_four w a b c d t
theorem pr_one (x : Pr) : ∀ u ∈ x.cs, u.oneCell' = true := by
  intro u hu
  simp only [Pr.cs, List.mem_cons, List.not_mem_nil, or_false] at hu
  rcases hu with rfl | rfl | rfl | rfl <;> rfl
theorem propsW_len : ∀ (f : Nat) (p : Ps) (acc : List Pr), (propsW f p acc).2.length ≤ acc.length + f
  | 0, p, acc => Nat.le_refl _
  | f + 1, p, acc => by
    unfold propsW
    split
    · have := propsW_len f p.prop.nx (acc ++ [p.propV]); simp at this; omega
    · simp
theorem opt_pos {p : Ps} {s : ByteArray} (h : p.is 4 s = true) : p.opt s = p.nx.name true ∧ p.optS s = p.nx.nameS ∧ p.may 4 s = p.nx := ⟨if_pos h, if_pos h, if_pos h⟩
theorem opt_neg {p : Ps} {s : ByteArray} (h : p.is 4 s = false) : p.opt s = p ∧ p.optS s = ⟨#[]⟩ ∧ p.may 4 s = p := ⟨if_neg (by rw [h]; decide), if_neg (by rw [h]; decide), if_neg (by rw [h]; decide)⟩
theorem curl_pos {p : Ps} (h : p.is 4 mCurl = true) : p.curl = (propsW p.l.length p.nx []).1.must 4 mUncurl ∧ p.curlV = (propsW p.l.length p.nx []).2 ∧ p.may 4 mCurl = p.nx := ⟨if_pos h, if_pos h, if_pos h⟩
theorem curl_neg {p : Ps} (h : p.is 4 mCurl = false) : p.curl = p ∧ p.curlV = [] ∧ p.may 4 mCurl = p := ⟨if_neg (by rw [h]; decide), if_neg (by rw [h]; decide), if_neg (by rw [h]; decide)⟩
theorem mid_far3 {w : World} {B b e size n : Nat} {v : Value} {xs : List Value} (h : Mid w B e size v n xs) (hb : v.ownBlock ≠ some b) (u0 u1 u2 : Value) : Mid (((w.setCell ⟨b, 0, none⟩ u0).setCell ⟨b, 1, none⟩ u1).setCell ⟨b, 2, none⟩ u2) B e size v n xs :=
  ((h.kept fun g hg => Below.heap_setCell _ _ _ _ (fun e => hb (by rw [hg, e]))).kept fun g hg => Below.heap_setCell _ _ _ _ (fun e => hb (by rw [hg, e]))).kept fun g hg => Below.heap_setCell _ _ _ _ (fun e => hb (by rw [hg, e]))
/-- What the pattern of a node leaves behind. -/
def NdPost (w : World) (q g o c : Nat) (ws : List Wd) (p : Ps) (x : Nd) (e : Ending) (w' : World) : Prop :=
  ∃ V, e = .returned (.agg #[.string x.v, .string x.l, V]) ∧ Pt w q g o c ws p w' ∧ Mid w' w.heap.size 85 4 V x.ps.length (prsC x.ps)
set_option maxHeartbeats 4000000 in
set_option maxRecDepth 100000 in
theorem pnode_ok (w : World) (q g o c : Nat) (ws : List Wd) (p : Ps) (hw : Wok ws c) (h : Pz w q g o c ws p) (hL : Laid w) (hq : 9 ≤ q) :
    Calls Tryd.prog 12 #[qP q] w (NdPost w q g o c ws p.node p.nodeV) := by
  obtain ⟨i0, hi0, hz0, hz1, hz2⟩ := info_parts infoPair
  have HZ := Lib.hid h
  have HLW := Lib.hid hL
  have HMK := Lib.hid (fun w' p' s (h' : Pz w' q g o c ws p') => mark_ok w' q g o c ws p' s hw h')
  have HMY := Lib.hid (fun w' p' s (h' : Pz w' q g o c ws p') => may_ok w' q g o c ws p' s hw h')
  have HNM := Lib.hid (fun w' p' m (h' : Pz w' q g o c ws p') (hl : Laid w') => pname_ok w' q g o c ws p' m hw h' hl hq)
  have HVL := Lib.hid (fun w' p' (h' : Pz w' q g o c ws p') => pval_ok w' q g o c ws p' hw h')
  have hlen := hw.len
  have hql := h.ql
  have hgl := h.gl
  have HWK := Lib.hid hw
  clear hw h hL
  unfold qP at *
  go_enter Tryd.func12, Tryd.ntmps12
  go_wp2_with fail
  have HP0 := Lib.hid ((Pt.refl HZ.out).alloc (.cells #[.string ⟨#[]⟩, .string ⟨#[]⟩, .slice none 0 0] 53))
  refine (HMK.out _ p mOpen HP0.out.z).mono ?_
  rintro e1 w1 ⟨rfl, hp1⟩
  have HP1 := Lib.hid (HP0.out.of hp1)
  have HB1 := Lib.hid (hp1.o.blk (Blk.new w 53 #[.string ⟨#[]⟩, .string ⟨#[]⟩, .slice none 0 0]) (by simp; omega))
  clear hp1
  go_wp2_with fail
  refine (HNM.out _ _ false HP1.out.z (laid_only HLW.out HP1.out.o hq)).mono ?_
  rintro e1 w2 ⟨rfl, hp2⟩
  have HP2 := Lib.hid (HP1.out.of hp2)
  have HB2 := Lib.hid (hp2.o.blk HB1.out (by simp; omega))
  have hsz : w.heap.size < w2.heap.size := HB2.out.lt
  have HN3 : Hid (NS w q g o c ws w2.heap.size (p.must 4 mOpen).nameS ⟨#[]⟩ (.slice none 0 0) [] ((p.must 4 mOpen).name false) (w2.alloc (.cells #[.string (p.must 4 mOpen).nameS, .string ⟨#[]⟩, .slice none 0 0] 53))) :=
    ⟨HP2.out.alloc _, HB2.out.alloc _, Blk.new _ _ _, Mid.nil _ _ _ _, hsz, ⟨p, HZ.out⟩⟩
  clear hp2
  go_wp2_with fail
  refine (HMY.out _ _ mColon HN3.out.pt.z).mono ?_
  rintro e1 w3 ⟨rfl, hp3⟩
  have hbN := HN3.out.bn.lt
  have HN4 := Lib.hid (HN3.out.step hp3)
  have hS3 := hp3.o.size
  clear hp3 HN3 HP0 HP1 HP2 HB1 HB2 hbN hS3
  generalize w2.heap.size = bN at *
  have hN : p.node = ((((p.must 4 mOpen).name false).opt mColon).curl).must 4 mClose := rfl
  have hV : p.nodeV = ⟨(p.must 4 mOpen).nameS, ((p.must 4 mOpen).name false).optS mColon, (((p.must 4 mOpen).name false).opt mColon).curlV⟩ := rfl
  generalize (p.must 4 mOpen).nameS = vr at *
  generalize (p.must 4 mOpen).name false = p2 at *
  generalize hr : p2.is 4 mColon = r at *
  cases r
  · have hm := (opt_neg hr).2.2
    rw [hm] at HN4
    have HNY := HN4
    clear hm HN4
    go_wp2_with fail
    refine (HMY.out _ _ mCurl HNY.out.pt.z).mono ?_
    rintro e1 w5 ⟨rfl, hp5⟩
    have HN7 := Lib.hid (HNY.out.step hp5)
    clear hp5
    generalize hq2 : (p2).is 4 mCurl = r2 at *
    cases r2
    · have HE : Hid (p.node = (p2).must 4 mClose ∧ p.nodeV = ⟨vr, ⟨#[]⟩, []⟩) := ⟨by rw [hN, (opt_neg hr).1, (curl_neg hq2).1], by rw [hV, (opt_neg hr).1, (opt_neg hr).2.1, (curl_neg hq2).2.1]⟩
      have hm := (curl_neg hq2).2.2
      rw [hm] at HN7
      have HNZ := HN7
      clear hm HN7
      go_wp2_with fail
      refine (HMK.out _ _ mClose HNZ.out.pt.z).mono ?_
      rintro e1 w9 ⟨rfl, hp9⟩
      have HNF := Lib.hid (HNZ.out.step hp9)
      obtain ⟨n0, n1, n2, _, _, _⟩ := blk3 _ _ _ HNF.out.bn
      obtain ⟨c0, c1, c2, f0, f1, f2⟩ := blk3 _ _ _ HNF.out.b2
      clear hp9
      go_wp2_with fail
      refine bodyPost_ret (by rw [results_cell1 (fn := Tryd.f12) rfl]; go_simp; rfl) rfl ?_
      rw [HE.out.1, HE.out.2]
      exact ⟨_, rfl, ((HNF.out.pt.put HZ.out (Nat.le_refl _) _).put HZ.out (Nat.le_refl _) _).put HZ.out (Nat.le_refl _) _, mid_far3 HNF.out.mid (HNF.out.mid_ne HNF.out.b2 (by decide)) _ _ _⟩
    · have HE : Hid (p.node = ((propsW (p2).l.length (p2).nx []).1.must 4 mUncurl).must 4 mClose ∧ p.nodeV = ⟨vr, ⟨#[]⟩, (propsW (p2).l.length (p2).nx []).2⟩) := ⟨by rw [hN, (opt_neg hr).1, (curl_pos hq2).1], by rw [hV, (opt_neg hr).1, (opt_neg hr).2.1, (curl_pos hq2).2.1]⟩
      have hm := (curl_pos hq2).2.2
      rw [hm] at HN7
      have hlt3 := HNY.out.pt.z.nx_lt HWK.out (by decide) hq2
      have hb3 := is_b hq2
      have HT : Hid ((p2).nx.b < 0 ∧ (p2).nx.l.length ≤ (p2).l.length) := ⟨hb3, by omega⟩
      generalize hTT : propsW (p2).l.length (p2).nx [] = T at *
      have HTT := Lib.hid hTT
      have HLF : Hid ((p2).l.length ≤ 1000000) := by obtain ⟨a, hs, _⟩ := HNY.out.pt.z.at_; have := hs.len; show _ ≤ _; omega
      clear hm hlt3 hb3 hTT hq2
      generalize (p2).nx = p4 at *
      generalize (p2).l.length = f0 at *
      have hf0 : f0 ≤ 1000000 := HLF.out
      go_wp2_with fail
      go_loopg [4, 5] f0 (fun k v4 v5 wr => ∃ (b : Bool) (p' : Ps) (acc : List Pr) (V : Value), v4 = .bool b ∧ NS w q g o c ws bN vr ⟨#[]⟩ V acc p' wr ∧ (b = true → p'.b < 0 ∧ p'.l.length ≤ k ∧ propsW k p' acc = T ∧ acc.length + k ≤ f0) ∧ (b = false → (p', acc) = T))
      case atStart => exact ⟨true, p4, [], _, rfl, HN7.out, fun _ => ⟨HT.out.1, HT.out.2, HTT.out, by simp⟩, fun h => by cases h⟩
      case round =>
        obtain ⟨b, p', acc, V, rfl, hns, ht, hf⟩ := hrel
        have HNS := Lib.hid hns
        obtain ⟨z1, z2, _, _⟩ := hns.pt.z.bad
        have hqr := hns.pt.z.ql
        clear hns z2 HN7
        cases b
        · have hT := hf rfl
          have HNX := HNS
          have HE2 : Hid (p.node = (p'.must 4 mUncurl).must 4 mClose ∧ p.nodeV = ⟨vr, ⟨#[]⟩, acc⟩) := by rw [← hT] at HE; exact HE.out
          clear ht hf hT HE HTT z1
          obtain ⟨A, cp, hv, _, _, _⟩ := HNX.out.mid.form
          subst hv
          go_wp2_with fail
          refine (HMK.out _ _ mUncurl HNX.out.pt.z).mono ?_
          rintro e1 w8 ⟨rfl, hp8⟩
          have HNZ := Lib.hid (HNX.out.step hp8)
          have HE := HE2
          clear hp8
          go_wp2_with fail
          refine (HMK.out _ _ mClose HNZ.out.pt.z).mono ?_
          rintro e1 w9 ⟨rfl, hp9⟩
          have HNF := Lib.hid (HNZ.out.step hp9)
          obtain ⟨n0, n1, n2, _, _, _⟩ := blk3 _ _ _ HNF.out.bn
          obtain ⟨c0, c1, c2, f0, f1, f2⟩ := blk3 _ _ _ HNF.out.b2
          clear hp9
          go_wp2_with fail
          refine bodyPost_ret (by rw [results_cell1 (fn := Tryd.f12) rfl]; go_simp; rfl) rfl ?_
          rw [HE.out.1, HE.out.2]
          exact ⟨_, rfl, ((HNF.out.pt.put HZ.out (Nat.le_refl _) _).put HZ.out (Nat.le_refl _) _).put HZ.out (Nat.le_refl _) _, mid_far3 HNF.out.mid (HNF.out.mid_ne HNF.out.b2 (by decide)) _ _ _⟩
        · obtain ⟨hb, hl, hT, hac⟩ := ht rfl
          clear hf ht
          have hpos := HNS.out.pt.z.pos
          cases gk with
          | zero => exact absurd hl (by omega)
          | succ k =>
            have hd : decide (0 ≤ p'.b) = false := by simp; omega
            rw [hd] at z1
            have hT2 : (if p'.prop.is 4 mComma then propsW k p'.prop.nx (acc ++ [p'.propV]) else (p'.prop, acc ++ [p'.propV])) = T := hT
            have hle := prop_le p'
            have HK : Hid (p'.l.length ≤ k + 1 ∧ acc.length + (k + 1) ≤ f0) := ⟨hl, hac⟩
            have HT3 := Lib.hid hT2
            have HLE := Lib.hid hle
            have hac2 : acc.length ≤ 1000000 := by omega
            clear hT hT2 hle hl hac hb hd HTT HT
            go_wp2_with fail
            refine (HNM.out _ _ true HNS.out.pt.z (laid_only HLW.out HNS.out.pt.o hq)).mono ?_
            rintro e1 y1 ⟨rfl, hp1⟩
            have HN1 := Lib.hid (HNS.out.step hp1)
            clear hp1
            go_wp2_with fail
            refine (HMK.out _ _ mColon HN1.out.pt.z).mono ?_
            rintro e1 y2 ⟨rfl, hp2⟩
            have HN2 := Lib.hid (HN1.out.step hp2)
            clear hp2
            go_wp2_with fail
            obtain ⟨A, cp, hv, _, _, _⟩ := HN2.out.mid.form
            subst hv
            refine wp_region_planG (fun w' => w'.cell? ⟨bN, 2, none⟩ = some (.slice A acc.length cp)) 7 [(true, 0), (true, 1), (true, 2), (true, 3), (false, 4), (true, 5), (false, 6)] (by kernel_rfl) (by kernel_rfl) (HN2.out.drew.bn.cell 2) ?_
            simp only [List.map_cons, List.map_nil, List.getD_cons_zero, List.getD_cons_succ, List.drop_succ_cons, List.drop_zero]
            (refine planG_take (v := ?_) (by rfl) ?_ ?_; rotate_left; (rintro wS hS1; go_simp; try with_reducible rfl); simp only [Act.put, List.setIfInBounds_toArray, List.set_cons_zero, List.set_cons_succ])
            (refine planG_take (v := ?_) (by rfl) ?_ ?_; rotate_left; (rintro wS hS1; go_simp; try with_reducible rfl); simp only [Act.put, List.setIfInBounds_toArray, List.set_cons_zero, List.set_cons_succ])
            (refine planG_take (v := ?_) (by rfl) ?_ ?_; rotate_left; (rintro wS hS1; go_simp; try with_reducible rfl); simp only [Act.put, List.setIfInBounds_toArray, List.set_cons_zero, List.set_cons_succ])
            (refine planG_take (v := ?_) (by rfl) ?_ ?_; rotate_left; (rintro wS hS1; go_simp; try with_reducible rfl); simp only [Act.put, List.setIfInBounds_toArray, List.set_cons_zero, List.set_cons_succ])
            refine planG_run (by rfl) (fun K hK => ?_)
            go_simp
            refine (HVL.out _ _ (pz_drew HN2.out.pt.z)).mono ?_
            rintro e1 y3 ⟨rfl, hp3⟩
            have HN3 := Lib.hid (HN2.out.drew.step hp3)
            have HN4 := Lib.hid (HN3.out.alloc (.cells #[.string p'.nameS, .int .i64 ((p'.name true).must 4 mColon).valV.k, .int .i64 ((p'.name true).must 4 mColon).valV.n, .string ((p'.name true).must 4 mColon).valV.s] 85))
            have hsz3 : w.heap.size ≤ y3.heap.size := by have := HN3.out.b2.lt; omega
            clear hp3
            unfold Vl.val
            refine hK.out _ _ (HN3.out.bn.cell 2) ?_
            clear hK K
            try simp only [Act.put, List.setIfInBounds_toArray, List.set_cons_zero, List.set_cons_succ]
            (refine planG_take (v := ?_) (by rfl) ?_ ?_; rotate_left; (rintro wS hS1; go_simp; try with_reducible rfl); simp only [Act.put, List.setIfInBounds_toArray, List.set_cons_zero, List.set_cons_succ])
            refine planG_run (by rfl) (fun K hK => ?_)
            go_simp
            refine hK.out _ _ ((HN3.out.alloc (.cells #[.string p'.nameS, .int .i64 ((p'.name true).must 4 mColon).valV.k, .int .i64 ((p'.name true).must 4 mColon).valV.n, .string ((p'.name true).must 4 mColon).valV.s] 85)).bn.cell 2) ?_
            clear hK K
            try simp only [Act.put, List.setIfInBounds_toArray, List.set_cons_zero, List.set_cons_succ]
            refine planG_nil ?_
            go_wp2_with (at_builtin; refine wpList_append_mid _ rfl (.tmp 33) (.tmp 38) 51 rfl w.heap.size 85 i0 _ 4 48 Tryd.underlying51 hi0 hz0 hz1 hz2 rfl (by decide) _ _ _ rfl HN4.out.mid (some ⟨y3.heap.size, 0, none⟩) 1 1 p'.propV.cs rfl rfl (row4 _ _ _ _ _ _ rfl) (pr_one _) (by simp only [maxLen]; omega) (by omega) (by simp; omega) ?_; intro V1 y4 hm1 hg1 ho1; have HN5 := Lib.hid (HN4.out.app (x := p'.propV) hm1 hg1); have hbn := HN4.out.bn.grown hg1 (fun e => HN4.out.mid_ne HN4.out.bn (by decide) e.symm); have n2 := hbn.cell 2; have g2 := hbn.frozen 2; obtain ⟨A1, cp1, hv1, _, _, _⟩ := hm1.form; subst hv1; clear hm1 hg1 ho1 hbn)
            refine NoPanic.normal ?_
            go_wp2_with fail
            refine (HMY.out _ _ mComma HN5.out.pt.z).mono ?_
            rintro e1 y5 ⟨rfl, hp5⟩
            have HN6 := Lib.hid (HN5.out.step hp5)
            clear hp5
            go_wp2_with fail
            go_roundg k
            case measure => omega
            case rel =>
              have hk := HK.out
              have hT := HT3.out
              have hle := HLE.out
              refine ⟨p'.prop.is 4 mComma, p'.prop.may 4 mComma, acc ++ [p'.propV], _, rfl, HN6.out, fun h => ?_, fun h => ?_⟩
              · have hlt : p'.prop.nx.l.length + 1 = p'.prop.l.length := HN5.out.pt.z.nx_lt HWK.out (by decide) h
                have hbb : p'.prop.b < 0 := is_b h
                rw [if_pos h] at hT
                rw [may_pos h]
                exact ⟨hbb, by omega, hT, by simp; omega⟩
              · rw [if_neg (by rw [h]; decide)] at hT
                rw [may_neg h]
                exact hT
  · have hm := (opt_pos hr).2.2
    rw [hm] at HN4
    go_wp2_with fail
    refine (HNM.out _ _ true HN4.out.pt.z (laid_only HLW.out HN4.out.pt.o hq)).mono ?_
    rintro e1 w4 ⟨rfl, hp4⟩
    have HN5 := Lib.hid (HN4.out.step hp4)
    obtain ⟨_, l1, _, _, g1, _⟩ := blk3 _ _ _ HN5.out.bn
    have HNY := Lib.hid (HN5.out.lab p2.nx.nameS)
    clear hm hp4
    go_wp2_with fail
    refine (HMY.out _ _ mCurl HNY.out.pt.z).mono ?_
    rintro e1 w5 ⟨rfl, hp5⟩
    have HN7 := Lib.hid (HNY.out.step hp5)
    clear hp5
    generalize hq2 : (p2.nx.name true).is 4 mCurl = r2 at *
    cases r2
    · have HE : Hid (p.node = (p2.nx.name true).must 4 mClose ∧ p.nodeV = ⟨vr, p2.nx.nameS, []⟩) := ⟨by rw [hN, (opt_pos hr).1, (curl_neg hq2).1], by rw [hV, (opt_pos hr).1, (opt_pos hr).2.1, (curl_neg hq2).2.1]⟩
      have hm := (curl_neg hq2).2.2
      rw [hm] at HN7
      have HNZ := HN7
      clear hm HN7
      go_wp2_with fail
      refine (HMK.out _ _ mClose HNZ.out.pt.z).mono ?_
      rintro e1 w9 ⟨rfl, hp9⟩
      have HNF := Lib.hid (HNZ.out.step hp9)
      obtain ⟨n0, n1, n2, _, _, _⟩ := blk3 _ _ _ HNF.out.bn
      obtain ⟨c0, c1, c2, f0, f1, f2⟩ := blk3 _ _ _ HNF.out.b2
      clear hp9
      go_wp2_with fail
      refine bodyPost_ret (by rw [results_cell1 (fn := Tryd.f12) rfl]; go_simp; rfl) rfl ?_
      rw [HE.out.1, HE.out.2]
      exact ⟨_, rfl, ((HNF.out.pt.put HZ.out (Nat.le_refl _) _).put HZ.out (Nat.le_refl _) _).put HZ.out (Nat.le_refl _) _, mid_far3 HNF.out.mid (HNF.out.mid_ne HNF.out.b2 (by decide)) _ _ _⟩
    · have HE : Hid (p.node = ((propsW (p2.nx.name true).l.length (p2.nx.name true).nx []).1.must 4 mUncurl).must 4 mClose ∧ p.nodeV = ⟨vr, p2.nx.nameS, (propsW (p2.nx.name true).l.length (p2.nx.name true).nx []).2⟩) := ⟨by rw [hN, (opt_pos hr).1, (curl_pos hq2).1], by rw [hV, (opt_pos hr).1, (opt_pos hr).2.1, (curl_pos hq2).2.1]⟩
      have hm := (curl_pos hq2).2.2
      rw [hm] at HN7
      have hlt3 := HNY.out.pt.z.nx_lt HWK.out (by decide) hq2
      have hb3 := is_b hq2
      have HT : Hid ((p2.nx.name true).nx.b < 0 ∧ (p2.nx.name true).nx.l.length ≤ (p2.nx.name true).l.length) := ⟨hb3, by omega⟩
      generalize hTT : propsW (p2.nx.name true).l.length (p2.nx.name true).nx [] = T at *
      have HTT := Lib.hid hTT
      have HLF : Hid ((p2.nx.name true).l.length ≤ 1000000) := by obtain ⟨a, hs, _⟩ := HNY.out.pt.z.at_; have := hs.len; show _ ≤ _; omega
      clear hm hlt3 hb3 hTT hq2
      generalize (p2.nx.name true).nx = p4 at *
      generalize (p2.nx.name true).l.length = f0 at *
      have hf0 : f0 ≤ 1000000 := HLF.out
      go_wp2_with fail
      go_loopg [4, 5] f0 (fun k v4 v5 wr => ∃ (b : Bool) (p' : Ps) (acc : List Pr) (V : Value), v4 = .bool b ∧ NS w q g o c ws bN vr p2.nx.nameS V acc p' wr ∧ (b = true → p'.b < 0 ∧ p'.l.length ≤ k ∧ propsW k p' acc = T ∧ acc.length + k ≤ f0) ∧ (b = false → (p', acc) = T))
      case atStart => exact ⟨true, p4, [], _, rfl, HN7.out, fun _ => ⟨HT.out.1, HT.out.2, HTT.out, by simp⟩, fun h => by cases h⟩
      case round =>
        obtain ⟨b, p', acc, V, rfl, hns, ht, hf⟩ := hrel
        have HNS := Lib.hid hns
        obtain ⟨z1, z2, _, _⟩ := hns.pt.z.bad
        have hqr := hns.pt.z.ql
        clear hns z2 HN7
        cases b
        · have hT := hf rfl
          have HNX := HNS
          have HE2 : Hid (p.node = (p'.must 4 mUncurl).must 4 mClose ∧ p.nodeV = ⟨vr, p2.nx.nameS, acc⟩) := by rw [← hT] at HE; exact HE.out
          clear ht hf hT HE HTT z1
          obtain ⟨A, cp, hv, _, _, _⟩ := HNX.out.mid.form
          subst hv
          go_wp2_with fail
          refine (HMK.out _ _ mUncurl HNX.out.pt.z).mono ?_
          rintro e1 w8 ⟨rfl, hp8⟩
          have HNZ := Lib.hid (HNX.out.step hp8)
          have HE := HE2
          clear hp8
          go_wp2_with fail
          refine (HMK.out _ _ mClose HNZ.out.pt.z).mono ?_
          rintro e1 w9 ⟨rfl, hp9⟩
          have HNF := Lib.hid (HNZ.out.step hp9)
          obtain ⟨n0, n1, n2, _, _, _⟩ := blk3 _ _ _ HNF.out.bn
          obtain ⟨c0, c1, c2, f0, f1, f2⟩ := blk3 _ _ _ HNF.out.b2
          clear hp9
          go_wp2_with fail
          refine bodyPost_ret (by rw [results_cell1 (fn := Tryd.f12) rfl]; go_simp; rfl) rfl ?_
          rw [HE.out.1, HE.out.2]
          exact ⟨_, rfl, ((HNF.out.pt.put HZ.out (Nat.le_refl _) _).put HZ.out (Nat.le_refl _) _).put HZ.out (Nat.le_refl _) _, mid_far3 HNF.out.mid (HNF.out.mid_ne HNF.out.b2 (by decide)) _ _ _⟩
        · obtain ⟨hb, hl, hT, hac⟩ := ht rfl
          clear hf ht
          have hpos := HNS.out.pt.z.pos
          cases gk with
          | zero => exact absurd hl (by omega)
          | succ k =>
            have hd : decide (0 ≤ p'.b) = false := by simp; omega
            rw [hd] at z1
            have hT2 : (if p'.prop.is 4 mComma then propsW k p'.prop.nx (acc ++ [p'.propV]) else (p'.prop, acc ++ [p'.propV])) = T := hT
            have hle := prop_le p'
            have HK : Hid (p'.l.length ≤ k + 1 ∧ acc.length + (k + 1) ≤ f0) := ⟨hl, hac⟩
            have HT3 := Lib.hid hT2
            have HLE := Lib.hid hle
            have hac2 : acc.length ≤ 1000000 := by omega
            clear hT hT2 hle hl hac hb hd HTT HT
            go_wp2_with fail
            refine (HNM.out _ _ true HNS.out.pt.z (laid_only HLW.out HNS.out.pt.o hq)).mono ?_
            rintro e1 y1 ⟨rfl, hp1⟩
            have HN1 := Lib.hid (HNS.out.step hp1)
            clear hp1
            go_wp2_with fail
            refine (HMK.out _ _ mColon HN1.out.pt.z).mono ?_
            rintro e1 y2 ⟨rfl, hp2⟩
            have HN2 := Lib.hid (HN1.out.step hp2)
            clear hp2
            go_wp2_with fail
            obtain ⟨A, cp, hv, _, _, _⟩ := HN2.out.mid.form
            subst hv
            refine wp_region_planG (fun w' => w'.cell? ⟨bN, 2, none⟩ = some (.slice A acc.length cp)) 7 [(true, 0), (true, 1), (true, 2), (true, 3), (false, 4), (true, 5), (false, 6)] (by kernel_rfl) (by kernel_rfl) (HN2.out.drew.bn.cell 2) ?_
            simp only [List.map_cons, List.map_nil, List.getD_cons_zero, List.getD_cons_succ, List.drop_succ_cons, List.drop_zero]
            (refine planG_take (v := ?_) (by rfl) ?_ ?_; rotate_left; (rintro wS hS1; go_simp; try with_reducible rfl); simp only [Act.put, List.setIfInBounds_toArray, List.set_cons_zero, List.set_cons_succ])
            (refine planG_take (v := ?_) (by rfl) ?_ ?_; rotate_left; (rintro wS hS1; go_simp; try with_reducible rfl); simp only [Act.put, List.setIfInBounds_toArray, List.set_cons_zero, List.set_cons_succ])
            (refine planG_take (v := ?_) (by rfl) ?_ ?_; rotate_left; (rintro wS hS1; go_simp; try with_reducible rfl); simp only [Act.put, List.setIfInBounds_toArray, List.set_cons_zero, List.set_cons_succ])
            (refine planG_take (v := ?_) (by rfl) ?_ ?_; rotate_left; (rintro wS hS1; go_simp; try with_reducible rfl); simp only [Act.put, List.setIfInBounds_toArray, List.set_cons_zero, List.set_cons_succ])
            refine planG_run (by rfl) (fun K hK => ?_)
            go_simp
            refine (HVL.out _ _ (pz_drew HN2.out.pt.z)).mono ?_
            rintro e1 y3 ⟨rfl, hp3⟩
            have HN3 := Lib.hid (HN2.out.drew.step hp3)
            have HN4 := Lib.hid (HN3.out.alloc (.cells #[.string p'.nameS, .int .i64 ((p'.name true).must 4 mColon).valV.k, .int .i64 ((p'.name true).must 4 mColon).valV.n, .string ((p'.name true).must 4 mColon).valV.s] 85))
            have hsz3 : w.heap.size ≤ y3.heap.size := by have := HN3.out.b2.lt; omega
            clear hp3
            unfold Vl.val
            refine hK.out _ _ (HN3.out.bn.cell 2) ?_
            clear hK K
            try simp only [Act.put, List.setIfInBounds_toArray, List.set_cons_zero, List.set_cons_succ]
            (refine planG_take (v := ?_) (by rfl) ?_ ?_; rotate_left; (rintro wS hS1; go_simp; try with_reducible rfl); simp only [Act.put, List.setIfInBounds_toArray, List.set_cons_zero, List.set_cons_succ])
            refine planG_run (by rfl) (fun K hK => ?_)
            go_simp
            refine hK.out _ _ ((HN3.out.alloc (.cells #[.string p'.nameS, .int .i64 ((p'.name true).must 4 mColon).valV.k, .int .i64 ((p'.name true).must 4 mColon).valV.n, .string ((p'.name true).must 4 mColon).valV.s] 85)).bn.cell 2) ?_
            clear hK K
            try simp only [Act.put, List.setIfInBounds_toArray, List.set_cons_zero, List.set_cons_succ]
            refine planG_nil ?_
            go_wp2_with (at_builtin; refine wpList_append_mid _ rfl (.tmp 33) (.tmp 38) 51 rfl w.heap.size 85 i0 _ 4 48 Tryd.underlying51 hi0 hz0 hz1 hz2 rfl (by decide) _ _ _ rfl HN4.out.mid (some ⟨y3.heap.size, 0, none⟩) 1 1 p'.propV.cs rfl rfl (row4 _ _ _ _ _ _ rfl) (pr_one _) (by simp only [maxLen]; omega) (by omega) (by simp; omega) ?_; intro V1 y4 hm1 hg1 ho1; have HN5 := Lib.hid (HN4.out.app (x := p'.propV) hm1 hg1); have hbn := HN4.out.bn.grown hg1 (fun e => HN4.out.mid_ne HN4.out.bn (by decide) e.symm); have n2 := hbn.cell 2; have g2 := hbn.frozen 2; obtain ⟨A1, cp1, hv1, _, _, _⟩ := hm1.form; subst hv1; clear hm1 hg1 ho1 hbn)
            refine NoPanic.normal ?_
            go_wp2_with fail
            refine (HMY.out _ _ mComma HN5.out.pt.z).mono ?_
            rintro e1 y5 ⟨rfl, hp5⟩
            have HN6 := Lib.hid (HN5.out.step hp5)
            clear hp5
            go_wp2_with fail
            go_roundg k
            case measure => omega
            case rel =>
              have hk := HK.out
              have hT := HT3.out
              have hle := HLE.out
              refine ⟨p'.prop.is 4 mComma, p'.prop.may 4 mComma, acc ++ [p'.propV], _, rfl, HN6.out, fun h => ?_, fun h => ?_⟩
              · have hlt : p'.prop.nx.l.length + 1 = p'.prop.l.length := HN5.out.pt.z.nx_lt HWK.out (by decide) h
                have hbb : p'.prop.b < 0 := is_b h
                rw [if_pos h] at hT
                rw [may_pos h]
                exact ⟨hbb, by omega, hT, by simp; omega⟩
              · rw [if_neg (by rw [h]; decide)] at hT
                rw [may_neg h]
                exact hT

end Go.Proofs.YtahhbgfibelfaaaDoor
