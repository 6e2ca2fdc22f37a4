import Derived.Test.YtkcgnodmjmpnhaaDoorVE
namespace Go.Proofs.YtkcgnodmjmpnhaaDoor
open Go.RowKit Go.Shelf Go.Lib Go.Sort
set_option linter.unusedVariables false

theorem info30 : (Tryd.prog.info? 30).map (fun i => (i.zero, i.size, i.bytes)) = some (some (.int .u64 0), 1, 8) := by kernel_rfl
theorem info43 : (Tryd.prog.info? 43).map (fun i => (i.zero, i.size, i.bytes)) = some (some (.agg #[.int .u64 0, .bool false, .slice none 0 0, .string ⟨#[]⟩, .int .u64 0, .int .u64 0, .slice none 0 0]), 7, 96) := by kernel_rfl
theorem info46 : (Tryd.prog.info? 46).map (fun i => (i.zero, i.size, i.bytes)) = some (some (.slice none 0 0), 1, 24) := by kernel_rfl
theorem info48 : (Tryd.prog.info? 48).map (fun i => (i.zero, i.size, i.bytes)) = some (some (.agg #[.int .i64 0, .int .i64 0, .string ⟨#[]⟩]), 3, 32) := by kernel_rfl

theorem near_use {x : Inf} {w : World} {e : Ending} {w' : World} (h : NearPost x w e w') : ∃ y : Inf, e = .returned (.agg #[.int .u64 (y.id : Int), .bool y.edge, .slice y.LA y.labels.length y.lc, .string y.ty, .int .u64 (y.fr : Int), .int .u64 (y.tw : Int), .slice y.PA y.props.length y.pc]) ∧ y.N = x.nearN ∧ Below w.heap.size w w' ∧ y.own w.heap.size w' := by
  obtain ⟨LA, PA, lc, pc, he, hb, h1, h2⟩ := h
  exact ⟨x.near LA PA lc pc, he, Inf.near_N x LA PA lc pc, hb, h1, h2⟩
theorem near_ok {x y : Inf} {w0 : World} (hx : x.wide w0) (hn : y.N = x.nearN) : y.ok0 := Inf.N_ok0 (by rw [hn]; exact Inf.nearN_ok0 hx)

theorem s1_step {w : World} {r : Rep} {g o a n : Nat} {IV FV RV : Value} {y z : World} (hg : g < w.heap.size) (hb : Below (w.heap.size + 2) y z) (h : y.cell? ⟨w.heap.size, 2, none⟩ = some (.slice (some ⟨g, o, none⟩) r.ids.length r.ic) ∧ y.cell? ⟨g, a, none⟩ = some (.int .u64 (n : Int)) ∧ y.cell? ⟨w.heap.size + 1, 2, none⟩ = some IV ∧ y.frozen? ⟨w.heap.size + 1, 2, none⟩ = false ∧ QB w r IV FV RV y) : z.cell? ⟨w.heap.size, 2, none⟩ = some (.slice (some ⟨g, o, none⟩) r.ids.length r.ic) ∧ z.cell? ⟨g, a, none⟩ = some (.int .u64 (n : Int)) ∧ z.cell? ⟨w.heap.size + 1, 2, none⟩ = some IV ∧ z.frozen? ⟨w.heap.size + 1, 2, none⟩ = false ∧ QB w r IV FV RV z := by
  obtain ⟨h0, h1, h2, h3, h4⟩ := h
  have h5 := h4.step hb
  exact ⟨below_cell hb (by omega) h0, below_cell hb (by omega) h1, below_cell hb (by omega) h2, h5.b1.frozen 2, h5⟩
theorem s2_step {w : World} {r : Rep} {g o a : Nat} {x : Inf} {IV FV RV : Value} {y z : World} (hg : g < w.heap.size) (hb : Below (w.heap.size + 2) y z) (h : y.cell? ⟨w.heap.size, 3, none⟩ = some (.slice (some ⟨g, o, none⟩) r.fs.length r.fc) ∧ y.cell? ⟨g, a, none⟩ = some (.int .u64 (x.id : Int)) ∧ y.cell? ⟨g, a + 1, none⟩ = some (.bool x.edge) ∧ y.cell? ⟨g, a + 2, none⟩ = some (.slice x.LA x.labels.length x.lc) ∧ y.cell? ⟨g, a + 3, none⟩ = some (.string x.ty) ∧ y.cell? ⟨g, a + 4, none⟩ = some (.int .u64 (x.fr : Int)) ∧ y.cell? ⟨g, a + 5, none⟩ = some (.int .u64 (x.tw : Int)) ∧ y.cell? ⟨g, a + 6, none⟩ = some (.slice x.PA x.props.length x.pc) ∧ y.cell? ⟨w.heap.size + 1, 3, none⟩ = some FV ∧ y.frozen? ⟨w.heap.size + 1, 3, none⟩ = false ∧ QB w r IV FV RV y) : z.cell? ⟨w.heap.size, 3, none⟩ = some (.slice (some ⟨g, o, none⟩) r.fs.length r.fc) ∧ z.cell? ⟨g, a, none⟩ = some (.int .u64 (x.id : Int)) ∧ z.cell? ⟨g, a + 1, none⟩ = some (.bool x.edge) ∧ z.cell? ⟨g, a + 2, none⟩ = some (.slice x.LA x.labels.length x.lc) ∧ z.cell? ⟨g, a + 3, none⟩ = some (.string x.ty) ∧ z.cell? ⟨g, a + 4, none⟩ = some (.int .u64 (x.fr : Int)) ∧ z.cell? ⟨g, a + 5, none⟩ = some (.int .u64 (x.tw : Int)) ∧ z.cell? ⟨g, a + 6, none⟩ = some (.slice x.PA x.props.length x.pc) ∧ z.cell? ⟨w.heap.size + 1, 3, none⟩ = some FV ∧ z.frozen? ⟨w.heap.size + 1, 3, none⟩ = false ∧ QB w r IV FV RV z := by
  obtain ⟨h0, h1, h2, h3, h4, h5, h6, h7, h8, h9, h10⟩ := h
  have h11 := h10.step hb
  exact ⟨below_cell hb (by omega) h0, below_cell hb (by omega) h1, below_cell hb (by omega) h2, below_cell hb (by omega) h3, below_cell hb (by omega) h4, below_cell hb (by omega) h5, below_cell hb (by omega) h6, below_cell hb (by omega) h7, below_cell hb (by omega) h8, h11.b1.frozen 3, h11⟩
theorem s2_up {w : World} {r : Rep} {g o a : Nat} {x : Inf} {IV FV RV : Value} {y z : World} (hg : g < w.heap.size) (hb : Below y.heap.size y z) (h : y.cell? ⟨w.heap.size, 3, none⟩ = some (.slice (some ⟨g, o, none⟩) r.fs.length r.fc) ∧ y.cell? ⟨g, a, none⟩ = some (.int .u64 (x.id : Int)) ∧ y.cell? ⟨g, a + 1, none⟩ = some (.bool x.edge) ∧ y.cell? ⟨g, a + 2, none⟩ = some (.slice x.LA x.labels.length x.lc) ∧ y.cell? ⟨g, a + 3, none⟩ = some (.string x.ty) ∧ y.cell? ⟨g, a + 4, none⟩ = some (.int .u64 (x.fr : Int)) ∧ y.cell? ⟨g, a + 5, none⟩ = some (.int .u64 (x.tw : Int)) ∧ y.cell? ⟨g, a + 6, none⟩ = some (.slice x.PA x.props.length x.pc) ∧ y.cell? ⟨w.heap.size + 1, 3, none⟩ = some FV ∧ y.frozen? ⟨w.heap.size + 1, 3, none⟩ = false ∧ QB w r IV FV RV y) : z.cell? ⟨w.heap.size, 3, none⟩ = some (.slice (some ⟨g, o, none⟩) r.fs.length r.fc) ∧ z.cell? ⟨g, a, none⟩ = some (.int .u64 (x.id : Int)) ∧ z.cell? ⟨g, a + 1, none⟩ = some (.bool x.edge) ∧ z.cell? ⟨g, a + 2, none⟩ = some (.slice x.LA x.labels.length x.lc) ∧ z.cell? ⟨g, a + 3, none⟩ = some (.string x.ty) ∧ z.cell? ⟨g, a + 4, none⟩ = some (.int .u64 (x.fr : Int)) ∧ z.cell? ⟨g, a + 5, none⟩ = some (.int .u64 (x.tw : Int)) ∧ z.cell? ⟨g, a + 6, none⟩ = some (.slice x.PA x.props.length x.pc) ∧ z.cell? ⟨w.heap.size + 1, 3, none⟩ = some FV ∧ z.frozen? ⟨w.heap.size + 1, 3, none⟩ = false ∧ QB w r IV FV RV z := s2_step hg (hb.mono h.2.2.2.2.2.2.2.2.2.2.hs) h
theorem grown_cell {w w' : World} {row : Option Nat} {g i : Nat} {u : Value} (hg : w.grownBy w' row) (h : w.cell? ⟨g, i, none⟩ = some u) (hlt : g < w.heap.size) (hne : row ≠ some g) : w'.cell? ⟨g, i, none⟩ = some u :=
  (World.cell?_of_block (w := w) (hg.block g hlt (fun e => hne e.symm))).trans h
theorem row_seven (w : World) (a b c d e f g : Value) (t : TypeId) : Row (w.alloc (.cells #[a, b, c, d, e, f, g] t)) (some ⟨w.heap.size, 0, none⟩) [a, b, c, d, e, f, g] := fun _ => ⟨_, rfl, fun j v hj => by
  have hb : Blk (w.alloc (.cells #[a, b, c, d, e, f, g] t)) w.heap.size t #[a, b, c, d, e, f, g] := Blk.new _ _ _
  rw [add_at, hb.cell, ← Array.getElem?_toList, Nat.zero_add]
  exact hj⟩
theorem row_three (w : World) (a b c : Value) (t : TypeId) : Row (w.alloc (.cells #[a, b, c] t)) (some ⟨w.heap.size, 0, none⟩) [a, b, c] := fun _ => ⟨_, rfl, fun j v hj => by
  have hb : Blk (w.alloc (.cells #[a, b, c] t)) w.heap.size t #[a, b, c] := Blk.new _ _ _
  rw [add_at, hb.cell, ← Array.getElem?_toList, Nat.zero_add]
  exact hj⟩

set_option maxHeartbeats 40000000 in
set_option maxRecDepth 100000 in
theorem replies_walk (r : Rep) (tell : Int) (dn : Bool) (w : World) (hr : r.wide w) (ht : Tab w) (hm : HasM w) :
    Calls Tryd.prog 5 #[.agg r.cells, .int .i64 tell, .bool dn] w fun e w' => e = .returned (.bool true) ∧ Below w.heap.size w w' := by
  obtain ⟨i30, hi30, hu0, hu1, hu2⟩ := info_parts info30
  obtain ⟨i43, hi43, hv0, hv1, hv2⟩ := info_parts info43
  obtain ⟨i46, hi46, hx0, hx1, hx2⟩ := info_parts info46
  obtain ⟨i48, hi48, hy0, hy1, hy2⟩ := info_parts info48
  have HR := Lib.hid hr
  have HT := Lib.hid ht
  have HM := Lib.hid hm
  have ha := and7 r.err
  have HC : Hid (r.cells = #[.int .i64 r.err, .int .u64 (r.id : Int), .slice r.IA r.ids.length r.ic, .slice r.FA r.fs.length r.fc, .slice r.RA r.rs.length r.rc]) := rfl
  clear hr ht hm
  unfold Rep.cells
  go_enter Tryd.func5, Tryd.ntmps5
  go_upto_if 24 with fail
  have HB0 := Lib.hid ((Blk.new w 39 r.cells).alloc (.cells #[.int .i64 (r.err % 8), .int .u64 (r.id : Int), .slice none 0 0, .slice none 0 0, .slice none 0 0] 39))
  have HB1 := Lib.hid (blk_new1 w (.cells r.cells 39) 39 #[.int .i64 (r.err % 8), .int .u64 (r.id : Int), .slice none 0 0, .slice none 0 0, .slice none 0 0])
  have HBB := Lib.hid (((Below.refl w.heap.size w).alloc (Nat.le_refl _) (.cells r.cells 39)).alloc (by simp) (.cells #[.int .i64 (r.err % 8), .int .u64 (r.id : Int), .slice none 0 0, .slice none 0 0, .slice none 0 0] 39))
  have HZ : Hid (w.heap.size + 2 ≤ ((w.alloc (.cells r.cells 39)).alloc (.cells #[.int .i64 (r.err % 8), .int .u64 (r.id : Int), .slice none 0 0, .slice none 0 0, .slice none 0 0] 39)).heap.size) := by show _ ≤ _; simp
  have HQ := Lib.hid (⟨HB0.out, HB1.out, HBB.out, HZ.out⟩ : QB w r (.slice none 0 0) (.slice none 0 0) (.slice none 0 0) _)
  rw [HC.out] at HQ
  clear HB0 HB1 HBB HZ ha
  generalize (w.alloc (.cells #[.int .i64 r.err, .int .u64 (r.id : Int), .slice r.IA r.ids.length r.ic, .slice r.FA r.fs.length r.fc, .slice r.RA r.rs.length r.rc] 39)).alloc (.cells #[.int .i64 (r.err % 8), .int .u64 (r.id : Int), .slice none 0 0, .slice none 0 0, .slice none 0 0] 39) = w0 at *
  have hidT : Hid (idT r.id = if r.id = 0 then okT else okT ++ ((⟨#[32]⟩ : ByteArray) ++ num (r.id : Int))) := rfl
  go_cut [8] (fun v wc => v = .string (idT r.id) ∧ QB w r (.slice none 0 0) (.slice none 0 0) (.slice none 0 0) wc)
  case first =>
    as_aux_lemma =>
    have c1 : w0.cell? ⟨w.heap.size + 1, 1, none⟩ = some (.int .u64 (r.id : Int)) := HQ.out.b1.cell 1
    have zid := num_size_u r.id HR.out.id
    by_cases h0 : r.id = 0
    · have e1 : idT r.id = okT := by rw [hidT.out, if_pos h0]
      have hn : ((r.id : Int) != 0) = false := by simpa using h0
      clear h0
      go_wp2_with fail
      go_meet
      exact ⟨by rw [e1]; rfl, HQ.out⟩
    · have e1 : Hid (idT r.id = okT ++ ((⟨#[32]⟩ : ByteArray) ++ num (r.id : Int))) := by show _ = _; rw [hidT.out, if_neg h0]
      have hn : ((r.id : Int) != 0) = true := by simpa using h0
      clear h0
      have HID := Lib.hid (fun w ht => fuint_ok r.id HR.out.id w ht)
      generalize num (r.id : Int) = TN at *
      generalize idT r.id = TI at *
      go_wp2_with (go_at_call 10; refine (HID.out _ (HT.out.below HQ.out.hb)).mono ?_; rintro e w1 ⟨rfl, hb⟩; have HB1 := Lib.hid hb; clear hb)
      go_meet
      exact ⟨by rw [e1.out]; rfl, HQ.out.up HB1.out⟩
  case rest =>
    obtain ⟨rfl, hqb⟩ := hcut
    have HQ1 := Lib.hid hqb
    clear hqb HQ hidT
    have hz1 := idT_size r.id HR.out.id
    go_upto_block 0 with fail
    go_cut [8] (fun v wc => ∃ (j : Nat) (IV : Value), j ≤ 5 ∧ j ≤ r.ids.length ∧ v = .string (idsL (idT r.id) r.ids j) ∧ QB w r IV (.slice none 0 0) (.slice none 0 0) wc ∧ Mid wc (w.heap.size + 2) 30 1 IV j ((r.ids.take j).map fun x : Nat => Value.int .u64 (x : Int)))
    case first =>
      as_aux_lemma =>
      have c2 : wc.cell? ⟨w.heap.size, 2, none⟩ = some (.slice r.IA r.ids.length r.ic) := HQ1.out.b0.cell 2
      go_wp2_with fail
      go_loopg [8, 9] (5 : Nat) (fun q v i wr => ∃ (j : Nat) (IV : Value), q + j = 5 ∧ j ≤ r.ids.length ∧ i = .int .i64 (j : Int) ∧ v = .string (idsL (idT r.id) r.ids j) ∧ QB w r IV (.slice none 0 0) (.slice none 0 0) wr ∧ Mid wr (w.heap.size + 2) 30 1 IV j ((r.ids.take j).map fun x : Nat => Value.int .u64 (x : Int)))
      case atStart => exact ⟨0, _, rfl, Nat.zero_le _, rfl, rfl, HQ1.out, Mid.nil _ _ _ _⟩
      case round =>
        obtain ⟨j, IV, hj, hjn, rfl, rfl, hq, hm⟩ := hrel
        have HN := Lib.hid hq
        have HMI := Lib.hid hm
        have c2 : wr.cell? ⟨w.heap.size, 2, none⟩ = some (.slice r.IA r.ids.length r.ic) := hq.b0.cell 2
        have hni := HR.out.ni
        have hzj := idsL_size r.id HR.out.id r.ids HR.out.ids j hjn
        clear hq hm HQ1
        by_cases hlt : j < r.ids.length ∧ j < 5
        · obtain ⟨h1, h2⟩ := hlt
          rcases HR.out.ri with h0 | ⟨g, o, eA, hg, hl⟩
          · exact absurd h1 (by rw [h0]; simp)
          have c3 := below_cell HN.out.hb hg (hl j h1)
          have c4 : wr.cell? ⟨w.heap.size + 1, 2, none⟩ = some IV := HN.out.b1.cell 2
          have HL0 := Lib.hid (hl j h1)
          have HS := Lib.hid (map_take (fun x : Nat => Value.int .u64 (x : Int)) r.ids j h1)
          have HID := Lib.hid (fun w ht => fuint_ok r.ids[j] (HR.out.ids _ (List.getElem_mem h1)) w ht)
          have zid := num_size_u r.ids[j] (HR.out.ids _ (List.getElem_mem h1))
          have HTX : Hid (idsL (idT r.id) r.ids (j + 1) = (idsL (idT r.id) r.ids j ++ (if j = 0 then (⟨#[32, 91]⟩ : ByteArray) else ⟨#[32]⟩)) ++ num (r.ids[j] : Int)) := by show _ = _; rw [idsL, getD_at _ _ _ h1]
          clear hl
          generalize r.ids[j] = n at *
          generalize num (n : Int) = TN at *
          generalize idsL (idT r.id) r.ids j = Tj at *
          rw [eA] at c2
          have HEA := Lib.hid eA
          clear eA
          have HOB : Hid (∀ q, IV.ownBlock = some q → w.heap.size + 2 ≤ q) := fun q hq => (HMI.out.block q hq).1
          go_upto_region 8 with fail
          have HSS := (⟨c2, c3, c4, HN.out.b1.frozen 2, HN.out⟩ : wr.cell? ⟨w.heap.size, 2, none⟩ = some (.slice (some ⟨g, o, none⟩) r.ids.length r.ic) ∧ wr.cell? ⟨g, o + j, none⟩ = some (.int .u64 (n : Int)) ∧ wr.cell? ⟨w.heap.size + 1, 2, none⟩ = some IV ∧ wr.frozen? ⟨w.heap.size + 1, 2, none⟩ = false ∧ QB w r IV (.slice none 0 0) (.slice none 0 0) wr)
          clear c2 c3 c4
          go_cut [50] (fun v wc => ∃ IV', QB w r IV' (.slice none 0 0) (.slice none 0 0) wc ∧ Mid wc (w.heap.size + 2) 30 1 IV' (j + 1) ((r.ids.take (j + 1)).map fun x : Nat => Value.int .u64 (x : Int)))
          case first =>
            as_aux_lemma =>
            refine wp_region_held_tail (fun w' => w'.cell? ⟨w.heap.size, 2, none⟩ = some (.slice (some ⟨g, o, none⟩) r.ids.length r.ic) ∧ w'.cell? ⟨g, o + j, none⟩ = some (.int .u64 (n : Int)) ∧ w'.cell? ⟨w.heap.size + 1, 2, none⟩ = some IV ∧ w'.frozen? ⟨w.heap.size + 1, 2, none⟩ = false ∧ QB w r IV (.slice none 0 0) (.slice none 0 0) w') 7 8 (by kernel_rfl) (by kernel_rfl) (s1_step hg (below_drew (Below.refl _ _)) HSS) ?_
            simp only [List.take_succ_cons, List.take_zero, List.drop_succ_cons, List.drop_zero]
            repeat
              refine take_step (v := ?_) rfl ?_ ?_
              rotate_left
              · (intro w hSw; (try dsimp only at hSw); go_simp; try with_reducible rfl)
              simp only [Act.put, List.setIfInBounds_toArray, List.set_cons_zero, List.set_cons_succ]
            refine take_nil ?_
            refine mid_step rfl (fun K hK => ?_)
            go_simp
            refine hK.out _ _ (s1_step hg (below_drew ((Below.refl _ _).alloc HN.out.hs _)) HSS) ?_
            clear hK K
            try simp only [Act.put, List.setIfInBounds_toArray, List.set_cons_zero, List.set_cons_succ]
            refine mid_nil ?_
            have HK := Lib.hid (s1_step hg (below_drew ((Below.refl _ _).alloc HN.out.hs (.cells #[.int .u64 (n : Int)] 30))) HSS)
            have q2 := HK.out.2.2.1
            have q3 := HK.out.2.2.2.1
            clear HSS
            go_wp2_with (refine wpList_append_mid _ rfl (.tmp 43) (.tmp 49) 35 rfl (w.heap.size + 2) 30 i30 _ 1 8 Tryd.underlying35 hi30 hu0 hu1 hu2 rfl (by decide) IV j _ (by rfl) (HMI.out.alloc _).drew (some ⟨wr.heap.size, 0, none⟩) 1 1 [.int .u64 (n : Int)] (by rfl) rfl (row_one _ _ _) (by simp [Value.oneCell']) (by simp only [maxLen]; omega) (by omega) HK.out.2.2.2.2.hs ?_; intro v1 w2 hm1 hg1 ho1; obtain ⟨A1, k1, rfl, hnc1, hcm1, _⟩ := hm1.form; have hK2 := s1_step hg ((Below.refl _ _).grown hg1 HK.out.2.2.2.2.hs HOB.out) HK.out; have d2 := hK2.2.2.1; have d3 := hK2.2.2.2.1; have HK2 := Lib.hid hK2; have HM1 := Lib.hid hm1; clear hK2 hm1 hg1 ho1 q2 q3)
            refine NoPanic.normal ?_
            go_wp2_with fail
            go_meet
            refine ⟨_, HK2.out.2.2.2.2.setI _, ?_⟩
            rw [HS.out]
            exact mid_set HM1.out (by show w.heap.size + 1 < w.heap.size + 2; omega) _
          case rest =>
            obtain ⟨IV', hq, hm⟩ := hcut
            have HN' := Lib.hid hq
            have HM' := Lib.hid hm
            have c2 : wc.cell? ⟨w.heap.size, 2, none⟩ = some (.slice (some ⟨g, o, none⟩) r.ids.length r.ic) := by rw [← HEA.out]; exact hq.b0.cell 2
            have c3 : wc.cell? ⟨g, o + j, none⟩ = some (.int .u64 (n : Int)) := by
              exact below_cell hq.hb hg HL0.out
            have HB' := Lib.hid (HT.out.below hq.hb)
            clear hq hm HN HMI HS HSS
            by_cases h0 : j = 0
            · have e1 : Hid (idsL (idT r.id) r.ids (j + 1) = (Tj ++ ⟨#[32, 91]⟩) ++ TN) := by show _ = _; rw [HTX.out, if_pos h0]
              have hn : ((j : Int) == 0) = true := by simpa using h0
              clear h0 HTX
              go_wp2_with (go_at_call 10; refine (HID.out _ HB'.out).mono ?_; rintro e w1 ⟨rfl, hb⟩; have HB1 := Lib.hid hb; clear hb)
              go_roundg (gk - 1)
              case measure => omega
              case rel => exact ⟨j + 1, IV', by omega, by omega, by go_num, by rw [e1.out], HN'.out.up HB1.out, mid_up HM'.out HB1.out⟩
            · have e1 : Hid (idsL (idT r.id) r.ids (j + 1) = (Tj ++ ⟨#[32]⟩) ++ TN) := by show _ = _; rw [HTX.out, if_neg h0]
              have hn : ((j : Int) == 0) = false := by simpa using h0
              clear h0 HTX
              go_wp2_with (go_at_call 10; refine (HID.out _ HB'.out).mono ?_; rintro e w1 ⟨rfl, hb⟩; have HB1 := Lib.hid hb; clear hb)
              go_roundg (gk - 1)
              case measure => omega
              case rel => exact ⟨j + 1, IV', by omega, by omega, by go_num, by rw [e1.out], HN'.out.up HB1.out, mid_up HM'.out HB1.out⟩
        · by_cases h1 : j < r.ids.length
          · have h2 : ¬ j < 5 := fun h => hlt ⟨h1, h⟩
            go_wp2_with fail
            go_meet
            exact ⟨j, IV, by omega, hjn, rfl, HN.out, HMI.out⟩
          · go_wp2_with fail
            go_meet
            exact ⟨j, IV, by omega, hjn, rfl, HN.out, HMI.out⟩
    case rest =>
      obtain ⟨j1, IV, hj5, hjn, rfl, hqb, hmi⟩ := hcut
      obtain ⟨IA, ic, rfl, hic1, hic2, _⟩ := hmi.form
      have HQ2 := Lib.hid hqb
      have HMI := Lib.hid hmi
      clear hqb hmi HQ1
      have hzi := idsL_size r.id HR.out.id r.ids HR.out.ids j1 hjn
      have hz2 := idsT2_size r.id HR.out.id (r.ids.take j1) (fun x hx => HR.out.ids x (List.mem_of_mem_take hx)) (by rw [List.length_take]; omega)
      have c2 : wc.cell? ⟨w.heap.size + 1, 2, none⟩ = some (.slice IA j1 ic) := HQ2.out.b1.cell 2
      go_upto_if 69 with fail
      go_cut [8] (fun v wc => v = .string (idsT2 r.id (r.ids.take j1)) ∧ QB w r (.slice IA j1 ic) (.slice none 0 0) (.slice none 0 0) wc ∧ Mid wc (w.heap.size + 2) 30 1 (.slice IA j1 ic) j1 ((r.ids.take j1).map fun x : Nat => Value.int .u64 (x : Int)))
      case first =>
        as_aux_lemma =>
        by_cases h0 : j1 = 0
        · subst h0
          go_wp2_with fail
          go_meet
          exact ⟨rfl, HQ2.out, HMI.out⟩
        · have e1 := Lib.hid (idsL_all r.id r.ids j1 h0 hjn)
          have h1 : 0 < j1 := by omega
          clear h0
          generalize idsL (idT r.id) r.ids j1 = T1 at *
          generalize idsT2 r.id (r.ids.take j1) = T2 at *
          go_wp2_with fail
          go_meet
          exact ⟨by rw [e1.out], HQ2.out, HMI.out⟩
      case rest =>
        obtain ⟨rfl, hqb, hmi⟩ := hcut
        have HQ3 := Lib.hid hqb
        have HMJ := Lib.hid hmi
        clear hqb hmi HQ2 HMI hzi c2
        go_upto_block 2 with fail
        go_cut [8] (fun v wc => ∃ (j : Nat) (FV : Value) (fl : List Inf), j ≤ 3 ∧ j ≤ r.fs.length ∧ v = .string (spT (idsT2 r.id (r.ids.take j1)) ((r.fs.take j).map fun x => x.nearN.txt)) ∧ QB w r (.slice IA j1 ic) FV (.slice none 0 0) wc ∧ Mid wc (w.heap.size + 2) 30 1 (.slice IA j1 ic) j1 ((r.ids.take j1).map fun x : Nat => Value.int .u64 (x : Int)) ∧ FSt w r FV j fl wc)
        case first =>
          have c3 : wc.cell? ⟨w.heap.size, 3, none⟩ = some (.slice r.FA r.fs.length r.fc) := HQ3.out.b0.cell 3
          go_wp2_with fail
          go_loopg [8, 10] (3 : Nat) (fun q v i wr => ∃ (j : Nat) (FV : Value) (fl : List Inf), q + j = 3 ∧ j ≤ r.fs.length ∧ i = .int .i64 (j : Int) ∧ v = .string (spT (idsT2 r.id (r.ids.take j1)) ((r.fs.take j).map fun x => x.nearN.txt)) ∧ QB w r (.slice IA j1 ic) FV (.slice none 0 0) wr ∧ Mid wr (w.heap.size + 2) 30 1 (.slice IA j1 ic) j1 ((r.ids.take j1).map fun x : Nat => Value.int .u64 (x : Int)) ∧ FSt w r FV j fl wr)
          case atStart => exact ⟨0, _, [], rfl, Nat.zero_le _, rfl, rfl, HQ3.out, HMJ.out, Mid.nil _ _ _ _, rfl, fun f hf => by cases hf⟩
          case round =>
            obtain ⟨j, FV, fl, hj, hjf, rfl, rfl, hq, hmi, hfs⟩ := hrel
            have HN := Lib.hid hq
            have HMI := Lib.hid hmi
            have HF := Lib.hid hfs
            have c3 : wr.cell? ⟨w.heap.size, 3, none⟩ = some (.slice r.FA r.fs.length r.fc) := hq.b0.cell 3
            have hnf := HR.out.nf
            clear hq hmi hfs HQ3 HMJ
            have hzs : (spT (idsT2 r.id (r.ids.take j1)) ((r.fs.take j).map fun x => x.nearN.txt)).size ≤ 100000000000 := by
              have := spT_size 20000000 ((r.fs.take j).map fun x => x.nearN.txt) (idsT2 r.id (r.ids.take j1)) (fun y hy => by
                obtain ⟨x, hx, rfl⟩ := List.mem_map.1 hy
                exact Inf.txt_size0 (Inf.nearN_ok0 (HR.out.fw x (List.mem_of_mem_take hx))))
              rw [List.length_map, List.length_take] at this
              have h2 : min j r.fs.length ≤ 3 := by omega
              have h3 : min j r.fs.length * (20000000 + 1) ≤ 3 * (20000000 + 1) := Nat.mul_le_mul_right _ h2
              omega
            by_cases hlt : j < r.fs.length ∧ j < 3
            · obtain ⟨h1, h2⟩ := hlt
              rcases HR.out.rf with h0 | ⟨g, o, eA, hg, hl⟩
              · exact absurd h1 (by rw [h0]; simp)
              obtain ⟨d0, d1, d2, d3, d4, d5, d6⟩ := hl j h1
              have e0 := below_cell HN.out.hb hg d0
              have e1 := below_cell HN.out.hb hg d1
              have e2 := below_cell HN.out.hb hg d2
              have e3 := below_cell HN.out.hb hg d3
              have e4 := below_cell HN.out.hb hg d4
              have e5 := below_cell HN.out.hb hg d5
              have e6 := below_cell HN.out.hb hg d6
              have HD := Lib.hid (hl j h1)
              have c4 : wr.cell? ⟨w.heap.size + 1, 3, none⟩ = some FV := HN.out.b1.cell 3
              have hxw := HR.out.fw _ (List.getElem_mem h1)
              have HSN := Lib.hid (map_take Inf.nearN r.fs j h1)
              have HTX := Lib.hid (spT_snoc (fun x : Inf => x.nearN.txt) (idsT2 r.id (r.ids.take j1)) r.fs j h1)
              have hz0 := Inf.txt_size0 (Inf.nearN_ok0 hxw)
              clear hl d0 d1 d2 d3 d4 d5 d6
              generalize r.fs[j] = x at *
              have HXW := Lib.hid hxw
              have HTN : Hid (∀ y : Inf, y.N = x.nearN → y.txt = x.nearN.txt) := fun y hy => by rw [← Inf.N_txt, hy]
              clear hxw
              generalize x.nearN.txt = TN at *
              generalize spT (idsT2 r.id (r.ids.take j1)) ((r.fs.take j).map fun x => x.nearN.txt) = Tj at *
              have HNR : Hid (∀ y, Below w.heap.size w y → Calls Tryd.prog 13 #[.agg #[.int .u64 (x.id : Int), .bool x.edge, .slice x.LA x.labels.length x.lc, .string x.ty, .int .u64 (x.fr : Int), .int .u64 (x.tw : Int), .slice x.PA x.props.length x.pc]] y (NearPost x y)) := fun y hb => near_info x y (HXW.out.below hb)
              rw [eA] at c3
              have HEA := Lib.hid eA
              clear eA
              have HOB : Hid (∀ q, FV.ownBlock = some q → w.heap.size + 2 ≤ q) := fun q hq => (HF.out.m.block q hq).1
              go_upto_region 18 with fail
              have HSS := (⟨c3, e0, e1, e2, e3, e4, e5, e6, c4, HN.out.b1.frozen 3, HN.out⟩ : wr.cell? ⟨w.heap.size, 3, none⟩ = some (.slice (some ⟨g, o, none⟩) r.fs.length r.fc) ∧ wr.cell? ⟨g, o + j * 7, none⟩ = some (.int .u64 (x.id : Int)) ∧ wr.cell? ⟨g, o + j * 7 + 1, none⟩ = some (.bool x.edge) ∧ wr.cell? ⟨g, o + j * 7 + 2, none⟩ = some (.slice x.LA x.labels.length x.lc) ∧ wr.cell? ⟨g, o + j * 7 + 3, none⟩ = some (.string x.ty) ∧ wr.cell? ⟨g, o + j * 7 + 4, none⟩ = some (.int .u64 (x.fr : Int)) ∧ wr.cell? ⟨g, o + j * 7 + 5, none⟩ = some (.int .u64 (x.tw : Int)) ∧ wr.cell? ⟨g, o + j * 7 + 6, none⟩ = some (.slice x.PA x.props.length x.pc) ∧ wr.cell? ⟨w.heap.size + 1, 3, none⟩ = some FV ∧ wr.frozen? ⟨w.heap.size + 1, 3, none⟩ = false ∧ QB w r (.slice IA j1 ic) FV (.slice none 0 0) wr)
              clear c3 c4 e0 e1 e2 e3 e4 e5 e6
              go_cut [92] (fun v wc => ∃ FV' fl', QB w r (.slice IA j1 ic) FV' (.slice none 0 0) wc ∧ Mid wc (w.heap.size + 2) 30 1 (.slice IA j1 ic) j1 ((r.ids.take j1).map fun x : Nat => Value.int .u64 (x : Int)) ∧ FSt w r FV' (j + 1) fl' wc)
              case first =>
                refine wp_region_held_tail (fun w' => w'.cell? ⟨w.heap.size, 3, none⟩ = some (.slice (some ⟨g, o, none⟩) r.fs.length r.fc) ∧ w'.cell? ⟨g, o + j * 7, none⟩ = some (.int .u64 (x.id : Int)) ∧ w'.cell? ⟨g, o + j * 7 + 1, none⟩ = some (.bool x.edge) ∧ w'.cell? ⟨g, o + j * 7 + 2, none⟩ = some (.slice x.LA x.labels.length x.lc) ∧ w'.cell? ⟨g, o + j * 7 + 3, none⟩ = some (.string x.ty) ∧ w'.cell? ⟨g, o + j * 7 + 4, none⟩ = some (.int .u64 (x.fr : Int)) ∧ w'.cell? ⟨g, o + j * 7 + 5, none⟩ = some (.int .u64 (x.tw : Int)) ∧ w'.cell? ⟨g, o + j * 7 + 6, none⟩ = some (.slice x.PA x.props.length x.pc) ∧ w'.cell? ⟨w.heap.size + 1, 3, none⟩ = some FV ∧ w'.frozen? ⟨w.heap.size + 1, 3, none⟩ = false ∧ QB w r (.slice IA j1 ic) FV (.slice none 0 0) w') 7 9 (by kernel_rfl) (by kernel_rfl) (s2_step hg (below_drew (Below.refl _ _)) HSS) ?_
                simp only [List.take_succ_cons, List.take_zero, List.drop_succ_cons, List.drop_zero]
                repeat
                  refine take_step (v := ?_) rfl ?_ ?_
                  rotate_left
                  · (intro w hSw; (try dsimp only at hSw); go_simp; try with_reducible rfl)
                  simp only [Act.put, List.setIfInBounds_toArray, List.set_cons_zero, List.set_cons_succ]
                refine take_nil ?_
                refine mid_step rfl (fun K hK => ?_)
                go_simp
                refine (HNR.out _ (below_drew HN.out.hb)).mono ?_
                intro e w1 hnp
                obtain ⟨y, rfl, hyN, hb, how⟩ := near_use hnp
                have HSS1 := s2_up hg hb (s2_step hg (below_drew (Below.refl _ _)) HSS)
                have HOW := Lib.hid (how.mono HN.out.hs)
                have HF1 := Lib.hid (HF.out.up ((below_drew (Below.refl _ _)).trans hb))
                have HMI1 := Lib.hid (mid_up (mid_up HMI.out (below_drew (Below.refl _ _))) hb)
                have HYN := Lib.hid hyN
                clear hnp hb how hyN
                refine hK.out _ _ (HSS1) ?_
                clear hK K
                try simp only [Act.put, List.setIfInBounds_toArray, List.set_cons_zero, List.set_cons_succ]
                refine mid_step rfl (fun K hK => ?_)
                go_simp
                refine hK.out _ _ (s2_step hg ((Below.refl _ _).alloc HSS1.2.2.2.2.2.2.2.2.2.2.hs _) HSS1) ?_
                clear hK K
                try simp only [Act.put, List.setIfInBounds_toArray, List.set_cons_zero, List.set_cons_succ]
                refine mid_nil ?_
                have HK := Lib.hid (s2_step hg ((Below.refl _ _).alloc HSS1.2.2.2.2.2.2.2.2.2.2.hs (.cells #[.int .u64 (y.id : Int), .bool y.edge, .slice y.LA y.labels.length y.lc, .string y.ty, .int .u64 (y.fr : Int), .int .u64 (y.tw : Int), .slice y.PA y.props.length y.pc] 43)) HSS1)
                have q2 := HK.out.2.2.2.2.2.2.2.2.1
                have q3 := HK.out.2.2.2.2.2.2.2.2.2.1
                clear HSS1 HSS
                go_wp2_with (refine wpList_append_mid _ rfl (.tmp 84) (.tmp 91) 36 rfl (w.heap.size + 2) 43 i43 _ 7 96 Tryd.underlying36 hi43 hv0 hv1 hv2 rfl (by decide) FV j _ (by rfl) (mid_up HF1.out.m ((Below.refl _ _).alloc (Nat.le_refl _) _)) (some ⟨w1.heap.size, 0, none⟩) 1 1 [.int .u64 (y.id : Int), .bool y.edge, .slice y.LA y.labels.length y.lc, .string y.ty, .int .u64 (y.fr : Int), .int .u64 (y.tw : Int), .slice y.PA y.props.length y.pc] (by rfl) rfl (row_seven _ _ _ _ _ _ _ _ _) (by simp [Value.oneCell']) (by simp only [maxLen]; omega) (by omega) HK.out.2.2.2.2.2.2.2.2.2.2.hs ?_; intro v1 w2 hm1 hg1 ho1; have HMI2 := Lib.hid (mid_grown (HMI1.out.alloc _) (HF1.out.m.alloc _) (by decide) hg1); have HOW2 : Hid (∀ f ∈ fl ++ [y], f.own (w.heap.size + 2) w2) := fun f hf => (by rcases List.mem_append.1 hf with h | h; exact ((HF1.out.own f h).up ((Below.refl _ _).alloc (Nat.le_refl _) _)).grown (HF1.out.m.alloc _) (by decide) (by decide) hg1; rw [List.mem_singleton.1 h]; exact (HOW.out.up ((Below.refl _ _).alloc (Nat.le_refl _) _)).grown (HF1.out.m.alloc _) (by decide) (by decide) hg1); obtain ⟨A1, k1, rfl, hnc1, hcm1, _⟩ := hm1.form; have hK2 := s2_step hg ((Below.refl _ _).grown hg1 HK.out.2.2.2.2.2.2.2.2.2.2.hs HOB.out) HK.out; have d2 := hK2.2.2.2.2.2.2.2.2.1; have d3 := hK2.2.2.2.2.2.2.2.2.2.1; have HK2 := Lib.hid hK2; have HM1 := Lib.hid hm1; clear hK2 hm1 hg1 ho1 q2 q3)
                refine NoPanic.normal ?_
                go_wp2_with fail
                go_meet
                refine ⟨_, fl ++ [y], HK2.out.2.2.2.2.2.2.2.2.2.2.setF _, mid_set HMI2.out (by show w.heap.size + 1 < w.heap.size + 2; omega) _, mid_set ?_ (by show w.heap.size + 1 < w.heap.size + 2; omega) _, ?_, fun f hf => (HOW2.out f hf).set (by show w.heap.size + 1 < w.heap.size + 2; omega) _⟩
                · rw [List.flatMap_append]
                  exact HM1.out
                · rw [HSN.out, List.map_append, HF.out.n, List.map_cons, List.map_nil, HYN.out]
              case rest =>
                obtain ⟨FV', fl', hq, hmi, hfs⟩ := hcut
                have HN' := Lib.hid hq
                have HMI' := Lib.hid hmi
                have HF' := Lib.hid hfs
                have c3 : wc.cell? ⟨w.heap.size, 3, none⟩ = some (.slice (some ⟨g, o, none⟩) r.fs.length r.fc) := by rw [← HEA.out]; exact hq.b0.cell 3
                obtain ⟨d0, d1, d2, d3, d4, d5, d6⟩ := HD.out
                have e0 := below_cell hq.hb hg d0
                have e1 := below_cell hq.hb hg d1
                have e2 := below_cell hq.hb hg d2
                have e3 := below_cell hq.hb hg d3
                have e4 := below_cell hq.hb hg d4
                have e5 := below_cell hq.hb hg d5
                have e6 := below_cell hq.hb hg d6
                clear hq hmi hfs HN HMI HF HSS d0 d1 d2 d3 d4 d5 d6 HSN
                go_wp2_with (first
                  | (go_at_call 13; refine (HNR.out _ HN'.out.hb).mono ?_; intro e w1 hnp; obtain ⟨y, rfl, hyN, hb, how⟩ := near_use hnp; have HOW := Lib.hid how; have HYN := Lib.hid hyN; have HB1 := Lib.hid hb; clear hnp hb how hyN; have HIL : Hid (Calls Tryd.prog 14 #[.agg #[.int .u64 (y.id : Int), .bool y.edge, .slice y.LA y.labels.length y.lc, .string y.ty, .int .u64 (y.fr : Int), .int .u64 (y.tw : Int), .slice y.PA y.props.length y.pc]] w1 fun e w' => e = .returned (.string TN) ∧ Below w1.heap.size w1 w') := (by have := info_law y w1 (HOW.out.ok (near_ok HXW.out HYN.out)) (HT.out.below (HN'.out.up HB1.out).hb); rw [HTN.out y HYN.out] at this; exact this))
                  | (go_at_call 14; refine HIL.out.mono ?_; rintro e w2 ⟨rfl, hb⟩; have HB2 := Lib.hid (HB1.out.trans (hb.mono HB1.out.size)); clear hb))
                go_roundg (gk - 1)
                case measure => omega
                case rel => exact ⟨j + 1, FV', fl', by omega, by omega, by go_num, by rw [HTX.out], HN'.out.up HB2.out, mid_up HMI'.out HB2.out, HF'.out.up HB2.out⟩
            · by_cases h1 : j < r.fs.length
              · have h2 : ¬ j < 3 := fun h => hlt ⟨h1, h⟩
                go_wp2_with fail
                go_meet
                exact ⟨j, FV, fl, by omega, hjf, rfl, HN.out, HMI.out, HF.out⟩
              · go_wp2_with fail
                go_meet
                exact ⟨j, FV, fl, by omega, hjf, rfl, HN.out, HMI.out, HF.out⟩
        case rest =>
          obtain ⟨j2, FV, fl, hj3, hjf, rfl, hqb, hmi, hfs⟩ := hcut
          obtain ⟨FA, fc, rfl, hfc1, hfc2, _⟩ := hfs.m.form
          have HQ4 := Lib.hid hqb
          have HMK := Lib.hid hmi
          have HF := Lib.hid hfs
          clear hqb hmi hfs HQ3 HMJ
          have hzs : (spT (idsT2 r.id (r.ids.take j1)) ((r.fs.take j2).map fun x => x.nearN.txt)).size ≤ 100000000000 := by
            have := spT_size 20000000 ((r.fs.take j2).map fun x => x.nearN.txt) (idsT2 r.id (r.ids.take j1)) (fun y hy => by
              obtain ⟨x, hx, rfl⟩ := List.mem_map.1 hy
              exact Inf.txt_size0 (Inf.nearN_ok0 (HR.out.fw x (List.mem_of_mem_take hx))))
            rw [List.length_map, List.length_take] at this
            have h2 : min j2 r.fs.length ≤ 3 := by omega
            have h3 : min j2 r.fs.length * (20000000 + 1) ≤ 3 * (20000000 + 1) := Nat.mul_le_mul_right _ h2
            omega
          have HR2 : Hid (∀ rs : List Rw, replyT r.id (r.ids.take j1) fl rs = spT (spT (idsT2 r.id (r.ids.take j1)) ((r.fs.take j2).map fun x => x.nearN.txt)) (rs.map fun x => rowT x.vs)) := fun rs => by unfold replyT; rw [HF.out.txts]
          generalize spT (idsT2 r.id (r.ids.take j1)) ((r.fs.take j2).map fun x => x.nearN.txt) = R2 at *
          go_upto_block 4 with fail
          go_cut [8] (fun v wc => ∃ (j : Nat) (RV : Value) (rl : List Rw), j ≤ 3 ∧ j ≤ r.rs.length ∧ v = .string (spT R2 ((r.rs.take j).map fun x => rowT ((x.vs.take 3).map Vl.near))) ∧ QB w r (.slice IA j1 ic) (.slice FA j2 fc) RV wc ∧ Mid wc (w.heap.size + 2) 30 1 (.slice IA j1 ic) j1 ((r.ids.take j1).map fun x : Nat => Value.int .u64 (x : Int)) ∧ FSt w r (.slice FA j2 fc) j2 fl wc ∧ RSt w r RV j rl wc)
          case first =>
            as_aux_lemma =>
            have c5 : wc.cell? ⟨w.heap.size, 4, none⟩ = some (.slice r.RA r.rs.length r.rc) := HQ4.out.b0.cell 4
            go_wp2_with fail
            go_loopg [8, 11] (3 : Nat) (fun q v i wr => ∃ (j : Nat) (RV : Value) (rl : List Rw), q + j = 3 ∧ j ≤ r.rs.length ∧ i = .int .i64 (j : Int) ∧ v = .string (spT R2 ((r.rs.take j).map fun x => rowT ((x.vs.take 3).map Vl.near))) ∧ QB w r (.slice IA j1 ic) (.slice FA j2 fc) RV wr ∧ Mid wr (w.heap.size + 2) 30 1 (.slice IA j1 ic) j1 ((r.ids.take j1).map fun x : Nat => Value.int .u64 (x : Int)) ∧ FSt w r (.slice FA j2 fc) j2 fl wr ∧ RSt w r RV j rl wr)
            case atStart => exact ⟨0, _, [], rfl, Nat.zero_le _, rfl, rfl, HQ4.out, HMK.out, HF.out, Mid.nil _ _ _ _, rfl, fun f hf => by cases hf⟩
            case round =>
              obtain ⟨j, RV, rl, hj, hjr, rfl, rfl, hq, hmi, hfs, hrs⟩ := hrel
              have HN := Lib.hid hq
              have HMI := Lib.hid hmi
              have HFS := Lib.hid hfs
              have HRS := Lib.hid hrs
              have c5 : wr.cell? ⟨w.heap.size, 4, none⟩ = some (.slice r.RA r.rs.length r.rc) := hq.b0.cell 4
              have hnr := HR.out.nr
              clear hq hmi hfs hrs HQ4 HMK HF
              have hzj : (spT R2 ((r.rs.take j).map fun x => rowT ((x.vs.take 3).map Vl.near))).size ≤ 1000000000000 := by
                have := spT_size 10000000 ((r.rs.take j).map fun x => rowT ((x.vs.take 3).map Vl.near)) R2 (fun y hy => by
                  obtain ⟨x, hx, rfl⟩ := List.mem_map.1 hy
                  exact rowT_size _ (nears_short (HR.out.rw x (List.mem_of_mem_take hx)).1) (by rw [List.length_map, List.length_take]; omega))
                rw [List.length_map, List.length_take] at this
                have h2 : min j r.rs.length ≤ 3 := by omega
                have h3 : min j r.rs.length * (10000000 + 1) ≤ 3 * (10000000 + 1) := Nat.mul_le_mul_right _ h2
                omega
              by_cases hlt : j < r.rs.length ∧ j < 3
              · obtain ⟨h1, h2⟩ := hlt
                rcases HR.out.rr with h0 | ⟨g, o, eA, hg, hl⟩
                · exact absurd h1 (by rw [h0]; simp)
                have HXW := Lib.hid (HR.out.rw _ (List.getElem_mem h1))
                have HD := Lib.hid (hl j h1)
                have HSN := Lib.hid (map_take (fun x : Rw => (x.vs.take 3).map Vl.near) r.rs j h1)
                have HTX := Lib.hid (spT_snoc (fun x : Rw => rowT ((x.vs.take 3).map Vl.near)) R2 r.rs j h1)
                clear hl
                generalize r.rs[j] = x at *
                generalize spT R2 ((r.rs.take j).map fun x => rowT ((x.vs.take 3).map Vl.near)) = Tj at *
                have HNS := Lib.hid (nears_short HXW.out.1)
                have hnl : ((x.vs.take 3).map Vl.near).length = min 3 x.vs.length := by rw [List.length_map, List.length_take]
                have HNL := Lib.hid hnl
                clear hnl
                rw [eA] at c5
                have HEA := Lib.hid eA
                clear eA
                obtain ⟨wo, rfl⟩ : ∃ wo : World, wo = wr := ⟨_, rfl⟩
                have hd : decide ((j : Int) < 3) = true := by simp; omega
                go_upto_block 6 with fail
                have HBA := Lib.hid ((Below.refl wo.heap.size wo).alloc (Nat.le_refl _) (.cells #[] 48))
                have HMC : Hid (Mid (wo.alloc (.cells #[] 48)) wo.heap.size 48 3 (.slice (some ⟨wo.heap.size, 0, none⟩) 0 0) 0 []) := ⟨by simp, .inr ⟨wo.heap.size, 0, 0, #[], rfl, Nat.le_refl _, Blk.new wo 48 #[], Nat.le_refl _, by simp [maxLen], by simp, by simp⟩⟩
                clear c5
                generalize wo.alloc (.cells #[] 48) = wa at *
                have HNV : Hid (∀ (k : Nat) (h : k < x.vs.length), k < 3 → ∃ h', ((x.vs.take 3).map Vl.near)[k]'h' = (x.vs[k]).near) := fun k h h3 => ⟨by rw [HNL.out]; omega, by simp⟩
                have HRA : Hid (∀ y, rowL (y ++ ⟨#[32, 40]⟩) ((x.vs.take 3).map Vl.near) ((x.vs.take 3).map Vl.near).length ++ ⟨#[41]⟩ = y ++ ((⟨#[32]⟩ : ByteArray) ++ rowT ((x.vs.take 3).map Vl.near))) := fun y => rowL_all y _
                have hzt : (Tj ++ (⟨#[32, 40]⟩ : ByteArray)).size ≤ 1000000000002 := by rw [ByteArray.size_append, show (⟨#[32, 40]⟩ : ByteArray).size = 2 from rfl]; omega
                generalize (x.vs.take 3).map Vl.near = nv at *
                have HRB := Lib.hid (HRA.out Tj)
                generalize Tj ++ (⟨#[32, 40]⟩ : ByteArray) = S0 at *
                have hzw := rowL_size S0 nv HNS.out nv.length (Nat.le_refl _)
                go_cut [8, 12] (fun v cv wc => v = .string (rowL S0 nv nv.length) ∧ Below wo.heap.size wo wc ∧ Mid wc wo.heap.size 48 3 cv nv.length (nv.flatMap Vl.cs))
                case first =>
                  as_aux_lemma =>
                  have HQA := Lib.hid (HN.out.up HBA.out)
                  have c5 : wa.cell? ⟨w.heap.size, 4, none⟩ = some (.slice (some ⟨g, o, none⟩) r.rs.length r.rc) := by rw [← HEA.out]; exact HQA.out.b0.cell 4
                  have c6 := below_cell HQA.out.hb hg HD.out
                  go_wp2_with fail
                  go_loopg [8, 12, 13] (3 : Nat) (fun q v cv i wr => ∃ (k : Nat), q + k = 3 ∧ k ≤ x.vs.length ∧ i = .int .i64 (k : Int) ∧ v = .string (rowL S0 nv k) ∧ Below wo.heap.size wo wr ∧ Mid wr wo.heap.size 48 3 cv k ((nv.take k).flatMap Vl.cs))
                  case atStart => exact ⟨0, rfl, Nat.zero_le _, rfl, rfl, HBA.out, HMC.out⟩
                  case round =>
                    obtain ⟨k, hk, hkn, rfl, rfl, hbz, hmz⟩ := hrel
                    have HBZ := Lib.hid hbz
                    have HMZ := Lib.hid hmz
                    have HQZ := Lib.hid (HN.out.up hbz)
                    have HTZ := Lib.hid (HT.out.below HQZ.out.hb)
                    have c5 : wr.cell? ⟨w.heap.size, 4, none⟩ = some (.slice (some ⟨g, o, none⟩) r.rs.length r.rc) := by rw [← HEA.out]; exact HQZ.out.b0.cell 4
                    have c6 := below_cell HQZ.out.hb hg HD.out
                    have hnx := HXW.out.2.1
                    have hkl : k ≤ nv.length := by rw [HNL.out]; omega
                    have hzk := rowL_size S0 nv HNS.out k hkl
                    have hsz := hbz.size
                    clear hbz hmz HQA
                    by_cases hlt2 : k < x.vs.length ∧ k < 3
                    · obtain ⟨h3, h4⟩ := hlt2
                      rcases HXW.out.2.2 with h0 | ⟨g2, o2, eX, hg2, hl2⟩
                      · exact absurd h3 (by rw [h0]; simp)
                      obtain ⟨d0, d1, d2⟩ := hl2 k h3
                      have e0 := below_cell HQZ.out.hb hg2 d0
                      have e1 := below_cell HQZ.out.hb hg2 d1
                      have e2 := below_cell HQZ.out.hb hg2 d2
                      have hvo := HXW.out.1 _ (List.getElem_mem h3)
                      obtain ⟨h', hnk⟩ := HNV.out k h3 h4
                      have HFT := Lib.hid (flat_take Vl.cs nv k h')
                      have HRT : Hid (rowL S0 nv (k + 1) = (if k = 0 then rowL S0 nv k else rowL S0 nv k ++ ⟨#[44, 32]⟩) ++ (nv[k]).txt) := by show _ = _; rw [rowL, getD_at _ _ _ h']
                      have hns := HNS.out _ (List.getElem_mem h')
                      rw [hnk] at HFT HRT hns
                      clear hl2 d0 d1 d2 hnk
                      generalize x.vs[k] = v at *
                      have HV := Lib.hid (fun w => near_val v hvo w)
                      have HV2 := Lib.hid (fun w ht => value_law v.near hns w ht)
                      have hzv := v.near.txt_size hns
                      have HCS : Hid (v.near.cs = [.int .i64 v.near.k, .int .i64 v.near.n, .string v.near.s]) := rfl
                      generalize v.near.txt = VT at *
                      generalize v.near = nn at *
                      obtain ⟨va, vb, vc⟩ := v
                      obtain ⟨na, nb, nc⟩ := nn
                      unfold Vl.val at HV HV2
                      simp only at e0 e1 e2 HV HV2 HCS
                      generalize rowL S0 nv k = Sk at *
                      rw [eX] at c6
                      clear hvo hns
                      go_upto_region 29 with (go_at_call 15; refine (HV.out _).mono ?_; rintro e w1 ⟨rfl, hb⟩; have HB1 := Lib.hid hb; clear hb)
                      have HB2 := Lib.hid (HB1.out.alloc HB1.out.size (.cells #[.int .i64 na, .int .i64 nb, .string nc] 48))
                      have HBK := Lib.hid (Blk.new w1 48 #[.int .i64 na, .int .i64 nb, .string nc])
                      have b0 : (w1.alloc (.cells #[.int .i64 na, .int .i64 nb, .string nc] 48)).cell? ⟨w1.heap.size, 0, none⟩ = some (.int .i64 na) := HBK.out.cell 0
                      have b1 : (w1.alloc (.cells #[.int .i64 na, .int .i64 nb, .string nc] 48)).cell? ⟨w1.heap.size, 1, none⟩ = some (.int .i64 nb) := HBK.out.cell 1
                      have b2 : (w1.alloc (.cells #[.int .i64 na, .int .i64 nb, .string nc] 48)).cell? ⟨w1.heap.size, 2, none⟩ = some (.string nc) := HBK.out.cell 2
                      have HZB : Hid (w1.heap.size < (w1.alloc (.cells #[.int .i64 na, .int .i64 nb, .string nc] 48)).heap.size) := by show _ < _; simp
                      have HS1 := Lib.hid HB1.out.size
                      have HMB := Lib.hid (mid_up HMZ.out HB2.out)
                      have HNE : Hid (∀ q, u12.ownBlock = some q → q < w1.heap.size) := fun q hq => by
                        obtain ⟨_, cur, hc⟩ := HMZ.out.block q hq
                        exact Nat.lt_of_lt_of_le hc.lt HS1.out
                      clear c5 c6 e0 e1 e2 HBK
                      generalize w1.alloc (.cells #[.int .i64 na, .int .i64 nb, .string nc] 48) = wb at *
                      have HOB : Hid (∀ q, u12.ownBlock = some q → wo.heap.size ≤ q) := fun q hq => (HMZ.out.block q hq).1
                      have HBO := Lib.hid ((HBZ.out.trans (HB2.out.mono hsz)).alloc (Nat.le_trans hsz (Nat.le_trans HS1.out (Nat.le_of_lt HZB.out))) (.cells #[.int .i64 na, .int .i64 nb, .string nc] 48))
                      have HBS := Lib.hid HBO.out.size
                      have q0 : (wb.alloc (.cells #[.int .i64 na, .int .i64 nb, .string nc] 48)).cell? ⟨w1.heap.size, 0, none⟩ = some (.int .i64 na) := below_cell ((Below.refl wb.heap.size wb).alloc (Nat.le_refl _) _) HZB.out b0
                      have q1 : (wb.alloc (.cells #[.int .i64 na, .int .i64 nb, .string nc] 48)).cell? ⟨w1.heap.size, 1, none⟩ = some (.int .i64 nb) := below_cell ((Below.refl wb.heap.size wb).alloc (Nat.le_refl _) _) HZB.out b1
                      have q2 : (wb.alloc (.cells #[.int .i64 na, .int .i64 nb, .string nc] 48)).cell? ⟨w1.heap.size, 2, none⟩ = some (.string nc) := below_cell ((Below.refl wb.heap.size wb).alloc (Nat.le_refl _) _) HZB.out b2
                      have HZ2 : Hid (w1.heap.size < (wb.alloc (.cells #[.int .i64 na, .int .i64 nb, .string nc] 48)).heap.size) := by have := HZB.out; show _ < _; simp; omega
                      have HNF : Hid (u12.ownBlock ≠ some w1.heap.size) := fun e => by have := HNE.out _ e; omega
                      by_cases hk0 : k = 0
                      · have f1 : Hid (rowL S0 nv (k + 1) = Sk ++ VT) := by show _ = _; rw [HRT.out, if_pos hk0]
                        have hk1 : ¬ 0 < k := by omega
                        clear hk0 HRT
                        go_wp2_with (first
                          | (refine wpList_append_mid _ rfl (.tmp 141) (.tmp 143) 46 rfl wo.heap.size 48 i48 _ 3 32 Tryd.underlying46 hi48 hy0 hy1 hy2 rfl (by decide) u12 k _ (by rfl) (HMB.out.alloc _) (some ⟨wb.heap.size, 0, none⟩) 1 1 [.int .i64 na, .int .i64 nb, .string nc] (by rfl) rfl (row_three _ _ _ _ _) (by simp [Value.oneCell']) (by simp only [maxLen]; omega) (by omega) HBS.out ?_; intro v1 w2 hm1 hg1 ho1; have HM1 := Lib.hid hm1; have HB3 := Lib.hid (HBO.out.grown hg1 HBS.out HOB.out); have y0 := grown_cell hg1 q0 HZ2.out HNF.out; have y1 := grown_cell hg1 q1 HZ2.out HNF.out; have y2 := grown_cell hg1 q2 HZ2.out HNF.out; obtain ⟨A1, k1, rfl, hnc1, hcm1, _⟩ := hm1.form; clear hm1 hg1 ho1 q0 q1 q2)
                          | (go_at_call 16; refine (HV2.out _ (HT.out.below (HN.out.hb.trans (HB3.out.mono HN.out.hb.size)))).mono ?_; rintro e w3 ⟨rfl, hb⟩; have HB4 := Lib.hid (HB3.out.trans (hb.mono HB3.out.size)); have HM2 := Lib.hid (mid_up HM1.out hb); clear hb))
                        go_roundg (gk - 1)
                        case measure => omega
                        case rel => exact ⟨k + 1, by omega, by omega, by go_num, by rw [f1.out], HB4.out, by rw [HFT.out, HCS.out]; exact HM2.out⟩
                      · have f1 : Hid (rowL S0 nv (k + 1) = (Sk ++ ⟨#[44, 32]⟩) ++ VT) := by show _ = _; rw [HRT.out, if_neg hk0]
                        have hk1 : 0 < k := by omega
                        clear hk0 HRT
                        go_wp2_with (first
                          | (refine wpList_append_mid _ rfl (.tmp 141) (.tmp 143) 46 rfl wo.heap.size 48 i48 _ 3 32 Tryd.underlying46 hi48 hy0 hy1 hy2 rfl (by decide) u12 k _ (by rfl) (HMB.out.alloc _) (some ⟨wb.heap.size, 0, none⟩) 1 1 [.int .i64 na, .int .i64 nb, .string nc] (by rfl) rfl (row_three _ _ _ _ _) (by simp [Value.oneCell']) (by simp only [maxLen]; omega) (by omega) HBS.out ?_; intro v1 w2 hm1 hg1 ho1; have HM1 := Lib.hid hm1; have HB3 := Lib.hid (HBO.out.grown hg1 HBS.out HOB.out); have y0 := grown_cell hg1 q0 HZ2.out HNF.out; have y1 := grown_cell hg1 q1 HZ2.out HNF.out; have y2 := grown_cell hg1 q2 HZ2.out HNF.out; obtain ⟨A1, k1, rfl, hnc1, hcm1, _⟩ := hm1.form; clear hm1 hg1 ho1 q0 q1 q2)
                          | (go_at_call 16; refine (HV2.out _ (HT.out.below (HN.out.hb.trans (HB3.out.mono HN.out.hb.size)))).mono ?_; rintro e w3 ⟨rfl, hb⟩; have HB4 := Lib.hid (HB3.out.trans (hb.mono HB3.out.size)); have HM2 := Lib.hid (mid_up HM1.out hb); clear hb))
                        go_roundg (gk - 1)
                        case measure => omega
                        case rel => exact ⟨k + 1, by omega, by omega, by go_num, by rw [f1.out], HB4.out, by rw [HFT.out, HCS.out]; exact HM2.out⟩
                    · by_cases h3 : k < x.vs.length
                      · have h4 : ¬ k < 3 := fun h => hlt2 ⟨h3, h⟩
                        rcases HXW.out.2.2 with h0 | ⟨g2, o2, eX, hg2, hl2⟩
                        · exact absurd h3 (by rw [h0]; simp)
                        have e : k = nv.length := by rw [HNL.out]; omega
                        clear hl2
                        go_wp2_with fail
                        go_meet
                        subst e
                        exact ⟨rfl, HBZ.out, by have := HMZ.out; rwa [List.take_of_length_le (Nat.le_refl _)] at this⟩
                      · have e : k = nv.length := by rw [HNL.out]; omega
                        have e := Lib.hid e
                        go_wp2_with fail
                        go_meet
                        have e := e.out
                        subst e
                        exact ⟨rfl, HBZ.out, by have := HMZ.out; rwa [List.take_of_length_le (Nat.le_refl _)] at this⟩
                case rest =>
                  obtain ⟨rfl, hbz, hmz⟩ := hcut
                  obtain ⟨CA, cc, rfl, hcc1, hcc2, _⟩ := hmz.form
                  have HBZ := Lib.hid hbz
                  have HCM := Lib.hid (hmz.mono HN.out.hs)
                  have HQZ := Lib.hid (HN.out.up hbz)
                  have HIZ := Lib.hid (mid_up HMI.out hbz)
                  have HFZ := Lib.hid (HFS.out.up hbz)
                  have HRZ := Lib.hid (HRS.out.up hbz)
                  have c7 : wc.cell? ⟨w.heap.size + 1, 4, none⟩ = some RV := HQZ.out.b1.cell 4
                  have c8 := HQZ.out.b1.frozen 4
                  have hnv3 : nv.length ≤ 3 := by rw [HNL.out]; omega
                  have HS2 := Lib.hid HQZ.out.hs
                  clear hbz hmz HMI HFS HRS HN
                  have HOB : Hid (∀ q, RV.ownBlock = some q → w.heap.size + 2 ≤ q) := fun q hq => (HRZ.out.m.block q hq).1
                  have HNS2 : Hid (∀ q, RV.ownBlock = some q → w.heap.size + 1 ≠ q) := fun q hq => by have := HOB.out q hq; omega
                  go_wp2_with (refine wpList_append_mid _ rfl (.tmp 154) (.tmp 156) 37 rfl (w.heap.size + 2) 46 i46 _ 1 24 Tryd.underlying37 hi46 hx0 hx1 hx2 rfl (by decide) RV j _ (by rfl) (HRZ.out.m.alloc _) (some ⟨wc.heap.size, 0, none⟩) 1 1 [.slice CA nv.length cc] (by rfl) rfl (row_one _ _ _) (by simp [Value.oneCell']) (by simp only [maxLen]; omega) (by omega) ((HQZ.out.up ((Below.refl _ _).alloc (Nat.le_refl _) _)).hs) ?_; intro v1 w2 hm1 hg1 ho1; have HQ2 := Lib.hid ((HQZ.out.up ((Below.refl _ _).alloc (Nat.le_refl _) _)).grown (HRZ.out.m.alloc _) hg1); have HM1 := Lib.hid hm1; have HI2 := Lib.hid (mid_grown (HIZ.out.alloc _) (HRZ.out.m.alloc _) (by decide) hg1); have HF2 := Lib.hid ((HFZ.out.up ((Below.refl _ _).alloc (Nat.le_refl _) _)).grown (HRZ.out.m.alloc _) (by decide) (by decide) (by decide) hg1); have HC2 := Lib.hid (mid_grown (HCM.out.alloc _) (HRZ.out.m.alloc _) (by decide) hg1); have HR2' : Hid (∀ x ∈ rl, Mid w2 (w.heap.size + 2) 48 3 (.slice x.A x.vs.length x.c) x.vs.length (x.vs.flatMap Vl.cs)) := fun x hx => mid_grown ((HRZ.out.own x hx).alloc _) (HRZ.out.m.alloc _) (by decide) hg1; obtain ⟨A1, k1, rfl, hnc1, hcm1, _⟩ := hm1.form; have d2 : w2.cell? ⟨w.heap.size + 1, 4, none⟩ = some RV := HQ2.out.b1.cell 4; have d3 := HQ2.out.b1.frozen 4; clear hm1 hg1 ho1)
                  go_roundg (gk - 1)
                  case measure => omega
                  case rel =>
                    have hp : w.heap.size + 1 < w.heap.size + 2 := by omega
                    refine ⟨j + 1, _, rl ++ [⟨CA, cc, nv⟩], by omega, by omega, by go_num, ?_, HQ2.out.setR _, mid_set HI2.out hp _, HF2.out.set hp _, ?_, ?_, ?_⟩
                    · rw [HTX.out, ← HRB.out]
                    · rw [List.map_append]
                      exact mid_set HM1.out hp _
                    · rw [HSN.out, List.map_append, HRZ.out.n]; rfl
                    · intro f hf
                      rcases List.mem_append.1 hf with h | h
                      · exact mid_set (HR2'.out f h) hp _
                      · rw [List.mem_singleton.1 h]; exact mid_set HC2.out hp _
              · by_cases h1 : j < r.rs.length
                · have h2 : ¬ j < 3 := fun h => hlt ⟨h1, h⟩
                  go_wp2_with fail
                  go_meet
                  exact ⟨j, RV, rl, by omega, hjr, rfl, HN.out, HMI.out, HFS.out, HRS.out⟩
                · go_wp2_with fail
                  go_meet
                  exact ⟨j, RV, rl, by omega, hjr, rfl, HN.out, HMI.out, HFS.out, HRS.out⟩
          case rest =>
            obtain ⟨j3, RV, rl, hj33, hjr, rfl, hqb, hmi, hfs, hrs⟩ := hcut
            obtain ⟨RA, rc, rfl, hrc1, hrc2, _⟩ := hrs.m.form
            have HQ5 := Lib.hid hqb
            have HML := Lib.hid hmi
            have HF5 := Lib.hid hfs
            have HR5 := Lib.hid hrs
            clear hqb hmi hfs hrs HQ4 HMK HF
            have hl1 : (r.ids.take j1).length = j1 := by rw [List.length_take]; omega
            have hl2 : fl.length = j2 := by rw [(HF5.out.rowF HR.out.fw).1, List.length_take]; omega
            have hl3 : rl.length = j3 := by rw [(HR5.out.rowR HR.out.rw).1, List.length_take]; omega
            have hR3 : Hid (replyT r.id (r.ids.take j1) fl rl = spT R2 ((r.rs.take j3).map fun x => rowT ((x.vs.take 3).map Vl.near))) := by show _ = _; rw [HR2.out, HR5.out.txts]
            obtain ⟨wf, rfl⟩ : ∃ wf : World, wf = wc := ⟨_, rfl⟩
            obtain ⟨E, hE⟩ : ∃ E : Int, E = r.err % 8 := ⟨_, rfl⟩
            have hE0 : 0 ≤ E ∧ E ≤ 7 := by omega
            have HIN : Hid (0 ≤ E ∧ E ≤ 7) := hE0
            have HEE := Lib.hid hE
            obtain ⟨WT, hWT⟩ : ∃ WT : ByteArray, WT = if E = 0 then replyT r.id (r.ids.take j1) fl rl else enm E := ⟨_, rfl⟩
            have HW := Lib.hid hWT
            clear hE0 hE hWT HR2
            have HTW : Hid (∀ wz, Below wf.heap.size wf wz → Tab wz) := fun wz hb => HT.out.below (HQ5.out.up hb).hb
            have HREP : Hid (∀ wz, Below wf.heap.size wf wz → Calls Tryd.prog 17 #[.agg #[.int .i64 E, .int .u64 (r.id : Int), .slice IA j1 ic, .slice FA j2 fc, .slice RA j3 rc]] wz fun e w' => e = .returned (.string WT) ∧ Below wz.heap.size wz w') := by
              intro wz hb
              by_cases h0 : E = 0
              · have h1 := reply_show r.id HR.out.id IA ic (r.ids.take j1) (fun x hx => HR.out.ids x (List.mem_of_mem_take hx)) (by omega) FA fc fl (by omega) RA rc rl (by omega) wz (HTW.out wz hb) (HM.out.below (HQ5.out.up hb).hb) (row_of_mid (mid_up HML.out hb)) ((HF5.out.up hb).rowF HR.out.fw).2 ((HR5.out.up hb).rowR HR.out.rw).2
                rw [hl1, hl2, hl3] at h1
                rw [HW.out, if_pos h0, h0]
                exact h1
              · rw [HW.out, if_neg h0]
                exact reply_err E (by have := HIN.out; omega) (by have := HIN.out; omega) h0 _ _ _ _ wz (HTW.out wz hb)
            have HCL : Hid (∀ wz, Below wf.heap.size wf wz → wz.cell? ⟨w.heap.size + 1, 0, none⟩ = some (.int .i64 E) ∧ wz.cell? ⟨w.heap.size + 1, 1, none⟩ = some (.int .u64 (r.id : Int)) ∧ wz.cell? ⟨w.heap.size + 1, 2, none⟩ = some (.slice IA j1 ic) ∧ wz.cell? ⟨w.heap.size + 1, 3, none⟩ = some (.slice FA j2 fc) ∧ wz.cell? ⟨w.heap.size + 1, 4, none⟩ = some (.slice RA j3 rc)) := by
              intro wz hb
              rw [HEE.out]
              have h := (HQ5.out.up hb).b1
              exact ⟨h.cell 0, h.cell 1, h.cell 2, h.cell 3, h.cell 4⟩
            have c0 := (HCL.out wf (Below.refl _ _)).1
            have HBW := Lib.hid HQ5.out.hb
            clear HQ5 HML HF5 HR5
            go_upto_if 163 with fail
            go_cut [8] (fun v wd => v = .string WT ∧ Below wf.heap.size wf wd)
            case first =>
              as_aux_lemma =>
              by_cases h0 : E = 0
              · have e1 : WT = spT R2 ((r.rs.take j3).map fun x => rowT ((x.vs.take 3).map Vl.near)) := by rw [HW.out, if_pos h0, hR3.out]
                have hn : ((E : Int) != 0) = false := by simpa using h0
                clear h0
                go_wp2_with fail
                go_meet
                exact ⟨by rw [e1], Below.refl _ _⟩
              · have e1 : WT = enm E := by rw [HW.out, if_neg h0]
                have HER := Lib.hid (errno_law E (by have := HIN.out; omega) (by have := HIN.out; omega) wf (HTW.out wf (Below.refl _ _)))
                rw [← e1] at HER
                have hn : ((E : Int) != 0) = true := by simpa using h0
                clear h0 e1
                go_wp2_with (go_at_call 8; refine HER.out.mono ?_; rintro e w1 ⟨rfl, hb⟩; have HB1 := Lib.hid hb; clear hb)
                go_meet
                exact ⟨rfl, HB1.out⟩
            case rest =>
              obtain ⟨rfl, hb⟩ := hcut
              have HB0 := Lib.hid hb
              clear hb hR3 HW c0
              go_upto_if 168 with fail
              go_cut [15] (fun v wd => v = .string (if dn then ⟨#[100, 111, 110, 101]⟩ else WT) ∧ Below wf.heap.size wf wd)
              case first =>
                as_aux_lemma =>
                cases dn
                all_goals
                  go_wp2_with fail
                  go_meet
                  exact ⟨rfl, HB0.out⟩
              case rest =>
                obtain ⟨rfl, hb⟩ := hcut
                have HB1 := Lib.hid hb
                clear hb HB0
                obtain ⟨AL, hAL⟩ : ∃ AL : ByteArray, AL = if dn then ⟨#[100, 111, 110, 101]⟩ else WT := ⟨_, rfl⟩
                rw [← hAL]
                have HAL := Lib.hid hAL
                clear hAL
                go_upto_if 170 with fail
                go_cut [15] (fun v wd => v = .string (saidT WT tell dn) ∧ Below wf.heap.size wf wd)
                case first =>
                  as_aux_lemma =>
                  by_cases h2 : tell = 2
                  · have e1 : saidT WT tell dn = ⟨#[119, 97, 105, 116, 115]⟩ := by unfold saidT; rw [if_pos h2]
                    have hn : ((tell : Int) == 2) = true := by simpa using h2
                    have e1 := Lib.hid e1
                    clear h2
                    go_wp2_with fail
                    go_meet
                    exact ⟨by rw [e1.out], HB1.out⟩
                  · have e1 : saidT WT tell dn = AL := by unfold saidT; rw [if_neg h2, HAL.out]
                    have hn : ((tell : Int) == 2) = false := by simpa using h2
                    have e1 := Lib.hid e1
                    clear h2
                    go_wp2_with fail
                    go_meet
                    exact ⟨by rw [e1.out], HB1.out⟩
                case rest =>
                  obtain ⟨rfl, hb⟩ := hcut
                  have HB2 := Lib.hid hb
                  clear hb HB1
                  have HSD : Hid (∀ wz, Below wf.heap.size wf wz → Calls Tryd.prog 18 #[.agg #[.bool true, .int .i64 E, .int .u64 (r.id : Int), .slice IA j1 ic, .slice FA j2 fc, .slice RA j3 rc, .int .i64 tell, .bool dn]] wz fun e w' => e = .returned (.string (saidT WT tell dn)) ∧ Below wz.heap.size wz w') := fun wz hb =>
                    said_show E (r.id : Int) j1 j2 j3 ic fc rc IA FA RA tell dn WT wz (fun w' hb' => HREP.out w' (hb.trans (hb'.mono hb.size)))
                  generalize saidT WT tell dn = ST at *
                  have HI0 : Hid (∀ wz, Below wf.heap.size wf wz → Calls Tryd.prog 19 #[.slice none 0 0] wz fun e w' => e = .returned (.string ⟨#[91, 93]⟩) ∧ Below wz.heap.size wz w') := fun wz hb =>
                    ids_show none 0 0 [] (fun x hx => by cases hx) rfl (by omega) wz (HTW.out wz hb) (Row.nil _ _)
                  clear HR HT HM HIN HEE
                  go_wp2_with fail
                  refine (awake_ok _ (HTW.out _ HB2.out)).mono ?_
                  rintro e w1 ⟨rfl, hb⟩
                  have HB3 := Lib.hid (HB2.out.trans (hb.mono HB2.out.size))
                  clear hb HB2
                  obtain ⟨k0, k1, k2, k3, k4⟩ := HCL.out w1 HB3.out
                  go_wp2_with fail
                  refine (HREP.out _ HB3.out).mono ?_
                  rintro e w2 ⟨rfl, hb⟩
                  have HB4 := Lib.hid (HB3.out.trans (hb.mono HB3.out.size))
                  clear hb HB3 k0 k1 k2 k3 k4
                  obtain ⟨k0, k1, k2, k3, k4⟩ := HCL.out w2 HB4.out
                  go_wp2_with fail
                  refine (HSD.out _ HB4.out).mono ?_
                  rintro e w3 ⟨rfl, hb⟩
                  have HB5 := Lib.hid (HB4.out.trans (hb.mono HB4.out.size))
                  clear hb HB4 k0 k1 k2 k3 k4
                  obtain ⟨k0, k1, k2, k3, k4⟩ := HCL.out w3 HB5.out
                  go_wp2_with fail
                  refine (said_none _ _ _ _ _ _ _ _ _ _ _ _ _ _).mono ?_
                  rintro e w4 ⟨rfl, hb⟩
                  have HB6 := Lib.hid (HB5.out.trans (hb.mono HB5.out.size))
                  clear hb HB5 k0 k1 k2 k3 k4
                  go_wp2_with fail
                  refine (HI0.out _ HB6.out).mono ?_
                  rintro e w5 ⟨rfl, hb⟩
                  have HB7 := Lib.hid (HB6.out.trans (hb.mono HB6.out.size))
                  clear hb HB6
                  go_wp2_with fail
                  go_ret
                  exact ⟨by simp, HBW.out.trans (HB7.out.mono HBW.out.size)⟩
end Go.Proofs.YtkcgnodmjmpnhaaDoor
