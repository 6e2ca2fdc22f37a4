import Derived.Test.YtkcgnodmjmpnhaaDoorV8
import Derived.Deep.DeepCutAuto
namespace Go.Proofs.YtkcgnodmjmpnhaaDoor
open Go.RowKit Go.Shelf Go.Lib Go.Sort
set_option linter.unusedVariables false

/-- A reply's box, and what it leads to. -/
structure RB (w : World) (id : Nat) (IA : Option Addr) (ic : Nat) (ids : List Nat) (FA : Option Addr) (fc : Nat) (fs : List Inf) (RA : Option Addr) (rc : Nat) (rs : List Rw) (x : World) : Prop where
  c0 : x.cell? ⟨w.heap.size, 0, none⟩ = some (.int .i64 0)
  c1 : x.cell? ⟨w.heap.size, 1, none⟩ = some (.int .u64 (id : Int))
  c2 : x.cell? ⟨w.heap.size, 2, none⟩ = some (.slice IA ids.length ic)
  c3 : x.cell? ⟨w.heap.size, 3, none⟩ = some (.slice FA fs.length fc)
  c4 : x.cell? ⟨w.heap.size, 4, none⟩ = some (.slice RA rs.length rc)
  hg : w.heap.size < x.heap.size
  tab : Tab x
  hasm : HasM x
  hi : Row x IA (ids.map fun y : Nat => Value.int .u64 (y : Int))
  hf : RowF x FA fs
  hr : RowR x RA rs
  hb : Below w.heap.size w x
theorem RB.below {w : World} {id : Nat} {IA : Option Addr} {ic : Nat} {ids : List Nat} {FA : Option Addr} {fc : Nat} {fs : List Inf} {RA : Option Addr} {rc : Nat} {rs : List Rw} {x y : World}
    (h : RB w id IA ic ids FA fc fs RA rc rs x) (hb : Below x.heap.size x y) : RB w id IA ic ids FA fc fs RA rc rs y :=
  ⟨below_cell hb h.hg h.c0, below_cell hb h.hg h.c1, below_cell hb h.hg h.c2, below_cell hb h.hg h.c3, below_cell hb h.hg h.c4, Nat.lt_of_lt_of_le h.hg hb.size, h.tab.below hb, h.hasm.below hb, h.hi.belowAll hb, h.hf.below hb, h.hr.below hb, h.hb.trans (hb.mono h.hb.size)⟩
theorem row_below {w w' : World} {A : Option Addr} {xs : List Value} (h : Row w A xs) (hb : Below w.heap.size w w') : Row w' A xs := h.belowAll hb

def okT : ByteArray := ⟨#[111, 107]⟩
def idT (id : Nat) : ByteArray := if id = 0 then okT else okT ++ ((⟨#[32]⟩ : ByteArray) ++ num (id : Int))
def idsT2 (id : Nat) (ids : List Nat) : ByteArray := if ids = [] then idT id else idT id ++ ((⟨#[32]⟩ : ByteArray) ++ idsT ids)
/-- What a reply tells. -/
def replyT (id : Nat) (ids : List Nat) (fs : List Inf) (rs : List Rw) : ByteArray := spT (spT (idsT2 id ids) (fs.map Inf.txt)) (rs.map fun r => rowT r.vs)
theorem idT_size (id : Nat) (h : id < 18446744073709551616) : (idT id).size ≤ 24 := by
  unfold idT okT
  have := num_size_u id h
  split
  · exact (by decide : (2 : Nat) ≤ 24)
  · rw [ByteArray.size_append, ByteArray.size_append, show (⟨#[32]⟩ : ByteArray).size = 1 from rfl, show (⟨#[111, 107]⟩ : ByteArray).size = 2 from rfl]; omega
theorem idsT2_size (id : Nat) (h : id < 18446744073709551616) (ids : List Nat) (hx : ∀ x ∈ ids, x < 18446744073709551616) (hN : ids.length ≤ 1000) : (idsT2 id ids).size ≤ 200000 := by
  unfold idsT2
  have h1 := idT_size id h
  have h2 := idsT_size ids hx hN
  split
  · omega
  · rw [ByteArray.size_append, ByteArray.size_append, show (⟨#[32]⟩ : ByteArray).size = 1 from rfl]; omega

set_option maxHeartbeats 2000000 in
set_option maxRecDepth 10000 in
theorem reply_show (id : Nat) (hid : id < 18446744073709551616) (IA : Option Addr) (ic : Nat) (ids : List Nat) (hx : ∀ x ∈ ids, x < 18446744073709551616) (hN : ids.length ≤ 1000) (FA : Option Addr) (fc : Nat) (fs : List Inf) (hfn : fs.length ≤ 1000) (RA : Option Addr) (rc : Nat) (rs : List Rw) (hrn : rs.length ≤ 1000)
    (w : World) (ht : Tab w) (hm : HasM w) (hi : Row w IA (ids.map fun y : Nat => Value.int .u64 (y : Int))) (hf : RowF w FA fs) (hr : RowR w RA rs) :
    Calls Tryd.prog 17 #[.agg #[.int .i64 0, .int .u64 (id : Int), .slice IA ids.length ic, .slice FA fs.length fc, .slice RA rs.length rc]] w fun e w' => e = .returned (.string (replyT id ids fs rs)) ∧ Below w.heap.size w w' := by
  have hbb := (Below.refl w.heap.size w).alloc (Nat.le_refl _) (.cells #[.int .i64 0, .int .u64 (id : Int), .slice IA ids.length ic, .slice FA fs.length fc, .slice RA rs.length rc] 39)
  have HRB := Lib.hid (⟨by simp [go_sem], by simp [go_sem], by simp [go_sem], by simp [go_sem], by simp [go_sem], by simp, ht.below hbb, hm.below hbb, row_below hi hbb, hf.below hbb, hr.below hbb, hbb⟩ : RB w id IA ic ids FA fc fs RA rc rs (w.alloc (.cells #[.int .i64 0, .int .u64 (id : Int), .slice IA ids.length ic, .slice FA fs.length fc, .slice RA rs.length rc] 39)))
  have HID := Lib.hid (id_ok id hid)
  have HIDS := Lib.hid (fun w ht h => ids_show IA ids.length ic ids hx rfl hN w ht h)
  have zid := num_size_u id hid
  have zids := idsT_size ids hx hN
  have z1 := idT_size id hid
  have z2 := idsT2_size id hid ids hx hN
  have HFN := Lib.hid hfn
  have HRN := Lib.hid hrn
  have hidT : Hid (idT id = if id = 0 then okT else okT ++ ((⟨#[32]⟩ : ByteArray) ++ num (id : Int))) := rfl
  have hidsT : Hid (idsT2 id ids = if ids = [] then idT id else idT id ++ ((⟨#[32]⟩ : ByteArray) ++ idsT ids)) := rfl
  have HT : Hid (replyT id ids fs rs = spT (spT (idsT2 id ids) (fs.map Inf.txt)) (rs.map fun r => rowT r.vs)) := rfl
  generalize replyT id ids fs rs = RT at *
  generalize idsT2 id ids = T2 at *
  generalize idT id = T1 at *
  generalize idsT ids = TI at *
  generalize num (id : Int) = TN at *
  clear hid hx hfn hrn ht hm hi hf hr hbb
  go_enter Tryd.func17, Tryd.ntmps17
  go_upto_if 16 with fail
  generalize (w.alloc (.cells #[.int .i64 0, .int .u64 (id : Int), .slice IA ids.length ic, .slice FA fs.length fc, .slice RA rs.length rc] 39)) = w0 at *
  go_cut [3] (fun v wc => v = .string T1 ∧ RB w id IA ic ids FA fc fs RA rc rs wc)
  case first =>
    have c1 := HRB.out.c1
    by_cases h0 : id = 0
    · have e1 : T1 = okT := by rw [hidT.out, if_pos h0]
      have hn : ((id : Int) != 0) = false := by simpa using h0
      clear h0
      go_wp2_with fail
      go_meet
      exact ⟨by rw [e1]; rfl, HRB.out⟩
    · have e1 : Hid (T1 = okT ++ ((⟨#[32]⟩ : ByteArray) ++ TN)) := by show _ = _; rw [hidT.out, if_neg h0]
      have hn : ((id : Int) != 0) = true := by simpa using h0
      clear h0
      go_wp2_with (go_at_call 22; refine (HID.out _ HRB.out.tab).mono ?_; rintro e w1 ⟨rfl, hb⟩; have HB1 := Lib.hid hb; clear hb)
      go_meet
      exact ⟨by rw [e1.out]; rfl, HRB.out.below HB1.out⟩
  case rest =>
    obtain ⟨rfl, hrb⟩ := hcut
    have HRC := Lib.hid hrb
    have c2 := hrb.c2
    clear hrb HRB
    go_upto_if 26 with fail
    go_cut [3] (fun v wc => v = .string T2 ∧ RB w id IA ic ids FA fc fs RA rc rs wc)
    case first =>
      by_cases h0 : ids = []
      · have e1 : T2 = T1 := by rw [hidsT.out, if_pos h0]
        have hl : ids.length = 0 := by rw [h0]; rfl
        go_wp2_with fail
        go_meet
        exact ⟨by rw [e1], HRC.out⟩
      · have e1 : Hid (T2 = T1 ++ ((⟨#[32]⟩ : ByteArray) ++ TI)) := by show _ = _; rw [hidsT.out, if_neg h0]
        have hl : 0 < ids.length := List.length_pos_iff.2 h0
        clear h0
        go_wp2_with (go_at_call 19; refine (HIDS.out _ HRC.out.tab HRC.out.hi).mono ?_; rintro e w1 ⟨rfl, hb⟩; have HB1 := Lib.hid hb; clear hb)
        go_meet
        exact ⟨by rw [e1.out], HRC.out.below HB1.out⟩
    case rest =>
      obtain ⟨rfl, hrb⟩ := hcut
      have HRD := Lib.hid hrb
      have c3 := hrb.c3
      clear hrb HRC c2
      go_wp2_with fail
      go_loopg [3, 36] fs.length (fun q v i wr => ∃ (j : Nat), q + j = fs.length ∧ i = .int .i64 (j : Int) ∧ v = .string (spT T2 ((fs.take j).map Inf.txt)) ∧ RB w id IA ic ids FA fc fs RA rc rs wr)
      case atStart => exact ⟨0, rfl, rfl, rfl, HRD.out⟩
      case round =>
        obtain ⟨j, hj, rfl, rfl, hrb⟩ := hrel
        have HRE := Lib.hid hrb
        have hj2 : j ≤ 1000 := by have := HFN.out; omega
        clear hrb HRD
        have hsz2 : (spT T2 ((fs.take j).map Inf.txt)).size ≤ 100000000000 := by
          have := spT_size 20000000 ((fs.take j).map Inf.txt) T2 (fun y hy => by
            obtain ⟨x, hx, rfl⟩ := List.mem_map.1 hy
            have hx2 := List.mem_of_mem_take hx
            rcases HRE.out.hf with h0 | ⟨g, o, _, _, hl⟩
            · rw [h0] at hx2; cases hx2
            · obtain ⟨i, hi, rfl⟩ := List.getElem_of_mem hx2
              exact Inf.txt_size (hl i hi).1)
          rw [List.length_map, List.length_take] at this
          have h2 : min j fs.length ≤ 1000 := by have := HFN.out; omega
          have h3 : min j fs.length * (20000000 + 1) ≤ 1000 * (20000000 + 1) := Nat.mul_le_mul_right _ h2
          omega
        by_cases hlt : j < fs.length
        · rcases HRE.out.hf with h0 | ⟨g, o, rfl, hg, hl⟩
          · exact absurd hlt (by rw [h0]; simp)
          obtain ⟨hok, d0, d1, d2, d3, d4, d5, d6⟩ := hl j hlt
          have HSN := Lib.hid (spT_snoc Inf.txt T2 fs j hlt)
          have hz := Inf.txt_size hok
          have hbb := (Below.refl wr.heap.size wr).alloc (Nat.le_refl _) (.cells fs[j].cells 43)
          have HINF := Lib.hid (info_show fs[j] _ (hok.below hbb) (HRE.out.tab.below hbb) (HRE.out.hasm.below hbb))
          have HBB := Lib.hid hbb
          clear hl hg hok hbb c3
          generalize fs[j] = x at *
          generalize x.txt = TX at *
          unfold Inf.cells at HINF HBB
          generalize spT T2 ((fs.take j).map Inf.txt) = Tj at *
          go_wp2_with (go_at_call 24; refine HINF.out.mono ?_; rintro e w1 ⟨rfl, hb⟩; have HB1 := Lib.hid (HBB.out.trans (hb.mono HBB.out.size)); clear hb)
          go_roundg (gk - 1)
          case measure => omega
          case rel => exact ⟨j + 1, by omega, by go_num, by rw [HSN.out], HRE.out.below HB1.out⟩
        · obtain rfl : j = fs.length := by omega
          rw [List.take_of_length_le (Nat.le_refl _)] at hsz2 ⊢
          generalize hT3 : spT T2 (fs.map Inf.txt) = T3 at *
          have c4 := HRE.out.c4
          have HT3 := Lib.hid hT3
          clear hT3 hj2
          go_wp2_with fail
          go_loopg [3, 49] rs.length (fun q v i wr => ∃ (j : Nat), q + j = rs.length ∧ i = .int .i64 (j : Int) ∧ v = .string (spT T3 ((rs.take j).map fun r => rowT r.vs)) ∧ RB w id IA ic ids FA fc fs RA rc rs wr)
          case atStart => exact ⟨0, rfl, rfl, rfl, HRE.out⟩
          case round =>
            obtain ⟨j, hj, rfl, rfl, hrb⟩ := hrel
            have HRF := Lib.hid hrb
            have hj2 : j ≤ 1000 := by have := HRN.out; omega
            clear hrb HRE
            have hsz3 : (spT T3 ((rs.take j).map fun r => rowT r.vs)).size ≤ 1000000000000 := by
              have := spT_size 10000000 ((rs.take j).map fun r => rowT r.vs) T3 (fun y hy => by
                obtain ⟨x, hx, rfl⟩ := List.mem_map.1 hy
                have hx2 := List.mem_of_mem_take hx
                rcases HRF.out.hr with h0 | ⟨g, o, _, _, hl⟩
                · rw [h0] at hx2; cases hx2
                · obtain ⟨i, hi, rfl⟩ := List.getElem_of_mem hx2
                  exact rowT_size _ (hl i hi).1.1 (hl i hi).1.2.1)
              rw [List.length_map, List.length_take] at this
              have h2 : min j rs.length ≤ 1000 := by have := HRN.out; omega
              have h3 : min j rs.length * (10000000 + 1) ≤ 1000 * (10000000 + 1) := Nat.mul_le_mul_right _ h2
              omega
            by_cases hlt : j < rs.length
            · rcases HRF.out.hr with h0 | ⟨g, o, rfl, hg, hl⟩
              · exact absurd hlt (by rw [h0]; simp)
              obtain ⟨hok, d0⟩ := hl j hlt
              have HSN := Lib.hid (spT_snoc (fun r : Rw => rowT r.vs) T3 rs j hlt)
              have hz := rowT_size _ hok.1 hok.2.1
              have HROW := Lib.hid (row_show rs[j].A rs[j].vs.length rs[j].c rs[j].vs hok.1 rfl hok.2.1 _ HRF.out.tab HRF.out.hasm hok.2.2)
              clear hl hg hok c4
              generalize rs[j] = x at *
              generalize rowT x.vs = TX at *
              generalize spT T3 ((rs.take j).map fun r => rowT r.vs) = Tj at *
              go_wp2_with (go_at_call 25; refine HROW.out.mono ?_; rintro e w1 ⟨rfl, hb⟩; have HB1 := Lib.hid hb; clear hb)
              go_roundg (gk - 1)
              case measure => omega
              case rel => exact ⟨j + 1, by omega, by go_num, by rw [HSN.out], HRF.out.below HB1.out⟩
            · obtain rfl : j = rs.length := by omega
              rw [List.take_of_length_le (Nat.le_refl _)] at hsz3 ⊢
              go_wp2_with fail
              go_ret
              exact ⟨by rw [HT.out]; rfl, HRF.out.hb⟩
end Go.Proofs.YtkcgnodmjmpnhaaDoor
