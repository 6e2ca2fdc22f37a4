import Derived.Test.YtkcgnodmjmpnhaaDoorVA
namespace Go.Proofs.YtkcgnodmjmpnhaaDoor
open Go.RowKit Go.Shelf Go.Lib Go.Sort
set_option linter.unusedVariables false

/-- Names and values, as the law builds them. -/
def propsL (s : ByteArray) (ps : List Pr) : Nat → ByteArray
  | 0 => s
  | j + 1 => (propsL s ps j ++ (if j = 0 then (⟨#[32, 123]⟩ : ByteArray) else ⟨#[44, 32]⟩)) ++ (ps.getD j ⟨⟨#[]⟩, ⟨0, 0, ⟨#[]⟩⟩⟩).txt
theorem getD_at {α : Type} (l : List α) (j : Nat) (d : α) (h : j < l.length) : l.getD j d = l[j] := by
  rw [List.getD_eq_getElem?_getD, List.getElem?_eq_getElem h]; rfl
theorem join_snoc (xs : List (List UInt8)) (x sep : List UInt8) (h : xs ≠ []) : Lib.join (xs ++ [x]) sep = Lib.join xs sep ++ sep ++ x := by
  cases xs with
  | nil => exact absurd rfl h
  | cons a r => rw [List.cons_append, Lib.join_cons, Lib.join_cons]; simp [Lib.joinTail]
theorem joinOf_one (x sep : ByteArray) : joinOf [x] sep = x := by
  apply ByteArray.ext
  unfold joinOf
  simp [Lib.join_one]
theorem joinOf_snoc (xs : List ByteArray) (x sep : ByteArray) (h : xs ≠ []) : joinOf (xs ++ [x]) sep = joinOf xs sep ++ sep ++ x := by
  apply ByteArray.ext
  unfold joinOf
  rw [List.map_append, List.map_cons, List.map_nil, join_snoc _ _ _ (by simpa using h)]
  simp [ByteArray.data_append]
theorem propsL_join (s : ByteArray) (ps : List Pr) : ∀ j, j + 1 ≤ ps.length → propsL s ps (j + 1) = s ++ (⟨#[32, 123]⟩ : ByteArray) ++ joinOf ((ps.take (j + 1)).map Pr.txt) ⟨#[44, 32]⟩
  | 0, h => by
    rw [map_take Pr.txt ps 0 (by omega)]
    simp only [propsL, if_true, List.take_zero, List.map_nil, List.nil_append, joinOf_one]
    rw [getD_at _ _ _ (by omega)]
  | j + 1, h => by
    have ih := propsL_join s ps j (by omega)
    rw [propsL, ih, map_take Pr.txt ps (j + 1) (by omega), joinOf_snoc _ _ _ (fun e => by have := congrArg List.length e; rw [List.length_map, List.length_take] at this; have h0 : min (j + 1) ps.length = 0 := this; omega), if_neg (by omega), getD_at _ _ _ (by omega)]
    simp only [ByteArray.append_assoc]
theorem propsL_all (s : ByteArray) (ps : List Pr) (h : ps ≠ []) : propsL s ps ps.length ++ ⟨#[125]⟩ = s ++ propsT ps := by
  have hl : 0 < ps.length := List.length_pos_iff.2 h
  obtain ⟨j, hj⟩ : ∃ j, ps.length = j + 1 := ⟨ps.length - 1, by omega⟩
  rw [hj, propsL_join s ps j (by omega), List.take_of_length_le (by omega)]
  unfold propsT
  rw [if_neg h]
  simp only [ByteArray.append_assoc]
theorem propsL_size (s : ByteArray) (ps : List Pr) (h : ∀ p ∈ ps, p.short) : ∀ j, j ≤ ps.length → (propsL s ps j).size ≤ s.size + j * 4216
  | 0, _ => by simp [propsL]
  | j + 1, hj => by
    have ih := propsL_size s ps h j (by omega)
    rw [propsL, ByteArray.size_append, ByteArray.size_append, getD_at _ _ _ (by omega)]
    have := (ps[j]).txt_size (h _ (List.getElem_mem (by omega)))
    have h2 : (if j = 0 then (⟨#[32, 123]⟩ : ByteArray) else ⟨#[44, 32]⟩).size = 2 := by split <;> rfl
    omega

/-- A thing's box, and what it leads to. -/
structure IB (w : World) (x : Inf) (y : World) : Prop where
  c0 : y.cell? ⟨w.heap.size, 0, none⟩ = some (.int .u64 (x.id : Int))
  c1 : y.cell? ⟨w.heap.size, 1, none⟩ = some (.bool x.edge)
  c2 : y.cell? ⟨w.heap.size, 2, none⟩ = some (.slice x.LA x.labels.length x.lc)
  c3 : y.cell? ⟨w.heap.size, 3, none⟩ = some (.string x.ty)
  c4 : y.cell? ⟨w.heap.size, 4, none⟩ = some (.int .u64 (x.fr : Int))
  c5 : y.cell? ⟨w.heap.size, 5, none⟩ = some (.int .u64 (x.tw : Int))
  c6 : y.cell? ⟨w.heap.size, 6, none⟩ = some (.slice x.PA x.props.length x.pc)
  hg : w.heap.size < y.heap.size
  tab : Tab y
  ok : x.ok y
  hb : Below w.heap.size w y
theorem IB.below {w : World} {x : Inf} {y z : World} (h : IB w x y) (hb : Below y.heap.size y z) : IB w x z :=
  ⟨below_cell hb h.hg h.c0, below_cell hb h.hg h.c1, below_cell hb h.hg h.c2, below_cell hb h.hg h.c3, below_cell hb h.hg h.c4, below_cell hb h.hg h.c5, below_cell hb h.hg h.c6, Nat.lt_of_lt_of_le h.hg hb.size, h.tab.below hb, h.ok.below hb, h.hb.trans (hb.mono h.hb.size)⟩
theorem IB.drew {w : World} {x : Inf} {y : World} (h : IB w x y) : IB w x y.drew := h.below (below_drew (Below.refl _ _))
theorem ibs {w : World} {x : Inf} {y : World} (h : IB w x y) : y.cell? ⟨w.heap.size, 0, none⟩ = some (.int .u64 (x.id : Int)) ∧ y.cell? ⟨w.heap.size, 3, none⟩ = some (.string x.ty) ∧ y.cell? ⟨w.heap.size, 4, none⟩ = some (.int .u64 (x.fr : Int)) ∧ y.cell? ⟨w.heap.size, 5, none⟩ = some (.int .u64 (x.tw : Int)) ∧ IB w x y := ⟨h.c0, h.c3, h.c4, h.c5, h⟩
theorem ibs_drew {w : World} {x : Inf} {y : World} (h : y.cell? ⟨w.heap.size, 0, none⟩ = some (.int .u64 (x.id : Int)) ∧ y.cell? ⟨w.heap.size, 3, none⟩ = some (.string x.ty) ∧ y.cell? ⟨w.heap.size, 4, none⟩ = some (.int .u64 (x.fr : Int)) ∧ y.cell? ⟨w.heap.size, 5, none⟩ = some (.int .u64 (x.tw : Int)) ∧ IB w x y) : y.drew.cell? ⟨w.heap.size, 0, none⟩ = some (.int .u64 (x.id : Int)) ∧ y.drew.cell? ⟨w.heap.size, 3, none⟩ = some (.string x.ty) ∧ y.drew.cell? ⟨w.heap.size, 4, none⟩ = some (.int .u64 (x.fr : Int)) ∧ y.drew.cell? ⟨w.heap.size, 5, none⟩ = some (.int .u64 (x.tw : Int)) ∧ IB w x y.drew := ibs h.2.2.2.2.drew
theorem ibs_step {w : World} {x : Inf} {y z : World} (hb : Below y.heap.size y z) (h : y.cell? ⟨w.heap.size, 0, none⟩ = some (.int .u64 (x.id : Int)) ∧ y.cell? ⟨w.heap.size, 3, none⟩ = some (.string x.ty) ∧ y.cell? ⟨w.heap.size, 4, none⟩ = some (.int .u64 (x.fr : Int)) ∧ y.cell? ⟨w.heap.size, 5, none⟩ = some (.int .u64 (x.tw : Int)) ∧ IB w x y) : z.cell? ⟨w.heap.size, 0, none⟩ = some (.int .u64 (x.id : Int)) ∧ z.cell? ⟨w.heap.size, 3, none⟩ = some (.string x.ty) ∧ z.cell? ⟨w.heap.size, 4, none⟩ = some (.int .u64 (x.fr : Int)) ∧ z.cell? ⟨w.heap.size, 5, none⟩ = some (.int .u64 (x.tw : Int)) ∧ IB w x z := ibs (h.2.2.2.2.below hb)
theorem ibs_tab {w : World} {x : Inf} {y : World} (h : y.cell? ⟨w.heap.size, 0, none⟩ = some (.int .u64 (x.id : Int)) ∧ y.cell? ⟨w.heap.size, 3, none⟩ = some (.string x.ty) ∧ y.cell? ⟨w.heap.size, 4, none⟩ = some (.int .u64 (x.fr : Int)) ∧ y.cell? ⟨w.heap.size, 5, none⟩ = some (.int .u64 (x.tw : Int)) ∧ IB w x y) : Tab y := h.2.2.2.2.tab

theorem vbs_step {w : World} {x : Inf} {g o a : Nat} {p s : ByteArray} {k n : Int} {y z : World} (hb : Below y.heap.size y z) (h : y.cell? ⟨w.heap.size, 6, none⟩ = some (.slice (some ⟨g, o, none⟩) x.props.length x.pc) ∧ y.cell? ⟨g, a, none⟩ = some (.string p) ∧ y.cell? ⟨g, a + 1, none⟩ = some (.int .i64 k) ∧ y.cell? ⟨g, a + 2, none⟩ = some (.int .i64 n) ∧ y.cell? ⟨g, a + 3, none⟩ = some (.string s) ∧ g < y.heap.size ∧ IB w x y) : z.cell? ⟨w.heap.size, 6, none⟩ = some (.slice (some ⟨g, o, none⟩) x.props.length x.pc) ∧ z.cell? ⟨g, a, none⟩ = some (.string p) ∧ z.cell? ⟨g, a + 1, none⟩ = some (.int .i64 k) ∧ z.cell? ⟨g, a + 2, none⟩ = some (.int .i64 n) ∧ z.cell? ⟨g, a + 3, none⟩ = some (.string s) ∧ g < z.heap.size ∧ IB w x z := by
  obtain ⟨h6, h0, h1, h2, h3, hg, hi⟩ := h
  exact ⟨below_cell hb hi.hg h6, below_cell hb hg h0, below_cell hb hg h1, below_cell hb hg h2, below_cell hb hg h3, Nat.lt_of_lt_of_le hg hb.size, hi.below hb⟩
theorem vbs_drew {w : World} {x : Inf} {g o a : Nat} {p s : ByteArray} {k n : Int} {y : World} (h : y.cell? ⟨w.heap.size, 6, none⟩ = some (.slice (some ⟨g, o, none⟩) x.props.length x.pc) ∧ y.cell? ⟨g, a, none⟩ = some (.string p) ∧ y.cell? ⟨g, a + 1, none⟩ = some (.int .i64 k) ∧ y.cell? ⟨g, a + 2, none⟩ = some (.int .i64 n) ∧ y.cell? ⟨g, a + 3, none⟩ = some (.string s) ∧ g < y.heap.size ∧ IB w x y) : y.drew.cell? ⟨w.heap.size, 6, none⟩ = some (.slice (some ⟨g, o, none⟩) x.props.length x.pc) ∧ y.drew.cell? ⟨g, a, none⟩ = some (.string p) ∧ y.drew.cell? ⟨g, a + 1, none⟩ = some (.int .i64 k) ∧ y.drew.cell? ⟨g, a + 2, none⟩ = some (.int .i64 n) ∧ y.drew.cell? ⟨g, a + 3, none⟩ = some (.string s) ∧ g < y.drew.heap.size ∧ IB w x y.drew := vbs_step (below_drew (Below.refl _ _)) h
theorem vbs_tab {w : World} {x : Inf} {g o a : Nat} {p s : ByteArray} {k n : Int} {y : World} (h : y.cell? ⟨w.heap.size, 6, none⟩ = some (.slice (some ⟨g, o, none⟩) x.props.length x.pc) ∧ y.cell? ⟨g, a, none⟩ = some (.string p) ∧ y.cell? ⟨g, a + 1, none⟩ = some (.int .i64 k) ∧ y.cell? ⟨g, a + 2, none⟩ = some (.int .i64 n) ∧ y.cell? ⟨g, a + 3, none⟩ = some (.string s) ∧ g < y.heap.size ∧ IB w x y) : Tab y := h.2.2.2.2.2.2.tab

/-- A thing's head. -/
def headT (x : Inf) : ByteArray :=
  if x.edge then (⟨#[101, 100, 103, 101, 32]⟩ : ByteArray) ++ num (x.id : Int) ++ ⟨#[32]⟩ ++ num (x.fr : Int) ++ ⟨#[45]⟩ ++ x.ty ++ ⟨#[45, 62]⟩ ++ num (x.tw : Int)
  else (⟨#[110, 111, 100, 101, 32]⟩ : ByteArray) ++ num (x.id : Int)
def midT (x : Inf) : ByteArray := if x.edge then headT x else labT (headT x) x.labels
theorem txt_mid (x : Inf) : x.txt = midT x ++ propsT x.props := by
  unfold Inf.txt midT headT edgeT nodeT
  cases x.edge <;> simp
set_option maxHeartbeats 2000000 in
set_option maxRecDepth 10000 in
theorem info_law (x : Inf) (w : World) (h : x.ok w) (ht : Tab w) :
    Calls Tryd.prog 14 #[.agg x.cells] w fun e w' => e = .returned (.string x.txt) ∧ Below w.heap.size w w' := by
  have hbb := (Below.refl w.heap.size w).alloc (Nat.le_refl _) (.cells #[.int .u64 (x.id : Int), .bool x.edge, .slice x.LA x.labels.length x.lc, .string x.ty, .int .u64 (x.fr : Int), .int .u64 (x.tw : Int), .slice x.PA x.props.length x.pc] 43)
  have HIB := Lib.hid (⟨by simp [go_sem], by simp [go_sem], by simp [go_sem], by simp [go_sem], by simp [go_sem], by simp [go_sem], by simp [go_sem], by simp, ht.below hbb, h.below hbb, hbb⟩ : IB w x (w.alloc (.cells #[.int .u64 (x.id : Int), .bool x.edge, .slice x.LA x.labels.length x.lc, .string x.ty, .int .u64 (x.fr : Int), .int .u64 (x.tw : Int), .slice x.PA x.props.length x.pc] 43)))
  have HI1 := Lib.hid (fuint_ok x.id h.id)
  have HI2 := Lib.hid (fuint_ok x.fr h.fr)
  have HI3 := Lib.hid (fuint_ok x.tw h.tw)
  have z1 := num_size_u x.id h.id
  have z2 := num_size_u x.fr h.fr
  have z3 := num_size_u x.tw h.tw
  have z5 := h.ty
  have HE : Hid (headT x = if x.edge then (⟨#[101, 100, 103, 101, 32]⟩ : ByteArray) ++ num (x.id : Int) ++ ⟨#[32]⟩ ++ num (x.fr : Int) ++ ⟨#[45]⟩ ++ x.ty ++ ⟨#[45, 62]⟩ ++ num (x.tw : Int) else (⟨#[110, 111, 100, 101, 32]⟩ : ByteArray) ++ num (x.id : Int)) := rfl
  unfold Inf.cells
  generalize num (x.id : Int) = sid at *
  generalize num (x.fr : Int) = sfr at *
  generalize num (x.tw : Int) = sto at *
  clear h ht hbb
  go_enter Tryd.func14, Tryd.ntmps14
  go_wp2_with fail
  generalize (w.alloc (.cells #[.int .u64 (x.id : Int), .bool x.edge, .slice x.LA x.labels.length x.lc, .string x.ty, .int .u64 (x.fr : Int), .int .u64 (x.tw : Int), .slice x.PA x.props.length x.pc] 43)) = w0 at *
  generalize Value.agg #[.int .u64 (x.id : Int), .bool x.edge, .slice x.LA x.labels.length x.lc, .string x.ty, .int .u64 (x.fr : Int), .int .u64 (x.tw : Int), .slice x.PA x.props.length x.pc] = P0
  refine (HI1.out _ HIB.out.tab).mono ?_
  rintro e w1 ⟨rfl, hb1⟩
  have HIC := Lib.hid (HIB.out.below hb1)
  have d1 := HIC.out.c1
  clear hb1 HIB
  go_upto_if 11 with fail
  go_cut [3] (fun v wc => v = .string (headT x) ∧ IB w x wc)
  case first =>
    go_wp2_with fail
    · rename_i he
      have e1 : Hid (headT x = (⟨#[101, 100, 103, 101, 32]⟩ : ByteArray) ++ sid ++ ⟨#[32]⟩ ++ sfr ++ ⟨#[45]⟩ ++ x.ty ++ ⟨#[45, 62]⟩ ++ sto) := by show _ = _; rw [HE.out, he]; rfl
      have q0 : (9223372036854775807 < 5 + sid.size) = False := by simp only [eq_iff_iff, iff_false]; omega
      have q1 : (9223372036854775807 < 5 + sid.size + 1) = False := by simp only [eq_iff_iff, iff_false]; omega
      have q2 : (9223372036854775807 < 5 + sid.size + 1 + sfr.size) = False := by simp only [eq_iff_iff, iff_false]; omega
      have q3 : (9223372036854775807 < 5 + sid.size + 1 + sfr.size + 1) = False := by simp only [eq_iff_iff, iff_false]; omega
      have q4 : (9223372036854775807 < 5 + sid.size + 1 + sfr.size + 1 + x.ty.size) = False := by simp only [eq_iff_iff, iff_false]; omega
      have q5 : (9223372036854775807 < 5 + sid.size + 1 + sfr.size + 1 + x.ty.size + 2) = False := by simp only [eq_iff_iff, iff_false]; omega
      have q6 : (9223372036854775807 < 5 + sid.size + 1 + sfr.size + 1 + x.ty.size + 2 + sto.size) = False := by simp only [eq_iff_iff, iff_false]; omega
      have HSS : w1.cell? ⟨w.heap.size, 0, none⟩ = some (.int .u64 (x.id : Int)) ∧ w1.cell? ⟨w.heap.size, 3, none⟩ = some (.string x.ty) ∧ w1.cell? ⟨w.heap.size, 4, none⟩ = some (.int .u64 (x.fr : Int)) ∧ w1.cell? ⟨w.heap.size, 5, none⟩ = some (.int .u64 (x.tw : Int)) ∧ IB w x w1 := ibs HIC.out
      clear HIC d1
      go_region_held3 (fun w' => w'.cell? ⟨w.heap.size, 0, none⟩ = some (.int .u64 (x.id : Int)) ∧ w'.cell? ⟨w.heap.size, 3, none⟩ = some (.string x.ty) ∧ w'.cell? ⟨w.heap.size, 4, none⟩ = some (.int .u64 (x.fr : Int)) ∧ w'.cell? ⟨w.heap.size, 5, none⟩ = some (.int .u64 (x.tw : Int)) ∧ IB w x w') (first | assumption | (apply ibs_drew; assumption) | (apply ibs_step; assumption; assumption))
        (first
          | (go_at_call 10; (first | (refine (HI1.out _ (ibs_tab (by assumption))).mono ?_) | (refine (HI2.out _ (ibs_tab (by assumption))).mono ?_) | (refine (HI3.out _ (ibs_tab (by assumption))).mono ?_)); rintro y w' ⟨rfl, hb⟩))
      rename_i hK
      have HIK := Lib.hid hK.2.2.2.2
      clear hK HSS
      go_wp2_with fail
      go_meet
      exact ⟨by rw [e1.out], HIK.out⟩
    · rename_i he
      have e1 : Hid (headT x = (⟨#[110, 111, 100, 101, 32]⟩ : ByteArray) ++ sid) := by show _ = _; rw [HE.out, he]; rfl
      go_meet
      exact ⟨by rw [e1.out], HIC.out⟩
  case rest =>
    obtain ⟨rfl, hib⟩ := hcut
    have HID := Lib.hid hib
    have zh : (headT x).size ≤ 100 := by
      rw [HE.out]
      have a : (⟨#[101, 100, 103, 101, 32]⟩ : ByteArray).size = 5 := rfl
      have b : (⟨#[32]⟩ : ByteArray).size = 1 := rfl
      have c : (⟨#[45]⟩ : ByteArray).size = 1 := rfl
      have d : (⟨#[45, 62]⟩ : ByteArray).size = 2 := rfl
      have f : (⟨#[110, 111, 100, 101, 32]⟩ : ByteArray).size = 5 := rfl
      split <;> simp only [ByteArray.size_append] <;> omega
    clear hib HIC d1 HI1 HI2 HI3 HE
    have HMT : Hid (midT x = if x.edge then headT x else labT (headT x) x.labels) := rfl
    have HTX := Lib.hid (txt_mid x)
    go_wp2_with fail
    go_loopg [3, 4] x.labels.length (fun q v i wr => ∃ (j : Nat), q + j = x.labels.length ∧ i = .int .i64 (j : Int) ∧ v = .string (labT (headT x) (x.labels.take j)) ∧ (x.edge = true → j = 0) ∧ IB w x wr)
    case atStart => exact ⟨0, rfl, rfl, rfl, fun _ => rfl, HID.out⟩
    case round =>
      obtain ⟨j, hj, rfl, rfl, hje, hib⟩ := hrel
      have HIB := Lib.hid hib
      have c1 := hib.c1
      have c2 := hib.c2
      have hnl := hib.ok.nl
      have hsz2 : (labT (headT x) (x.labels.take j)).size ≤ 100000 := by
        have := labT_size 10 (x.labels.take j) (headT x) (fun l hl => hib.ok.lab l (List.mem_of_mem_take hl))
        rw [List.length_take] at this
        have h2 : min j x.labels.length ≤ 1000 := by omega
        omega
      have HJE := Lib.hid hje
      clear hib hje HID
      by_cases hcont : x.edge = false ∧ j < x.labels.length
      · obtain ⟨he, hlt⟩ := hcont
        rcases HIB.out.ok.rs with h0 | ⟨g, o, hLA, hg, hl⟩
        · exact absurd hlt (by rw [h0]; simp)
        have hc := hl j hlt
        have HSN := Lib.hid (labT_snoc (headT x) x.labels j hlt)
        have hz := HIB.out.ok.lab _ (List.getElem_mem hlt)
        have he2 : (!x.edge) = true := by rw [he]; rfl
        rw [hLA] at c2
        clear hl hg
        generalize x.labels[j] = lj at *
        generalize labT (headT x) (x.labels.take j) = Tj at *
        rw [he] at c1
        go_wp2_with fail
        go_roundg (gk - 1)
        case measure => omega
        case rel => exact ⟨j + 1, by omega, by go_num, by rw [HSN.out], (fun h => by rw [he] at h; cases h), HIB.out⟩
      · have hmid : labT (headT x) (x.labels.take j) = midT x := by
          rw [HMT.out]
          cases he : x.edge with
          | true => rw [if_pos rfl, HJE.out he]; rfl
          | false => rw [if_neg (by simp), List.take_of_length_le (by
              rcases Nat.lt_or_ge j x.labels.length with h | h
              · exact absurd ⟨he, h⟩ hcont
              · exact h)]
        have hcase : (x.edge = true ∧ j < x.labels.length) ∨ (x.edge = true ∧ ¬ j < x.labels.length) ∨ (x.edge = false ∧ ¬ j < x.labels.length) := by
          cases he : x.edge with
          | true => rcases Nat.lt_or_ge j x.labels.length with h | h
                    · exact .inl ⟨rfl, h⟩
                    · exact .inr (.inl ⟨rfl, by omega⟩)
          | false => exact .inr (.inr ⟨rfl, fun h => hcont ⟨he, h⟩⟩)
        rw [hmid] at hsz2 ⊢
        clear hmid hcont HJE HMT
        generalize midT x = M at *
        have c6 := HIB.out.c6
        have hj2 : j ≤ 1000 := by omega
        rcases hcase with ⟨he, hl⟩ | ⟨he, hl⟩ | ⟨he, hl⟩
        all_goals
          rw [he] at c1
          go_wp2_with fail
          go_loopg [3, 5] x.props.length (fun q v i wr => ∃ (j : Nat), q + j = x.props.length ∧ i = .int .i64 (j : Int) ∧ v = .string (propsL M x.props j) ∧ IB w x wr)
          case atStart => exact ⟨0, rfl, rfl, rfl, HIB.out⟩
          case round =>
            clear c1 c2 c6 hl he hj2 hnl HIB
            obtain ⟨j, hj, rfl, rfl, hib⟩ := hrel
            have HIC := Lib.hid hib
            have c6 := hib.c6
            have hnp := hib.ok.np
            have hpr := Lib.hid hib.ok.pr
            have hz2 := propsL_size M x.props hpr.out j (by omega)
            have hz3 : (propsL M x.props j).size ≤ 10000000 := by
              have : j * 4216 ≤ 1000 * 4216 := Nat.mul_le_mul_right _ (by omega)
              omega
            clear hz2
            by_cases hlt : j < x.props.length
            · rcases hib.ok.rp with h0 | ⟨g, o, hPA, hg, hl⟩
              · exact absurd hlt (by rw [h0]; simp)
              obtain ⟨d0, d1, d2, d3⟩ := hl j hlt
              have hsh := hpr.out _ (List.getElem_mem hlt)
              have HVL := Lib.hid (fun w ht => value_law x.props[j].v hsh.2 w ht)
              have hzp := hsh.1
              have hzv := x.props[j].v.txt_size hsh.2
              rw [hPA] at c6
              have HSS0 : Hid (g < wr.heap.size ∧ IB w x wr) := ⟨hg, hib⟩
              have hstep : ∀ sep, (if j = 0 then (⟨#[32, 123]⟩ : ByteArray) else ⟨#[44, 32]⟩) = sep → propsL M x.props (j + 1) = (propsL M x.props j ++ sep) ++ (x.props[j].p ++ ⟨#[58, 32]⟩ ++ x.props[j].v.txt) := fun sep h => by
                rw [propsL, h, getD_at _ _ _ hlt]; rfl
              clear hl hg hib hsh
              generalize propsL M x.props j = Tj at *
              generalize x.props[j] = xx at *
              obtain ⟨xp, xk, xn, xs⟩ := xx
              simp only at d0 d1 d2 d3 HVL hzp hzv hstep
              generalize (Vl.mk xk xn xs).txt = S at *
              unfold Vl.val at HVL
              simp only at HVL
              have HSS : wr.cell? ⟨w.heap.size, 6, none⟩ = some (.slice (some ⟨g, o, none⟩) x.props.length x.pc) ∧ wr.cell? ⟨g, o + j * 4, none⟩ = some (.string xp) ∧ wr.cell? ⟨g, o + j * 4 + 1, none⟩ = some (.int .i64 xk) ∧ wr.cell? ⟨g, o + j * 4 + 2, none⟩ = some (.int .i64 xn) ∧ wr.cell? ⟨g, o + j * 4 + 3, none⟩ = some (.string xs) ∧ g < wr.heap.size ∧ IB w x wr := ⟨c6, d0, d1, d2, d3, HSS0.out.1, HSS0.out.2⟩
              clear d0 d1 d2 d3
              have q0 : (9223372036854775807 < xp.size + 2) = False := by simp only [eq_iff_iff, iff_false]; omega
              have q1 : (9223372036854775807 < xp.size + 2 + S.size) = False := by simp only [eq_iff_iff, iff_false]; omega
              have q2 : (9223372036854775807 < Tj.size + 2 + (xp.size + 2 + S.size)) = False := by simp only [eq_iff_iff, iff_false]; omega
              have hli : (j : Int) < (x.props.length : Int) := by omega
              have hjn : j ≤ 1000 := by omega
              by_cases hj0 : j = 0
              · have HSN := Lib.hid (hstep _ (if_pos hj0))
                have hjb : ((j : Int) == 0) = true := by simpa using hj0
                clear hstep hj0
                go_wp2_with fail
                go_region_held3 (fun w' => w'.cell? ⟨w.heap.size, 6, none⟩ = some (.slice (some ⟨g, o, none⟩) x.props.length x.pc) ∧ w'.cell? ⟨g, o + j * 4, none⟩ = some (.string xp) ∧ w'.cell? ⟨g, o + j * 4 + 1, none⟩ = some (.int .i64 xk) ∧ w'.cell? ⟨g, o + j * 4 + 2, none⟩ = some (.int .i64 xn) ∧ w'.cell? ⟨g, o + j * 4 + 3, none⟩ = some (.string xs) ∧ g < w'.heap.size ∧ IB w x w') (first | assumption | (apply vbs_drew; assumption) | (apply vbs_step; assumption; assumption))
                  (first
                    | (go_at_call 16; refine (HVL.out _ (vbs_tab (by assumption))).mono ?_; rintro y w' ⟨rfl, hb⟩))
                rename_i hK
                have HIK := Lib.hid hK.2.2.2.2.2.2
                clear hK HSS
                go_wp2_with fail
                go_roundg (gk - 1)
                case measure => omega
                case rel => exact ⟨j + 1, by omega, by go_num, by rw [HSN.out], HIK.out⟩
              · have HSN := Lib.hid (hstep _ (if_neg hj0))
                have hjb : ((j : Int) == 0) = false := by simpa using hj0
                clear hstep hj0
                go_wp2_with fail
                go_region_held3 (fun w' => w'.cell? ⟨w.heap.size, 6, none⟩ = some (.slice (some ⟨g, o, none⟩) x.props.length x.pc) ∧ w'.cell? ⟨g, o + j * 4, none⟩ = some (.string xp) ∧ w'.cell? ⟨g, o + j * 4 + 1, none⟩ = some (.int .i64 xk) ∧ w'.cell? ⟨g, o + j * 4 + 2, none⟩ = some (.int .i64 xn) ∧ w'.cell? ⟨g, o + j * 4 + 3, none⟩ = some (.string xs) ∧ g < w'.heap.size ∧ IB w x w') (first | assumption | (apply vbs_drew; assumption) | (apply vbs_step; assumption; assumption))
                  (first
                    | (go_at_call 16; refine (HVL.out _ (vbs_tab (by assumption))).mono ?_; rintro y w' ⟨rfl, hb⟩))
                rename_i hK
                have HIK := Lib.hid hK.2.2.2.2.2.2
                clear hK HSS
                go_wp2_with fail
                go_roundg (gk - 1)
                case measure => omega
                case rel => exact ⟨j + 1, by omega, by go_num, by rw [HSN.out], HIK.out⟩
            · obtain rfl : j = x.props.length := by omega
              by_cases hp0 : x.props = []
              · have e1 : Hid (x.txt = propsL M x.props x.props.length) := by
                  show _ = _
                  rw [HTX.out, hp0]
                  show M ++ (⟨#[]⟩ : ByteArray) = M
                  exact ByteArray.append_empty
                have hl0 : x.props.length = 0 := by rw [hp0]; rfl
                clear hib
                generalize propsL M x.props x.props.length = Tj at *
                go_wp2_with fail
                go_ret
                exact ⟨by rw [e1.out]; rfl, HIC.out.hb⟩
              · have e1 : Hid (x.txt = propsL M x.props x.props.length ++ ⟨#[125]⟩) := by
                  show _ = _
                  rw [HTX.out, propsL_all M x.props hp0]
                have hl0 : 0 < x.props.length := List.length_pos_iff.2 hp0
                clear hib hp0
                generalize propsL M x.props x.props.length = Tj at *
                go_wp2_with fail
                go_ret
                exact ⟨by rw [e1.out]; rfl, HIC.out.hb⟩
end Go.Proofs.YtkcgnodmjmpnhaaDoor
