import Derived.Test.YtkcgnodmjmpnhaaDoorF2
namespace Go.Proofs.YtkcgnodmjmpnhaaDoor
open Go.RowKit Go.Shelf Go.Lib Go.Sort
set_option linter.unusedVariables false

theorem four_step {g : Nat} {a b c d : Value} {w w1 w2 : World} (hb : Below w1.heap.size w1 w2)
    (h : w1.cell? ⟨g, 0, none⟩ = some a ∧ w1.cell? ⟨g, 1, none⟩ = some b ∧ w1.cell? ⟨g, 2, none⟩ = some c ∧ w1.cell? ⟨g, 3, none⟩ = some d ∧ g < w1.heap.size ∧ Tab w1 ∧ Below w.heap.size w w1 ∧ w.heap.size ≤ w1.heap.size) :
    w2.cell? ⟨g, 0, none⟩ = some a ∧ w2.cell? ⟨g, 1, none⟩ = some b ∧ w2.cell? ⟨g, 2, none⟩ = some c ∧ w2.cell? ⟨g, 3, none⟩ = some d ∧ g < w2.heap.size ∧ Tab w2 ∧ Below w.heap.size w w2 ∧ w.heap.size ≤ w2.heap.size := by
  obtain ⟨h0, h1, h2, h3, hg, hT, hB, hs⟩ := h
  exact ⟨below_cell hb hg h0, below_cell hb hg h1, below_cell hb hg h2, below_cell hb hg h3, Nat.lt_of_lt_of_le hg hb.size, hT.below hb, hB.trans (hb.mono hs), Nat.le_trans hs hb.size⟩
theorem four_tab {g : Nat} {a b c d : Value} {w w1 : World}
    (h : w1.cell? ⟨g, 0, none⟩ = some a ∧ w1.cell? ⟨g, 1, none⟩ = some b ∧ w1.cell? ⟨g, 2, none⟩ = some c ∧ w1.cell? ⟨g, 3, none⟩ = some d ∧ g < w1.heap.size ∧ Tab w1 ∧ Below w.heap.size w w1 ∧ w.heap.size ≤ w1.heap.size) : Tab w1 := h.2.2.2.2.2.1
theorem below_drew {B : Nat} {w w1 : World} (h : Below B w w1) : Below B w w1.drew := ⟨h.os, h.tape, h.output, h.size, h.block⟩
theorem four_drew {g : Nat} {a b c d : Value} {w w1 : World}
    (h : w1.cell? ⟨g, 0, none⟩ = some a ∧ w1.cell? ⟨g, 1, none⟩ = some b ∧ w1.cell? ⟨g, 2, none⟩ = some c ∧ w1.cell? ⟨g, 3, none⟩ = some d ∧ g < w1.heap.size ∧ Tab w1 ∧ Below w.heap.size w w1 ∧ w.heap.size ≤ w1.heap.size) :
    w1.drew.cell? ⟨g, 0, none⟩ = some a ∧ w1.drew.cell? ⟨g, 1, none⟩ = some b ∧ w1.drew.cell? ⟨g, 2, none⟩ = some c ∧ w1.drew.cell? ⟨g, 3, none⟩ = some d ∧ g < w1.drew.heap.size ∧ Tab w1.drew ∧ Below w.heap.size w w1.drew ∧ w.heap.size ≤ w1.drew.heap.size :=
  ⟨h.1, h.2.1, h.2.2.1, h.2.2.2.1, h.2.2.2.2.1, h.2.2.2.2.2.1, below_drew h.2.2.2.2.2.2.1, h.2.2.2.2.2.2.2⟩

theorem stat_last (a b c d : Int) (e : Nat) (t : Bool) (ha : In64 a) (hb : In64 b) (hc : In64 c) (hd : In64 d) (he : e < 4294967296) :
    ∃ T : ByteArray, (T = if t then standT (num a) (num b) (num c) (num d) (num e) ++ ⟨#[32, 116, 117, 114, 110, 115]⟩ else standT (num a) (num b) (num c) (num d) (num e)) ∧
      ∀ w, Tab w → Calls Tryd.prog 11 #[.agg #[.int .i64 a, .int .i64 b, .int .i64 c, .int .i64 d, .int .u32 e, .bool t, .int .u64 0]] w fun x w' => x = .returned (.string T) ∧ Below w.heap.size w w' :=
  ⟨_, rfl, fun w ht => stat_ok a b c d e t ha hb hc hd he w ht⟩

set_option maxHeartbeats 4000000 in
theorem stats_walk (a b c d : Int) (e : Nat) (t : Bool) (ha : In64 a) (hb : In64 b) (hc : In64 c) (hd : In64 d) (he : e < 4294967296) (w : World) (ht : Tab w) :
    Calls Tryd.prog 4 #[.agg #[.int .i64 a, .int .i64 b, .int .i64 c, .int .i64 d], .int .u32 e, .bool t] w fun x w' => x = .returned (.bool true) ∧ Below w.heap.size w w' := by
  obtain ⟨T, hTe, hST⟩ := stat_last a b c d e t ha hb hc hd he
  have HTE : Hid (T = _) := hTe
  have HST := Lib.hid hST
  clear hTe hST
  have za := num_size a ha.1 ha.2
  have zb := num_size b hb.1 hb.2
  have zc := num_size c hc.1 hc.2
  have zd := num_size d hd.1 hd.2
  have ze := num_size e (by omega) (by omega)
  have HN := Lib.hid (num_ok a ha.1 ha.2)
  have HA := Lib.hid (itoa_ok a ha.1 ha.2)
  have HB := Lib.hid (itoa_ok b hb.1 hb.2)
  have HC := Lib.hid (itoa_ok c hc.1 hc.2)
  have HD := Lib.hid (itoa_ok d hd.1 hd.2)
  have HE := Lib.hid (fuint_ok e (by omega))
  have HW := Lib.hid awake_ok
  have hcv : IntKind.u64.wrap (e : Int) = e := by rw [IntKind.wrap_u64]; omega
  have HT := Lib.hid ht
  clear ha hb hc hd ht he
  generalize num a = sa at *
  generalize num b = sb at *
  generalize num c = sc at *
  generalize num d = sd at *
  generalize num (e : Int) = se at *
  go_enter Tryd.func4, Tryd.ntmps4
  go_wp2_with fail
  have HS : _ := (⟨by simp [go_sem], by simp [go_sem], by simp [go_sem], by simp [go_sem], by simp, HT.out.below ((Below.refl _ _).alloc (Nat.le_refl _) _), (Below.refl _ _).alloc (Nat.le_refl _) _, by simp⟩ : 
    (w.alloc (.cells #[.int .i64 a, .int .i64 b, .int .i64 c, .int .i64 d] 26)).cell? ⟨w.heap.size, 0, none⟩ = some (.int .i64 a) ∧ (w.alloc (.cells #[.int .i64 a, .int .i64 b, .int .i64 c, .int .i64 d] 26)).cell? ⟨w.heap.size, 1, none⟩ = some (.int .i64 b) ∧ (w.alloc (.cells #[.int .i64 a, .int .i64 b, .int .i64 c, .int .i64 d] 26)).cell? ⟨w.heap.size, 2, none⟩ = some (.int .i64 c) ∧ (w.alloc (.cells #[.int .i64 a, .int .i64 b, .int .i64 c, .int .i64 d] 26)).cell? ⟨w.heap.size, 3, none⟩ = some (.int .i64 d) ∧ w.heap.size < (w.alloc (.cells #[.int .i64 a, .int .i64 b, .int .i64 c, .int .i64 d] 26)).heap.size ∧ Tab (w.alloc (.cells #[.int .i64 a, .int .i64 b, .int .i64 c, .int .i64 d] 26)) ∧ Below w.heap.size w (w.alloc (.cells #[.int .i64 a, .int .i64 b, .int .i64 c, .int .i64 d] 26)) ∧ w.heap.size ≤ (w.alloc (.cells #[.int .i64 a, .int .i64 b, .int .i64 c, .int .i64 d] 26)).heap.size)
  generalize w.alloc (.cells #[.int .i64 a, .int .i64 b, .int .i64 c, .int .i64 d] 26) = w0 at *
  clear HT
  have q0 : (9223372036854775807 < 8 + sa.size) = False := by simp only [eq_iff_iff, iff_false]; omega
  have q1 : (9223372036854775807 < 8 + sa.size + 5) = False := by simp only [eq_iff_iff, iff_false]; omega
  have q2 : (9223372036854775807 < 8 + sa.size + 5 + sb.size) = False := by simp only [eq_iff_iff, iff_false]; omega
  have q3 : (9223372036854775807 < 8 + sa.size + 5 + sb.size + 6) = False := by simp only [eq_iff_iff, iff_false]; omega
  have q4 : (9223372036854775807 < 8 + sa.size + 5 + sb.size + 6 + sc.size) = False := by simp only [eq_iff_iff, iff_false]; omega
  have q5 : (9223372036854775807 < 8 + sa.size + 5 + sb.size + 6 + sc.size + 7) = False := by simp only [eq_iff_iff, iff_false]; omega
  have q6 : (9223372036854775807 < 8 + sa.size + 5 + sb.size + 6 + sc.size + 7 + sd.size) = False := by simp only [eq_iff_iff, iff_false]; omega
  have q7 : (9223372036854775807 < 8 + sa.size + 5 + sb.size + 6 + sc.size + 7 + sd.size + 7) = False := by simp only [eq_iff_iff, iff_false]; omega
  have q8 : (9223372036854775807 < 8 + sa.size + 5 + sb.size + 6 + sc.size + 7 + sd.size + 7 + se.size) = False := by simp only [eq_iff_iff, iff_false]; omega
  have q9 : (9223372036854775807 < 8 + sa.size + 5 + sb.size + 6 + sc.size + 7 + sd.size + 7 + se.size + 6) = False := by simp only [eq_iff_iff, iff_false]; omega
  go_region_held3 (fun w' => w'.cell? ⟨w.heap.size, 0, none⟩ = some (.int .i64 a) ∧ w'.cell? ⟨w.heap.size, 1, none⟩ = some (.int .i64 b) ∧ w'.cell? ⟨w.heap.size, 2, none⟩ = some (.int .i64 c) ∧ w'.cell? ⟨w.heap.size, 3, none⟩ = some (.int .i64 d) ∧ w.heap.size < w'.heap.size ∧ Tab w' ∧ Below w.heap.size w w' ∧ w.heap.size ≤ w'.heap.size) (first | assumption | (apply four_drew; assumption) | (apply four_step; assumption; assumption))
    (first
      | (go_at_call 9; (first | (refine (HA.out _ (four_tab (by assumption))).mono ?_) | (refine (HB.out _ (four_tab (by assumption))).mono ?_) | (refine (HC.out _ (four_tab (by assumption))).mono ?_) | (refine (HD.out _ (four_tab (by assumption))).mono ?_)); rintro x w' ⟨rfl, hb⟩)
      | (go_at_call 10; refine (HE.out _ (four_tab (by assumption))).mono ?_; rintro x w' ⟨rfl, hb⟩))
  rename_i wk hbk hK
  clear q0 q1 q2 q3 q4 q5 q6 q7 q8
  clear HS
  cases t
  all_goals
    have hq := HTE.out.symm
    simp only [if_true, if_false, Bool.false_eq_true] at hq
    unfold standT at hq
    go_wp2_with fail
    try rw [hq]
    clear HTE hq
    go_region_held3 (fun w' => w'.cell? ⟨w.heap.size, 0, none⟩ = some (.int .i64 a) ∧ w'.cell? ⟨w.heap.size, 1, none⟩ = some (.int .i64 b) ∧ w'.cell? ⟨w.heap.size, 2, none⟩ = some (.int .i64 c) ∧ w'.cell? ⟨w.heap.size, 3, none⟩ = some (.int .i64 d) ∧ w.heap.size < w'.heap.size ∧ Tab w' ∧ Below w.heap.size w w' ∧ w.heap.size ≤ w'.heap.size) (first | assumption | (apply four_drew; assumption) | (apply four_step; assumption; assumption))
      (first
        | (go_at_call 6; refine (HW.out _ (four_tab (by assumption))).mono ?_; rintro x w' ⟨rfl, hb⟩)
        | (go_at_call 9; refine (HA.out _ (four_tab (by assumption))).mono ?_; rintro x w' ⟨rfl, hb⟩)
        | (go_at_call 11; refine (HST.out _ (four_tab (by assumption))).mono ?_; rintro x w' ⟨rfl, hb⟩)
        | (go_at_call 12; refine (HN.out _ (four_tab (by assumption))).mono ?_; rintro x w' ⟨rfl, hb⟩))
    rename_i hK2
    have KB := Lib.hid hK2.2.2.2.2.2.2.1
    clear hK2
    go_wp2
    go_ret
    exact ⟨by simp, KB.out⟩
end Go.Proofs.YtkcgnodmjmpnhaaDoor
