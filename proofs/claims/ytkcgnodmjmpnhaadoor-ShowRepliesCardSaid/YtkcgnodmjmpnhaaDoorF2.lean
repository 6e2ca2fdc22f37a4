import Derived.Test.YtkcgnodmjmpnhaaDoorF1
import Derived.Deep.RegionHeld3
namespace Go.Proofs.YtkcgnodmjmpnhaaDoor
open Go.RowKit Go.Shelf Go.Lib Go.Sort
set_option linter.unusedVariables false

theorem below_cell {B : Nat} {w w' : World} (hb : Below B w w') {b i : Nat} {v : Value} (hlt : b < B) (h : w.cell? ⟨b, i, none⟩ = some v) : w'.cell? ⟨b, i, none⟩ = some v := by
  rw [World.cell?_of_block (w := w) (hb.block b hlt)]; exact h
/-- How a store stands: the first line of it. -/
def standT (a b c d e : ByteArray) : ByteArray :=
  (⟨#[99, 104, 97, 110, 103, 101, 115, 32]⟩ : ByteArray) ++ a ++ ⟨#[32, 108, 111, 103, 32]⟩ ++ b ++ ⟨#[32, 102, 114, 101, 101, 32]⟩ ++ c ++ ⟨#[32, 116, 97, 107, 101, 110, 32]⟩ ++ d ++ ⟨#[32, 101, 112, 111, 99, 104, 32]⟩ ++ e

/-- The cells of a boxed store's state, the table, and what is below. -/
theorem stat_step {g : Nat} {a b c d e t : Value} {w w1 w2 : World} (hb : Below w1.heap.size w1 w2)
    (h : w1.cell? ⟨g, 0, none⟩ = some a ∧ w1.cell? ⟨g, 1, none⟩ = some b ∧ w1.cell? ⟨g, 2, none⟩ = some c ∧ w1.cell? ⟨g, 3, none⟩ = some d ∧ w1.cell? ⟨g, 4, none⟩ = some e ∧ w1.cell? ⟨g, 5, none⟩ = some t ∧ g < w1.heap.size ∧ Tab w1 ∧ Below w.heap.size w w1 ∧ w.heap.size ≤ w1.heap.size) :
    w2.cell? ⟨g, 0, none⟩ = some a ∧ w2.cell? ⟨g, 1, none⟩ = some b ∧ w2.cell? ⟨g, 2, none⟩ = some c ∧ w2.cell? ⟨g, 3, none⟩ = some d ∧ w2.cell? ⟨g, 4, none⟩ = some e ∧ w2.cell? ⟨g, 5, none⟩ = some t ∧ g < w2.heap.size ∧ Tab w2 ∧ Below w.heap.size w w2 ∧ w.heap.size ≤ w2.heap.size := by
  obtain ⟨h0, h1, h2, h3, h4, h5, hg, hT, hB, hs⟩ := h
  exact ⟨below_cell hb hg h0, below_cell hb hg h1, below_cell hb hg h2, below_cell hb hg h3, below_cell hb hg h4, below_cell hb hg h5, Nat.lt_of_lt_of_le hg hb.size, hT.below hb, hB.trans (hb.mono hs), Nat.le_trans hs hb.size⟩

theorem stat_tab {g : Nat} {a b c d e t : Value} {w w1 : World}
    (h : w1.cell? ⟨g, 0, none⟩ = some a ∧ w1.cell? ⟨g, 1, none⟩ = some b ∧ w1.cell? ⟨g, 2, none⟩ = some c ∧ w1.cell? ⟨g, 3, none⟩ = some d ∧ w1.cell? ⟨g, 4, none⟩ = some e ∧ w1.cell? ⟨g, 5, none⟩ = some t ∧ g < w1.heap.size ∧ Tab w1 ∧ Below w.heap.size w w1 ∧ w.heap.size ≤ w1.heap.size) : Tab w1 := h.2.2.2.2.2.2.2.1

theorem stat_drew {g : Nat} {a b c d e t : Value} {w w1 : World}
    (h : w1.cell? ⟨g, 0, none⟩ = some a ∧ w1.cell? ⟨g, 1, none⟩ = some b ∧ w1.cell? ⟨g, 2, none⟩ = some c ∧ w1.cell? ⟨g, 3, none⟩ = some d ∧ w1.cell? ⟨g, 4, none⟩ = some e ∧ w1.cell? ⟨g, 5, none⟩ = some t ∧ g < w1.heap.size ∧ Tab w1 ∧ Below w.heap.size w w1 ∧ w.heap.size ≤ w1.heap.size) :
    w1.drew.cell? ⟨g, 0, none⟩ = some a ∧ w1.drew.cell? ⟨g, 1, none⟩ = some b ∧ w1.drew.cell? ⟨g, 2, none⟩ = some c ∧ w1.drew.cell? ⟨g, 3, none⟩ = some d ∧ w1.drew.cell? ⟨g, 4, none⟩ = some e ∧ w1.drew.cell? ⟨g, 5, none⟩ = some t ∧ g < w1.drew.heap.size ∧ Tab w1.drew ∧ Below w.heap.size w w1.drew ∧ w.heap.size ≤ w1.drew.heap.size :=
  ⟨h.1, h.2.1, h.2.2.1, h.2.2.2.1, h.2.2.2.2.1, h.2.2.2.2.2.1, h.2.2.2.2.2.2.1, h.2.2.2.2.2.2.2.1, ⟨h.2.2.2.2.2.2.2.2.1.os, h.2.2.2.2.2.2.2.2.1.tape, h.2.2.2.2.2.2.2.2.1.output, h.2.2.2.2.2.2.2.2.1.size, h.2.2.2.2.2.2.2.2.1.block⟩, h.2.2.2.2.2.2.2.2.2⟩

def In64 (n : Int) : Prop := -9223372036854775808 ≤ n ∧ n ≤ 9223372036854775807

set_option maxHeartbeats 1000000 in
theorem stat_ok (a b c d : Int) (e : Nat) (t : Bool) (ha : In64 a) (hb : In64 b) (hc : In64 c) (hd : In64 d) (he : e < 4294967296) (w : World) (ht : Tab w) :
    Calls Tryd.prog 11 #[.agg #[.int .i64 a, .int .i64 b, .int .i64 c, .int .i64 d, .int .u32 e, .bool t, .int .u64 0]] w fun x w' =>
      x = .returned (.string (if t then standT (num a) (num b) (num c) (num d) (num e) ++ ⟨#[32, 116, 117, 114, 110, 115]⟩ else standT (num a) (num b) (num c) (num d) (num e))) ∧ Below w.heap.size w w' := by
  have za := num_size a ha.1 ha.2
  have zb := num_size b hb.1 hb.2
  have zc := num_size c hc.1 hc.2
  have zd := num_size d hd.1 hd.2
  have ze := num_size e (by omega) (by omega)
  have HA := Lib.hid (num_ok a ha.1 ha.2)
  have HB := Lib.hid (num_ok b hb.1 hb.2)
  have HC := Lib.hid (num_ok c hc.1 hc.2)
  have HD := Lib.hid (num_ok d hd.1 hd.2)
  have HE := Lib.hid (id_ok e (by omega))
  have hcv : IntKind.u64.wrap (e : Int) = e := by rw [IntKind.wrap_u64]; omega
  have HT := Lib.hid ht
  clear ha hb hc hd ht he
  generalize num a = sa at *
  generalize num b = sb at *
  generalize num c = sc at *
  generalize num d = sd at *
  generalize num (e : Int) = se at *
  go_enter Tryd.func11, Tryd.ntmps11
  go_wp2_with fail
  have HS : _ := (⟨by simp [go_sem], by simp [go_sem], by simp [go_sem], by simp [go_sem], by simp [go_sem], by simp [go_sem], by simp, HT.out.below ((Below.refl _ _).alloc (Nat.le_refl _) _), (Below.refl _ _).alloc (Nat.le_refl _) _, by simp⟩ : 
    (w.alloc (.cells #[.int .i64 a, .int .i64 b, .int .i64 c, .int .i64 d, .int .u32 e, .bool t, .int .u64 0] 33)).cell? ⟨w.heap.size, 0, none⟩ = some (.int .i64 a) ∧ (w.alloc (.cells #[.int .i64 a, .int .i64 b, .int .i64 c, .int .i64 d, .int .u32 e, .bool t, .int .u64 0] 33)).cell? ⟨w.heap.size, 1, none⟩ = some (.int .i64 b) ∧ (w.alloc (.cells #[.int .i64 a, .int .i64 b, .int .i64 c, .int .i64 d, .int .u32 e, .bool t, .int .u64 0] 33)).cell? ⟨w.heap.size, 2, none⟩ = some (.int .i64 c) ∧ (w.alloc (.cells #[.int .i64 a, .int .i64 b, .int .i64 c, .int .i64 d, .int .u32 e, .bool t, .int .u64 0] 33)).cell? ⟨w.heap.size, 3, none⟩ = some (.int .i64 d) ∧ (w.alloc (.cells #[.int .i64 a, .int .i64 b, .int .i64 c, .int .i64 d, .int .u32 e, .bool t, .int .u64 0] 33)).cell? ⟨w.heap.size, 4, none⟩ = some (.int .u32 e) ∧ (w.alloc (.cells #[.int .i64 a, .int .i64 b, .int .i64 c, .int .i64 d, .int .u32 e, .bool t, .int .u64 0] 33)).cell? ⟨w.heap.size, 5, none⟩ = some (.bool t) ∧ w.heap.size < (w.alloc (.cells #[.int .i64 a, .int .i64 b, .int .i64 c, .int .i64 d, .int .u32 e, .bool t, .int .u64 0] 33)).heap.size ∧ Tab (w.alloc (.cells #[.int .i64 a, .int .i64 b, .int .i64 c, .int .i64 d, .int .u32 e, .bool t, .int .u64 0] 33)) ∧ Below w.heap.size w (w.alloc (.cells #[.int .i64 a, .int .i64 b, .int .i64 c, .int .i64 d, .int .u32 e, .bool t, .int .u64 0] 33)) ∧ w.heap.size ≤ (w.alloc (.cells #[.int .i64 a, .int .i64 b, .int .i64 c, .int .i64 d, .int .u32 e, .bool t, .int .u64 0] 33)).heap.size)
  generalize w.alloc (.cells #[.int .i64 a, .int .i64 b, .int .i64 c, .int .i64 d, .int .u32 e, .bool t, .int .u64 0] 33) = w0 at *
  clear HT
  have q0 : (9223372036854775807 < 8 + sa.size) = False := by simp only [eq_iff_iff, iff_false]; omega
  have q1 : (9223372036854775807 < 8 + sa.size + 5) = False := by simp only [eq_iff_iff, iff_false]; omega
  have q2 : (9223372036854775807 < 8 + sa.size + 5 + sb.size) = False := by simp only [eq_iff_iff, iff_false]; omega
  have q3 : (9223372036854775807 < 8 + sa.size + 5 + sb.size + 6) = False := by simp only [eq_iff_iff, iff_false]; omega
  have q4 : (9223372036854775807 < 8 + sa.size + 5 + sb.size + 6 + sc.size) = False := by simp only [eq_iff_iff, iff_false]; omega
  have q5 : (9223372036854775807 < 8 + sa.size + 5 + sb.size + 6 + sc.size + 7) = False := by simp only [eq_iff_iff, iff_false]; omega
  have q6 : (9223372036854775807 < 8 + sa.size + 5 + sb.size + 6 + sc.size + 7 + sd.size) = False := by simp only [eq_iff_iff, iff_false]; omega
  have q7 : (9223372036854775807 < 8 + sa.size + 5 + sb.size + 6 + sc.size + 7 + sd.size + 7) = False := by simp only [eq_iff_iff, iff_false]; omega
  have q8 : (9223372036854775807 < 8 + sa.size + 5 + sb.size + 6 + sc.size + 7 + sd.size + 7 + se.size) = False := by simp only [eq_iff_iff, iff_false]; omega
  have q9 : (9223372036854775807 < 8 + sa.size + 5 + sb.size + 6 + sc.size + 7 + sd.size + 7 + se.size + 6) = False := by simp only [eq_iff_iff, iff_false]; omega
  go_region_held3 (fun w' => w'.cell? ⟨w.heap.size, 0, none⟩ = some (.int .i64 a) ∧ w'.cell? ⟨w.heap.size, 1, none⟩ = some (.int .i64 b) ∧ w'.cell? ⟨w.heap.size, 2, none⟩ = some (.int .i64 c) ∧ w'.cell? ⟨w.heap.size, 3, none⟩ = some (.int .i64 d) ∧ w'.cell? ⟨w.heap.size, 4, none⟩ = some (.int .u32 e) ∧ w'.cell? ⟨w.heap.size, 5, none⟩ = some (.bool t) ∧ w.heap.size < w'.heap.size ∧ Tab w' ∧ Below w.heap.size w w' ∧ w.heap.size ≤ w'.heap.size) (first | assumption | (apply stat_drew; assumption) | (apply stat_step; assumption; assumption))
    (first
      | (go_at_call 12; (first | (refine (HA.out _ (stat_tab (by assumption))).mono ?_) | (refine (HB.out _ (stat_tab (by assumption))).mono ?_) | (refine (HC.out _ (stat_tab (by assumption))).mono ?_) | (refine (HD.out _ (stat_tab (by assumption))).mono ?_)); rintro x w' ⟨rfl, hb⟩)
      | (go_at_call 22; refine (HE.out _ (stat_tab (by assumption))).mono ?_; rintro x w' ⟨rfl, hb⟩))
  rename_i hK
  obtain ⟨-, -, -, -, -, k5, -, -, kB, -⟩ := hK
  have KB := Lib.hid kB
  clear kB HS
  cases t
  all_goals
    go_wp2
    go_ret
    exact ⟨rfl, KB.out⟩
end Go.Proofs.YtkcgnodmjmpnhaaDoor
