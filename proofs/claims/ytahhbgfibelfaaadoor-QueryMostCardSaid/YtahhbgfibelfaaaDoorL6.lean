import Derived.Test.YtahhbgfibelfaaaDoorL5
import Derived.BigRegion
import Derived.OwnWalk
import Derived.Outline
import Derived.Deep.CutBlock
namespace Go.Proofs.YtahhbgfibelfaaaDoor
open Go.RowKit Go.Lib
set_option linter.unusedVariables false



theorem rem_extract (s : ByteArray) (n m : Nat) (h : n + m ≤ s.size) : rem (s.extract n (n + m)) 0 = (rem s n).take m := by
  unfold rem
  rw [ByteArray.data_extract, List.drop_zero]
  simp
theorem below_drew {B : Nat} {w w1 : World} (h : Below B w w1) : Below B w w1.drew := ⟨h.os, h.tape, h.output, h.size, h.block⟩
section
variable {s : ByteArray} {n f : Nat} {out : List Value}
theorem wds_end (h : ¬ n < s.size) : wds s (f + 1) n out = .inr out := by rw [wds, dif_neg h]
theorem wds_blank (h : n < s.size) (hb : isB s[n] = true) : wds s (f + 1) n out = wds s f (n + 1) out := by rw [wds, dif_pos h, if_pos hb]
theorem wds_bad (h : n < s.size) (hb : isB s[n] = false) (h0 : (oneS s n).2 = 0) : wds s (f + 1) n out = .inl n := by rw [wds, dif_pos h, if_neg (by simp [hb]), if_pos h0]
theorem wds_word (h : n < s.size) (hb : isB s[n] = false) {xs : List Value} {m : Nat} (e : oneS s n = (xs, m)) (h0 : ¬ m = 0) : wds s (f + 1) n out = wds s f (n + m) (out ++ xs) := by
  rw [wds, dif_pos h, if_neg (by simp [hb]), e, if_neg h0]
theorem one_letter (h : n < s.size) (hl : isL s[n] = true) : oneS s n = (wc 1 (s.extract n (n + runs isN s n)) 0 n, runs isN s n) := by
  unfold oneS; rw [rem_cons h]; simp only [hl, if_true]
theorem one_digit (h : n < s.size) (hl : isL s[n] = false) (hd : isD s[n] = true) {v : Nat} (e : numF 0 ((rem s n).take (runs isN s n)) = some v) : oneS s n = (wc 2 ⟨#[]⟩ v n, runs isN s n) := by
  unfold oneS; rw [e, rem_cons h]; simp only [hl, hd, if_true, Bool.false_eq_true, if_false]
theorem one_digit_no (h : n < s.size) (hl : isL s[n] = false) (hd : isD s[n] = true) (e : numF 0 ((rem s n).take (runs isN s n)) = none) : oneS s n = ([], 0) := by
  unfold oneS; rw [e, rem_cons h]; simp only [hl, hd, if_true, Bool.false_eq_true, if_false]
theorem one_text (h : n < s.size) (hq : s[n].toNat = 34) {t : List UInt8} {m : Nat} (e : txt (rem s (n + 1)) [] 1 = some (t, m)) : oneS s n = (wc 3 ⟨t.toArray⟩ 0 n, m) := by
  unfold oneS; rw [rem_cons h]; simp only [show isL s[n] = false by unfold isL; rw [hq]; rfl, show isD s[n] = false by unfold isD; rw [hq]; rfl, hq, e, if_true, Bool.false_eq_true, if_false]
theorem one_text_no (h : n < s.size) (hq : s[n].toNat = 34) (e : txt (rem s (n + 1)) [] 1 = none) : oneS s n = ([], 0) := by
  unfold oneS; rw [rem_cons h]; simp only [show isL s[n] = false by unfold isL; rw [hq]; rfl, show isD s[n] = false by unfold isD; rw [hq]; rfl, hq, e, if_true, Bool.false_eq_true, if_false]
theorem one_mark (h : n < s.size) (hl : isL s[n] = false) (hd : isD s[n] = false) (hq : ¬ s[n].toNat = 34) : oneS s n = (wc 4 (s.extract n (n + mk (rem s n))) 0 n, mk (rem s n)) := by
  have hr := rem_cons h
  unfold oneS
  generalize rem s n = L at *
  subst hr
  simp only [hl, hd, hq, Bool.false_eq_true, if_false]
end

/-- What the words of a text are answered by. -/
def WordsPost (s : ByteArray) (w : World) (e : Ending) (w' : World) : Prop :=
  Below w.heap.size w w' ∧
  if 1000 < s.size then e = .returned (.tuple #[.slice none 0 0, .int .i64 0, .int .i64 4])
  else match wds s (s.size + 1) 0 [] with
    | .inl n => e = .returned (.tuple #[.slice none 0 0, .int .i64 n, .int .i64 320])
    | .inr out => ∃ v k, k ≤ s.size + 1 ∧ e = .returned (.tuple #[v, .int .i64 0, .int .i64 0]) ∧ Mid w' w.heap.size 47 4 v k (out ++ wc 0 ⟨#[]⟩ 0 s.size)

theorem info47 : (Tryd.prog.info? 47).map (fun i => (i.zero, i.size, i.bytes)) = some (some (.agg #[.int .i64 0, .string ⟨#[]⟩, .int .i64 0, .int .i64 0]), 4, 40) := by kernel_rfl
theorem row_four (w : World) (a b c d : Value) (t : TypeId) : Row (w.alloc (.cells #[a, b, c, d] t)) (some ⟨w.heap.size, 0, none⟩) [a, b, c, d] := fun _ => ⟨_, rfl, fun j v hj => by
  rw [add_at, (Blk.new w t #[a, b, c, d]).cell, ← hj]
  rcases j with _ | _ | _ | _ | j <;> simp⟩
theorem row_four_drew (w : World) (a b c d : Value) (t : TypeId) {g : Nat} (hg : g = w.heap.size) : Row (w.alloc (.cells #[a, b, c, d] t)).drew (some ⟨g, 0, none⟩) [a, b, c, d] := by
  subst hg; exact row_four w a b c d t
theorem row_four_at (w : World) (a b c d : Value) (t : TypeId) {g : Nat} (hg : g = w.heap.size) : Row (w.alloc (.cells #[a, b, c, d] t)) (some ⟨g, 0, none⟩) [a, b, c, d] := by
  subst hg; exact row_four w a b c d t
theorem wc_one (k : Int) (S : ByteArray) (v : Int) (n : Nat) : ∀ u ∈ wc k S v n, u.oneCell' = true := by
  intro u hu
  simp only [wc, List.mem_cons, List.not_mem_nil, or_false] at hu
  rcases hu with rfl | rfl | rfl | rfl <;> rfl
end Go.Proofs.YtahhbgfibelfaaaDoor
