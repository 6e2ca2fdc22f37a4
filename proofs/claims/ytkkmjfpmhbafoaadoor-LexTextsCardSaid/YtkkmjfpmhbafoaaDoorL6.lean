import Derived.Test.YtkkmjfpmhbafoaaDoorL5
import Derived.BigRegion
import Derived.OwnWalk
import Derived.Outline
import Derived.Deep.CutBlock
namespace Go.Proofs.YtkkmjfpmhbafoaaDoor
open Go.RowKit Go.Lib
set_option linter.unusedVariables false

theorem rem_extract (s : ByteArray) (n m : Nat) (h : n + m ≤ s.size) : rem (s.extract n (n + m)) 0 = (rem s n).take m := by
  unfold rem
  rw [ByteArray.data_extract, List.drop_zero]
  simp
theorem below_drew {B : Nat} {w w1 : World} (h : Below B w w1) : Below B w w1.drew := ⟨h.os, h.tape, h.output, h.size, h.block⟩
section
variable {s : ByteArray} {n f : Nat} {out : List Value}
theorem wds_end (h : ¬ n < s.size) : wds s (f + 1) n out = .inr out := by rw [wds, dif_neg h]
theorem wds_blank (h : n < s.size) (hb : isB s[n] = true) : wds s (f + 1) n out = wds s f (n + 1) out := by rw [wds, dif_pos h, if_pos hb]
theorem wds_bad (h : n < s.size) (hb : isB s[n] = false) (h0 : (oneS s n).2 = 0) : wds s (f + 1) n out = .inl n := by rw [wds, dif_pos h, if_neg (by simp [hb]), if_pos h0]
theorem wds_word (h : n < s.size) (hb : isB s[n] = false) {xs : List Value} {m : Nat} (e : oneS s n = (xs, m)) (h0 : ¬ m = 0) : wds s (f + 1) n out = wds s f (n + m) (out ++ xs) := by
  rw [wds, dif_pos h, if_neg (by simp [hb]), e, if_neg h0]
theorem one_letter (h : n < s.size) (hl : isL s[n] = true) : oneS s n = (wc 1 (s.extract n (n + runs isN s n)) 0 n, runs isN s n) := by
  unfold oneS; rw [rem_cons h]; simp only [hl, if_true]
theorem one_digit (h : n < s.size) (hl : isL s[n] = false) (hd : isD s[n] = true) {v : Nat} (e : numF 0 ((rem s n).take (runs isN s n)) = some v) : oneS s n = (wc 2 ⟨#[]⟩ v n, runs isN s n) := by
  unfold oneS; rw [e, rem_cons h]; simp only [hl, hd, if_true, Bool.false_eq_true, if_false]
theorem one_digit_no (h : n < s.size) (hl : isL s[n] = false) (hd : isD s[n] = true) (e : numF 0 ((rem s n).take (runs isN s n)) = none) : oneS s n = ([], 0) := by
  unfold oneS; rw [e, rem_cons h]; simp only [hl, hd, if_true, Bool.false_eq_true, if_false]
theorem one_text (h : n < s.size) (hq : s[n].toNat = 34) {t : List UInt8} {m : Nat} (e : txt (rem s (n + 1)) [] 1 = some (t, m)) : oneS s n = (wc 3 ⟨t.toArray⟩ 0 n, m) := by
  unfold oneS; rw [rem_cons h]; simp only [show isL s[n] = false by unfold isL; rw [hq]; rfl, show isD s[n] = false by unfold isD; rw [hq]; rfl, hq, e, if_true, Bool.false_eq_true, if_false]
theorem one_text_no (h : n < s.size) (hq : s[n].toNat = 34) (e : txt (rem s (n + 1)) [] 1 = none) : oneS s n = ([], 0) := by
  unfold oneS; rw [rem_cons h]; simp only [show isL s[n] = false by unfold isL; rw [hq]; rfl, show isD s[n] = false by unfold isD; rw [hq]; rfl, hq, e, if_true, Bool.false_eq_true, if_false]
theorem one_mark (h : n < s.size) (hl : isL s[n] = false) (hd : isD s[n] = false) (hq : ¬ s[n].toNat = 34) : oneS s n = (wc 4 (s.extract n (n + mk (rem s n))) 0 n, mk (rem s n)) := by
  have hr := rem_cons h
  unfold oneS
  generalize rem s n = L at *
  subst hr
  simp only [hl, hd, hq, Bool.false_eq_true, if_false]
end

/-- What the words of a text are answered by. -/
def WordsPost (s : ByteArray) (w : World) (e : Ending) (w' : World) : Prop :=
  Below w.heap.size w w' ∧
  if 1000 < s.size then e = .returned (.tuple #[.slice none 0 0, .int .i64 0, .int .i64 4])
  else match wds s (s.size + 1) 0 [] with
    | .inl n => e = .returned (.tuple #[.slice none 0 0, .int .i64 n, .int .i64 320])
    | .inr out => ∃ v k, k ≤ s.size + 1 ∧ e = .returned (.tuple #[v, .int .i64 0, .int .i64 0]) ∧ Mid w' w.heap.size 35 4 v k (out ++ wc 0 ⟨#[]⟩ 0 s.size)

theorem info35 : (Tryd.prog.info? 35).map (fun i => (i.zero, i.size, i.bytes)) = some (some (.agg #[.int .i64 0, .string ⟨#[]⟩, .int .i64 0, .int .i64 0]), 4, 40) := by kernel_rfl
theorem row_four (w : World) (a b c d : Value) (t : TypeId) : Row (w.alloc (.cells #[a, b, c, d] t)) (some ⟨w.heap.size, 0, none⟩) [a, b, c, d] := fun _ => ⟨_, rfl, fun j v hj => by
  rw [add_at, (Blk.new w t #[a, b, c, d]).cell, ← hj]
  rcases j with _ | _ | _ | _ | j <;> simp⟩
theorem row_four_drew (w : World) (a b c d : Value) (t : TypeId) {g : Nat} (hg : g = w.heap.size) : Row (w.alloc (.cells #[a, b, c, d] t)).drew (some ⟨g, 0, none⟩) [a, b, c, d] := by
  subst hg; exact row_four w a b c d t
theorem row_four_at (w : World) (a b c d : Value) (t : TypeId) {g : Nat} (hg : g = w.heap.size) : Row (w.alloc (.cells #[a, b, c, d] t)) (some ⟨g, 0, none⟩) [a, b, c, d] := by
  subst hg; exact row_four w a b c d t
theorem wc_one (k : Int) (S : ByteArray) (v : Int) (n : Nat) : ∀ u ∈ wc k S v n, u.oneCell' = true := by
  intro u hu
  simp only [wc, List.mem_cons, List.not_mem_nil, or_false] at hu
  rcases hu with rfl | rfl | rfl | rfl <;> rfl
set_option maxHeartbeats 4000000 in
set_option maxRecDepth 10000 in
theorem words_ref (s : ByteArray) (w : World) (hs1 : s.size ≤ 1000000) :
    Calls Tryd.prog 7 #[.string s] w (WordsPost s w) := by
  obtain ⟨i0, hi0, hz0, hz1, hz2⟩ := info_parts info35
  have HB := Lib.hid blank_ok
  have HL := Lib.hid letter_ok
  have HD := Lib.hid digit_ok
  have HN := Lib.hid (fun n hn w => name_ok s n hn hs1 w)
  by_cases hbig : 1000 < s.size
  · go_enter Tryd.func7, Tryd.ntmps7
    go_wp2_with fail
    go_ret3
    exact ⟨Below.refl _ _, by rw [if_pos hbig]; rfl⟩
  · have hs : s.size ≤ 1000 := by omega
    go_enter Tryd.func7, Tryd.ntmps7
    go_wp2_with fail
    go_loopg [5, 6] (s.size + 1) (fun q v i wr => ∃ (n f k : Nat) (xs : List Value), s.size + 1 ≤ q + n ∧ i = .int .i64 (n : Int) ∧ n ≤ s.size ∧ k ≤ n ∧ s.size - n < f ∧ wds s f n xs = wds s (s.size + 1) 0 [] ∧ Mid wr w.heap.size 35 4 v k xs ∧ Below w.heap.size w wr)
    case atStart =>
      exact ⟨0, s.size + 1, 0, [], by omega, rfl, by omega, by omega, by omega, rfl, ⟨by simp, .inr ⟨w.heap.size, 0, 0, #[], rfl, Nat.le_refl _, Blk.new w 35 #[], Nat.le_refl _, by simp, by simp, by simp⟩⟩, (Below.refl _ _).alloc (Nat.le_refl _) _⟩
    case round =>
      obtain ⟨n, f, k, xs, hq, rfl, hn, hkn, hf, hwd, hm, hbw⟩ := hrel
      have HF : Hid (s.size + 1 ≤ gk + n ∧ k ≤ n ∧ s.size - n < f) := ⟨hq, hkn, hf⟩
      have HM := Lib.hid hm
      have HBW := Lib.hid hbw
      have hsz := hbw.size
      have hk1 : k ≤ 1000 := by omega
      clear hq hkn hf hm hbw
      cases f with
      | zero => exact absurd HF.out.2.2 (by omega)
      | succ f =>
      by_cases hlt : n < s.size
      · cases hb : isB s[n] with
        | true =>
          rw [wds_blank hlt hb] at hwd
          have HW := Lib.hid hwd
          clear hwd
          generalize hc : s[n] = c at *
          go_wp2_with (first
            | (go_at_call 14; refine (HB.out _ _).mono ?_; rintro e w' ⟨rfl, rfl⟩))
          go_roundg (gk - 1)
          case measure => have := HF.out; omega
          case rel => exact ⟨n + 1, f, k, xs, by have := HF.out; omega, by go_num, by omega, by have := HF.out; omega, by have := HF.out; omega, HW.out, HM.out.alloc _, HBW.out.alloc hsz _⟩
        | false =>
          cases hl : isL s[n] with
          | true =>
            have hone := one_letter hlt hl
            generalize hr : runs isN s n = m at *
            have hm0 : ¬ m = 0 := by
              rw [← hr, runs_step hlt (by simp [isN, hl])]; omega
            have hmle : n + m ≤ s.size := by have := runs_le isN s n; omega
            rw [wds_word hlt hb hone hm0] at hwd
            obtain ⟨p, hp⟩ : ∃ p, p = n + m := ⟨_, rfl⟩
            have HP := Lib.hid hp
            rw [← hp] at hwd hone hmle
            have HW := Lib.hid hwd
            have hE := fun w => slice_nat (s := s) (a := n) (b := p) (by omega) hmle w
            have hnn : (n : Int) + (m : Int) = (p : Int) := by omega
            generalize s.extract n p = S at *
            have HNN := Lib.hid (HN.out n (by omega))
            rw [hr] at HNN
            clear hwd hone hr hp
            generalize hc : s[n] = c at *
            go_wp2_with (first
              | (go_at_call 14; refine (HB.out _ _).mono ?_; rintro e w' ⟨rfl, rfl⟩)
              | (go_at_call 15; refine (HL.out _ _).mono ?_; rintro e w' ⟨rfl, rfl⟩)
              | (go_at_call 16; refine (HNN.out _).mono ?_; rintro e w' ⟨rfl, rfl⟩))
            go_region
            go_wp2_with (at_builtin; refine wpList_append_mid _ rfl (.tmp 95) (.tmp 97) 22 rfl w.heap.size 35 i0 _ 4 40 Tryd.underlying22 hi0 hz0 hz1 hz2 rfl (by decide) _ _ _ rfl (((HM.out.alloc _).alloc _).drew) (some ⟨wr.heap.size + 1, 0, none⟩) 1 1 (wc 1 S 0 n) rfl rfl (row_four_drew _ _ _ _ _ _ (by simp)) (wc_one _ _ _ _) (by simp only [maxLen]; omega) (by omega) (by simp; omega) ?_; intro v1 w1 hm1 hg1 ho1; have HM1 := Lib.hid hm1; have HG1 := Lib.hid hg1; clear hm1 hg1 ho1)
            go_roundg (gk - m)
            case measure => have := HF.out; omega
            case rel => exact ⟨p, f, k + 1, xs ++ wc 1 S 0 n, by have := HF.out; have := HP.out; omega, rfl, hmle, by have := HF.out; have := HP.out; omega, by have := HF.out; have := HP.out; omega, HW.out, HM1.out, (below_drew ((HBW.out.alloc hsz _).alloc (by simp; omega) _)).grown HG1.out (by simp; omega) (fun j hj => (HM.out.block j hj).1)⟩
          | false =>
            cases hd : isD s[n] with
            | true =>
              have hrl := runs_le isN s n
              have hr0 : ¬ runs isN s n = 0 := by
                rw [runs_step hlt (by simp [isN, hd])]; omega
              have hre := rem_extract s n (runs isN s n) (by omega)
              have hbad := fun e => wds_bad (f := f) (out := xs) hlt hb (by rw [one_digit_no hlt hl hd e])
              have hgood := fun v e => wds_word (f := f) (out := xs) hlt hb (one_digit (v := v) hlt hl hd e) hr0
              have HNN := Lib.hid (HN.out n (by omega))
              generalize hr : runs isN s n = m at *
              have hmle : n + m ≤ s.size := by omega
              obtain ⟨p, hp⟩ : ∃ p, p = n + m := ⟨_, rfl⟩
              have HP := Lib.hid hp
              rw [← hp] at hmle hre hgood
              have hE := fun w => slice_nat (s := s) (a := n) (b := p) (by omega) hmle w
              have hnn : (n : Int) + (m : Int) = (p : Int) := by omega
              have hSz : (s.extract n p).size ≤ 1000000 := by
                rw [ByteArray.size_extract]; omega
              generalize s.extract n p = S at *
              have HNUM := Lib.hid (number_ok S hSz)
              rw [hre] at HNUM
              clear hr hp hre hrl
              cases hv : numF 0 ((rem s n).take m) with
              | some v =>
                rw [hgood v hv] at hwd
                have HW := Lib.hid hwd
                rw [hv] at HNUM
                clear hwd hgood hbad hv
                generalize hc : s[n] = c at *
                go_wp2_with (first
                  | (go_at_call 14; refine (HB.out _ _).mono ?_; rintro e w' ⟨rfl, rfl⟩)
                  | (go_at_call 15; refine (HL.out _ _).mono ?_; rintro e w' ⟨rfl, rfl⟩)
                  | (go_at_call 17; refine (HD.out _ _).mono ?_; rintro e w' ⟨rfl, rfl⟩)
                  | (go_at_call 16; refine (HNN.out _).mono ?_; rintro e w' ⟨rfl, rfl⟩)
                  | (go_at_call 18; refine (HNUM.out _).mono ?_; rintro e w' ⟨rfl, rfl⟩; simp only [numRet])
                  | (at_builtin; refine wpList_append_mid _ rfl (.tmp 95) (.tmp 97) 22 rfl w.heap.size 35 i0 _ 4 40 Tryd.underlying22 hi0 hz0 hz1 hz2 rfl (by decide) _ _ _ rfl ((HM.out.alloc _).alloc _) (some ⟨wr.heap.size + 1, 0, none⟩) 1 1 (wc 2 ⟨#[]⟩ v n) rfl rfl (row_four_at _ _ _ _ _ _ (by simp)) (wc_one _ _ _ _) (by simp only [maxLen]; omega) (by omega) (by simp; omega) ?_; intro v1 w1 hm1 hg1 ho1; have HM1 := Lib.hid hm1; have HG1 := Lib.hid hg1; clear hm1 hg1 ho1))
                go_roundg (gk - m)
                case measure => have := HF.out; omega
                case rel => exact ⟨p, f, k + 1, xs ++ wc 2 ⟨#[]⟩ v n, by have := HF.out; have := HP.out; omega, rfl, hmle, by have := HF.out; have := HP.out; omega, by have := HF.out; have := HP.out; omega, HW.out, HM1.out, ((HBW.out.alloc hsz _).alloc (by simp; omega) _).grown HG1.out (by simp; omega) (fun j hj => (HM.out.block j hj).1)⟩
              | none =>
                rw [hbad hv] at hwd
                have HW := Lib.hid hwd.symm
                rw [hv] at HNUM
                clear hwd hgood hbad hv
                generalize hc : s[n] = c at *
                go_wp2_with (first
                  | (go_at_call 14; refine (HB.out _ _).mono ?_; rintro e w' ⟨rfl, rfl⟩)
                  | (go_at_call 15; refine (HL.out _ _).mono ?_; rintro e w' ⟨rfl, rfl⟩)
                  | (go_at_call 17; refine (HD.out _ _).mono ?_; rintro e w' ⟨rfl, rfl⟩)
                  | (go_at_call 16; refine (HNN.out _).mono ?_; rintro e w' ⟨rfl, rfl⟩)
                  | (go_at_call 18; refine (HNUM.out _).mono ?_; rintro e w' ⟨rfl, rfl⟩; simp only [numRet]))
                go_ret3
                refine ⟨HBW.out.alloc hsz _, ?_⟩
                rw [if_neg hbig, HW.out]
                rfl
            | false =>
              by_cases hq : s[n].toNat = 34
              · have HB34 := Lib.hid (show ∀ w, Calls Tryd.prog 14 #[.int .u8 34] w (fun e w' => e = .returned (.bool false) ∧ w = w') from blank_ok 34)
                have HL34 := Lib.hid (show ∀ w, Calls Tryd.prog 15 #[.int .u8 34] w (fun e w' => e = .returned (.bool false) ∧ w = w') from letter_ok 34)
                have HD34 := Lib.hid (show ∀ w, Calls Tryd.prog 17 #[.int .u8 34] w (fun e w' => e = .returned (.bool false) ∧ w = w') from digit_ok 34)
                cases ht : txt (rem s (n + 1)) [] 1 with
                | none =>
                  rw [wds_bad hlt hb (by rw [one_text_no hlt hq ht])] at hwd
                  have HW := Lib.hid hwd.symm
                  have HTX := Lib.hid (text_ref s n hlt hs1)
                  rw [ht] at HTX
                  clear hwd ht
                  generalize hc : s[n] = c at *
                  go_wp2_with (first
                    | (go_at_call 14; refine (HB34.out _).mono ?_; rintro e w' ⟨rfl, rfl⟩)
                    | (go_at_call 15; refine (HL34.out _).mono ?_; rintro e w' ⟨rfl, rfl⟩)
                    | (go_at_call 17; refine (HD34.out _).mono ?_; rintro e w' ⟨rfl, rfl⟩)
                    | (go_at_call 19; refine (HTX.out _).mono ?_; rintro e w' ⟨rfl, rfl⟩; simp only [txtRet]))
                  go_ret3
                  refine ⟨HBW.out.alloc hsz _, ?_⟩
                  rw [if_neg hbig, HW.out]
                  rfl
                | some r =>
                  obtain ⟨t, m⟩ := r
                  have hbd := txt_bound _ _ _ _ _ ht
                  rw [rem_length] at hbd
                  have hm0 : ¬ m = 0 := by omega
                  rw [wds_word hlt hb (one_text hlt hq ht) hm0] at hwd
                  have hmle : n + m ≤ s.size := by omega
                  obtain ⟨p, hp⟩ : ∃ p, p = n + m := ⟨_, rfl⟩
                  have HP := Lib.hid hp
                  rw [← hp] at hmle hwd
                  have hnn : (n : Int) + (m : Int) = (p : Int) := by omega
                  have HW := Lib.hid hwd
                  have HTX := Lib.hid (text_ref s n hlt hs1)
                  rw [ht] at HTX
                  clear hwd ht hp hbd
                  have HTX : Hid (∀ w, Calls Tryd.prog 19 #[.string s, .int .i64 n] w fun e w' => e = .returned (.tuple #[.string ⟨t.toArray⟩, .int .i64 m]) ∧ w = w') := HTX
                  generalize (⟨t.toArray⟩ : ByteArray) = S at *
                  generalize hc : s[n] = c at *
                  go_wp2_with (first
                    | (go_at_call 14; refine (HB34.out _).mono ?_; rintro e w' ⟨rfl, rfl⟩)
                    | (go_at_call 15; refine (HL34.out _).mono ?_; rintro e w' ⟨rfl, rfl⟩)
                    | (go_at_call 17; refine (HD34.out _).mono ?_; rintro e w' ⟨rfl, rfl⟩)
                    | (go_at_call 19; refine (HTX.out _).mono ?_; rintro e w' ⟨rfl, rfl⟩)
                    | (at_builtin; refine wpList_append_mid _ rfl (.tmp 95) (.tmp 97) 22 rfl w.heap.size 35 i0 _ 4 40 Tryd.underlying22 hi0 hz0 hz1 hz2 rfl (by decide) _ _ _ rfl ((HM.out.alloc _).alloc _) (some ⟨wr.heap.size + 1, 0, none⟩) 1 1 (wc 3 S 0 n) rfl rfl (row_four_at _ _ _ _ _ _ (by simp)) (wc_one _ _ _ _) (by simp only [maxLen]; omega) (by omega) (by simp; omega) ?_; intro v1 w1 hm1 hg1 ho1; have HM1 := Lib.hid hm1; have HG1 := Lib.hid hg1; clear hm1 hg1 ho1))
                  go_roundg (gk - m)
                  case measure => have := HF.out; omega
                  case rel => exact ⟨p, f, k + 1, xs ++ wc 3 S 0 n, by have := HF.out; have := HP.out; omega, rfl, hmle, by have := HF.out; have := HP.out; omega, by have := HF.out; have := HP.out; omega, HW.out, HM1.out, ((HBW.out.alloc hsz _).alloc (by simp; omega) _).grown HG1.out (by simp; omega) (fun j hj => (HM.out.block j hj).1)⟩
              · have hone := one_mark hlt hl hd hq
                have HMK := Lib.hid (mark_ref s n hlt hs1)
                have hml := mk_le (rem s n)
                rw [rem_length] at hml
                generalize mk (rem s n) = m at *
                have hmle : n + m ≤ s.size := by omega
                obtain ⟨p, hp⟩ : ∃ p, p = n + m := ⟨_, rfl⟩
                have HP := Lib.hid hp
                rw [← hp] at hmle hone
                have hE := fun w => slice_nat (s := s) (a := n) (b := p) (by omega) hmle w
                have hnn : (n : Int) + (m : Int) = (p : Int) := by omega
                generalize s.extract n p = S at *
                by_cases hm0 : m = 0
                · rw [wds_bad hlt hb (by rw [hone]; exact hm0)] at hwd
                  have HW := Lib.hid hwd.symm
                  clear hwd hone hp
                  generalize hc : s[n] = c at *
                  go_wp2_with (first
                    | (go_at_call 14; refine (HB.out _ _).mono ?_; rintro e w' ⟨rfl, rfl⟩)
                    | (go_at_call 15; refine (HL.out _ _).mono ?_; rintro e w' ⟨rfl, rfl⟩)
                    | (go_at_call 17; refine (HD.out _ _).mono ?_; rintro e w' ⟨rfl, rfl⟩)
                    | (go_at_call 20; refine (HMK.out _).mono ?_; rintro e w' ⟨rfl, rfl⟩))
                  go_region
                  go_wp2_with fail
                  go_ret3
                  refine ⟨below_drew (HBW.out.alloc hsz _), ?_⟩
                  rw [if_neg hbig, HW.out]
                  rfl
                · rw [wds_word hlt hb hone hm0, ← hp] at hwd
                  have HW := Lib.hid hwd
                  clear hwd hone hp
                  generalize hc : s[n] = c at *
                  go_wp2_with (first
                    | (go_at_call 14; refine (HB.out _ _).mono ?_; rintro e w' ⟨rfl, rfl⟩)
                    | (go_at_call 15; refine (HL.out _ _).mono ?_; rintro e w' ⟨rfl, rfl⟩)
                    | (go_at_call 17; refine (HD.out _ _).mono ?_; rintro e w' ⟨rfl, rfl⟩)
                    | (go_at_call 20; refine (HMK.out _).mono ?_; rintro e w' ⟨rfl, rfl⟩))
                  go_region
                  go_wp2_with (at_builtin; refine wpList_append_mid _ rfl (.tmp 95) (.tmp 97) 22 rfl w.heap.size 35 i0 _ 4 40 Tryd.underlying22 hi0 hz0 hz1 hz2 rfl (by decide) _ _ _ rfl (((HM.out.alloc _).alloc _).drew) (some ⟨wr.heap.size + 1, 0, none⟩) 1 1 (wc 4 S 0 n) rfl rfl (row_four_drew _ _ _ _ _ _ (by simp)) (wc_one _ _ _ _) (by simp only [maxLen]; omega) (by omega) (by simp; omega) ?_; intro v1 w1 hm1 hg1 ho1; have HM1 := Lib.hid hm1; have HG1 := Lib.hid hg1; clear hm1 hg1 ho1)
                  go_roundg (gk - m)
                  case measure => have := HF.out; omega
                  case rel => exact ⟨p, f, k + 1, xs ++ wc 4 S 0 n, by have := HF.out; have := HP.out; omega, rfl, hmle, by have := HF.out; have := HP.out; omega, by have := HF.out; have := HP.out; omega, HW.out, HM1.out, (below_drew ((HBW.out.alloc hsz _).alloc (by simp; omega) _)).grown HG1.out (by simp; omega) (fun j hj => (HM.out.block j hj).1)⟩
      · rw [wds_end hlt] at hwd
        have HW := Lib.hid hwd.symm
        clear hwd
        go_wp2_with (at_builtin; refine wpList_append_mid _ rfl (.tmp 102) (.tmp 106) 22 rfl w.heap.size 35 i0 _ 4 40 Tryd.underlying22 hi0 hz0 hz1 hz2 rfl (by decide) _ _ _ rfl (HM.out.alloc _) (some ⟨wr.heap.size, 0, none⟩) 1 1 (wc 0 ⟨#[]⟩ 0 s.size) rfl rfl (row_four_at _ _ _ _ _ _ (by simp)) (wc_one _ _ _ _) (by simp only [maxLen]; omega) (by omega) (by simp; omega) ?_; intro v1 w1 hm1 hg1 ho1; have HM1 := Lib.hid hm1; have HG1 := Lib.hid hg1; clear hm1 hg1 ho1)
        go_ret3
        refine ⟨(HBW.out.alloc hsz _).grown HG1.out (by simp; omega) (fun j hj => (HM.out.block j hj).1), ?_⟩
        rw [if_neg hbig, HW.out]
        exact ⟨v1, k + 1, by have := HF.out; omega, rfl, HM1.out⟩
end Go.Proofs.YtkkmjfpmhbafoaaDoor
