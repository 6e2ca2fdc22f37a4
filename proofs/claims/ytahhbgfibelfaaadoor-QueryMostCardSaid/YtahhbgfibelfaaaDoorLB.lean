import Derived.Test.YtahhbgfibelfaaaDoorLA
namespace Go.Proofs.YtahhbgfibelfaaaDoor
open Go.RowKit Go.Lib
set_option linter.unusedVariables false



set_option maxHeartbeats 4000000 in
set_option maxRecDepth 10000 in
theorem words_lex (s : ByteArray) (w : World) (hs1 : s.size ≤ 1000000) (hL : Laid w) :
    Calls Tryd.prog 6 #[.string s] w (WordsPost s w) := by
  obtain ⟨i0, hi0, hz0, hz1, hz2⟩ := info_parts info47
  by_cases hbig : 1000 < s.size
  · clear hL
    go_enter Tryd.func6, Tryd.ntmps6
    go_wp2_with fail
    go_ret3
    exact ⟨Below.refl _ _, by rw [if_pos hbig]; rfl⟩
  · have hs : s.size ≤ 1000 := by omega
    have HR := Lib.hid (fun n hn => run_ok is_blank s n hn hs1)
    have HO := Lib.hid (fun n hn w hL => one_lex s n hn hs1 w hL)
    have HL := Lib.hid hL
    clear hL
    have HR0 := Lib.hid (HR.out 0 (by omega))
    obtain ⟨f0, hf0, hf1⟩ := wds_skip s (runs isB s 0) (s.size + 1) 0 [] rfl (by omega)
    have hb0 := fun h => runs_off (p := isB) (s := s) (n := 0) h
    have hle0 := runs_le isB s 0
    rw [Nat.zero_add] at hf0 hf1
    simp only [Nat.zero_add] at hb0
    generalize hr0 : runs isB s 0 = n0 at *
    have HS : Hid (n0 ≤ s.size ∧ s.size - n0 < f0 ∧ wds s f0 n0 [] = wds s (s.size + 1) 0 [] ∧ (∀ h : n0 < s.size, isB s[n0] = false)) := ⟨by omega, hf1, hf0.symm, hb0⟩
    clear hf0 hf1 hb0 hle0 hr0
    go_enter Tryd.func6, Tryd.ntmps6
    go_wp2_with fail
    refine (HR0.out _).mono ?_
    rintro e w' ⟨rfl, rfl⟩
    go_wp2_with fail
    go_loopg [5, 6, 7, 8] (s.size + 1) (fun q v i z7 z8 wr => ∃ (n f k : Nat) (xs : List Value), s.size + 1 ≤ q + n ∧ i = .int .i64 (n : Int) ∧ n ≤ s.size ∧ k ≤ n ∧ s.size - n < f ∧ wds s f n xs = wds s (s.size + 1) 0 [] ∧ (∀ h : n < s.size, isB s[n] = false) ∧ Mid wr w.heap.size 47 4 v k xs ∧ Below w.heap.size w wr)
    case atStart => exact ⟨n0, f0, 0, [], by omega, rfl, HS.out.1, by omega, HS.out.2.1, HS.out.2.2.1, HS.out.2.2.2, Mid.nil _ _ _ _, Below.refl _ _⟩
    case round =>
      obtain ⟨n, f, k, xs, hq, rfl, hn, hkn, hf, hwd, hnb, hm, hbw⟩ := hrel
      have HF : Hid (s.size + 1 ≤ gk + n ∧ k ≤ n ∧ s.size - n < f) := ⟨hq, hkn, hf⟩
      have HM := Lib.hid hm
      have HBW := Lib.hid hbw
      have hsz := hbw.size
      have hk1 : k ≤ 1000 := by omega
      clear hq hkn hf hm hbw HS HR0
      cases f with
      | zero => exact absurd HF.out.2.2 (by omega)
      | succ f =>
      by_cases hlt : n < s.size
      · have HOO := Lib.hid (HO.out n hlt wr (HL.out.below (w0 := w) HBW.out))
        have hbad := fun h0 => wds_bad (f := f) (out := xs) hlt (hnb hlt) h0
        have hgood := fun ys m e h0 => wds_word (f := f) (out := xs) (xs := ys) (m := m) hlt (hnb hlt) e h0
        have hole := oneS_le s n
        generalize ho : oneS s n = r at *
        obtain ⟨ys, m⟩ := r
        simp only at hbad hole
        have hmle : n + m ≤ s.size := by omega
        go_wp2_with fail
        refine HOO.out.mono ?_
        rintro e w' ⟨hb, a, b, c, d, rfl, hys⟩
        have hsz2 := hb.size
        have HB := Lib.hid hb
        have HYS := Lib.hid hys
        clear hb hys
        by_cases hm0 : m = 0
        · rw [hbad hm0] at hwd
          have HW := Lib.hid hwd.symm
          clear hwd hbad hgood
          subst hm0
          go_wp2_with fail
          go_ret3
          refine ⟨(HBW.out.trans (HB.out.mono hsz)).alloc (by omega) _, ?_⟩
          rw [if_neg hbig, HW.out]
          rfl
        · have hyy : ys = [.int .i64 a, .string b, .int .i64 c, .int .i64 d] := HYS.out hm0
          rw [hgood ys m rfl hm0] at hwd
          obtain ⟨p, hp⟩ : ∃ p, p = n + m := ⟨_, rfl⟩
          have HP := Lib.hid hp
          rw [← hp] at hwd hmle
          have hnn : (n : Int) + (m : Int) = (p : Int) := by omega
          obtain ⟨f2, hw2, hf2⟩ := wds_skip s (runs isB s p) f p (xs ++ ys) rfl (by have := HF.out; omega)
          rw [hw2] at hwd
          have HRP := Lib.hid (HR.out p hmle)
          have hboff := fun h => runs_off (p := isB) (s := s) (n := p) h
          have hple := runs_le isB s p
          generalize hrp : runs isB s p = bl at *
          obtain ⟨p2, hp2⟩ : ∃ p2, p2 = p + bl := ⟨_, rfl⟩
          have hnn2 : (p : Int) + (bl : Int) = (p2 : Int) := by omega
          have HW : Hid (wds s f2 p2 (xs ++ ys) = wds s (s.size + 1) 0 [] ∧ p2 ≤ s.size ∧ s.size - p2 < f2 ∧ (∀ h : p2 < s.size, isB s[p2] = false) ∧ p2 = n + m + bl) := by
            refine ⟨by rw [hp2]; exact hwd, by omega, by omega, ?_, by omega⟩
            subst hp2
            exact hboff
          clear hwd hbad hgood hp hw2 hf2 hboff hple hrp hp2 ho
          go_wp2_with (at_builtin; refine wpList_append_mid _ rfl (.tmp 27) (.tmp 29) 33 rfl w.heap.size 47 i0 _ 4 40 Tryd.underlying33 hi0 hz0 hz1 hz2 rfl (by decide) _ _ _ rfl (((HM.out.only (Only.of_below HB.out []) (by simp)).alloc _).alloc _) (some ⟨w'.heap.size + 1, 0, none⟩) 1 1 [.int .i64 a, .string b, .int .i64 c, .int .i64 d] rfl rfl (row_four_at _ _ _ _ _ _ (by simp)) (by simp [Value.oneCell']) (by simp only [maxLen]; omega) (by omega) (by simp; omega) ?_; intro v1 w1 hm1 hg1 ho1; have HM1 := Lib.hid hm1; have HG1 := Lib.hid hg1; clear hm1 hg1 ho1)
          refine (HRP.out _).mono ?_
          rintro e w2 ⟨rfl, rfl⟩
          go_wp2_with fail
          go_roundg (gk - (m + bl))
          case measure => have := HF.out; omega
          case rel =>
            have hw := HW.out
            have hf := HF.out
            refine ⟨p2, f2, k + 1, xs ++ ys, by omega, by congr 1; unfold wrap64; omega, hw.2.1, by omega, hw.2.2.1, hw.1, hw.2.2.2.1, by rw [hyy]; exact HM1.out, ?_⟩
            exact (((HBW.out.trans (HB.out.mono hsz)).alloc (by omega) _).alloc (by simp; omega) _).grown HG1.out (by simp; omega) (fun j hj => (HM.out.block j hj).1)
      · rw [wds_end hlt] at hwd
        have HW := Lib.hid hwd.symm
        clear hwd hnb
        go_wp2_with (at_builtin; refine wpList_append_mid _ rfl (.tmp 39) (.tmp 43) 33 rfl w.heap.size 47 i0 _ 4 40 Tryd.underlying33 hi0 hz0 hz1 hz2 rfl (by decide) _ _ _ rfl (HM.out.alloc _) (some ⟨wr.heap.size, 0, none⟩) 1 1 (wc 0 ⟨#[]⟩ 0 s.size) rfl rfl (row_four_at _ _ _ _ _ _ (by simp)) (wc_one _ _ _ _) (by simp only [maxLen]; omega) (by omega) (by simp; omega) ?_; intro v1 w1 hm1 hg1 ho1; have HM1 := Lib.hid hm1; have HG1 := Lib.hid hg1; clear hm1 hg1 ho1)
        go_ret3
        refine ⟨(HBW.out.alloc hsz _).grown HG1.out (by simp; omega) (fun j hj => (HM.out.block j hj).1), ?_⟩
        rw [if_neg hbig, HW.out]
        exact ⟨v1, k + 1, by have := HF.out; omega, rfl, HM1.out⟩

end Go.Proofs.YtahhbgfibelfaaaDoor
