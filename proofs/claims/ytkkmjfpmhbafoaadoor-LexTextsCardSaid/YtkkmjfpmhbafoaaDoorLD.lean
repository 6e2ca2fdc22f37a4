import Derived.Test.YtkkmjfpmhbafoaaDoorLB
import Derived.Test.YtkkmjfpmhbafoaaDoorLC
namespace Go.Proofs.YtkkmjfpmhbafoaaDoor
open Go.RowKit Go.Lib
set_option linter.unusedVariables false

abbrev bWake : ByteArray := ⟨#[97, 32, 60, 61, 32, 53]⟩
theorem wake_words : wds bWake 7 0 [] = .inr (flat [⟨1, ⟨#[97]⟩, 0, 0⟩, ⟨4, ⟨#[60, 61]⟩, 0, 2⟩, ⟨2, ⟨#[]⟩, 5, 5⟩]) := by kernel_rfl
theorem wake_post {w : World} {e : Ending} {w' : World} (h : WordsPost bWake w e w') :
    ∃ g o cap, e = .returned (.tuple #[.slice (some ⟨g, o, none⟩) 4 cap, .int .i64 0, .int .i64 0]) ∧ w'.cell? ⟨g, o + 4 + 1, none⟩ = some (.string ⟨#[60, 61]⟩) ∧ w'.cell? ⟨g, o + 8 + 2, none⟩ = some (.int .i64 5) ∧ Below w.heap.size w w' := by
  obtain ⟨hb, h⟩ := h
  rw [if_neg (by decide), show bWake.size + 1 = 7 from rfl, wake_words] at h
  obtain ⟨v, k, _, rfl, hm⟩ := h
  rw [show wc 0 ⟨#[]⟩ 0 bWake.size = (⟨0, ⟨#[]⟩, 0, 6⟩ : Wd).cells from rfl, flat_snoc] at hm
  obtain ⟨g, o, cap, rfl, hg, hl⟩ := words_form hm (by simp)
  refine ⟨g, o, cap, rfl, ?_, ?_, hb⟩
  · exact hl 1 (by simp) 1 _ (by omega) rfl
  · exact hl 2 (by simp) 2 _ (by omega) rfl

set_option maxHeartbeats 4000000 in
theorem awake_ok (w : World) (hL : Laid w) : Calls Tryd.prog 8 #[] w fun e w' => e = .returned (.bool true) ∧ Below w.heap.size w w' := by
  have HW := Lib.hid ((words_lex bWake w (by decide) hL).mono fun e w' h => wake_post h)
  clear hL
  go_enter Tryd.func8, Tryd.ntmps8
  go_wp2_with fail
  refine HW.out.mono ?_
  rintro e w' ⟨g, o, cap, rfl, h1, h2, hb⟩
  have HB := Lib.hid hb
  clear hb
  go_wp2_with fail
  go_ret
  exact ⟨by simp, HB.out⟩

/-- Both hand back what the text says. -/
def Pair (s : ByteArray) (w1 : World) (e1 : Ending) (e2 : Ending) (w2 : World) : Prop :=
  (∃ n k : Int, e1 = .returned (.tuple #[.slice none 0 0, .int .i64 n, .int .i64 k]) ∧ e2 = .returned (.tuple #[.slice none 0 0, .int .i64 n, .int .i64 k])) ∨
  (∃ ga oa ca gb ob cb : Nat, ∃ ws : List Wd, ws.length ≤ 1000000 ∧ e1 = .returned (.tuple #[.slice (some ⟨ga, oa, none⟩) ws.length ca, .int .i64 0, .int .i64 0]) ∧ e2 = .returned (.tuple #[.slice (some ⟨gb, ob, none⟩) ws.length cb, .int .i64 0, .int .i64 0]) ∧
    ga < w1.heap.size ∧ Lies w1 ga oa ws ∧ gb < w2.heap.size ∧ Lies w2 gb ob ws)
theorem pair_of {s : ByteArray} {w w1 w2 : World} {e1 e2 : Ending} (h1 : WordsPost s w e1 w1) (h2 : WordsPost s w1 e2 w2) : Pair s w1 e1 e2 w2 := by
  obtain ⟨hb1, h1⟩ := h1
  obtain ⟨hb2, h2⟩ := h2
  by_cases hbig : 1000 < s.size
  · rw [if_pos hbig] at h1 h2
    exact .inl ⟨_, _, h1, h2⟩
  · rw [if_neg hbig] at h1 h2
    cases hw : wds s (s.size + 1) 0 [] with
    | inl n =>
      rw [hw] at h1 h2
      exact .inl ⟨_, _, h1, h2⟩
    | inr o =>
      rw [hw] at h1 h2
      obtain ⟨ws, rfl⟩ := wds_flat s _ 0 [] o hw
      obtain ⟨v1, k1, hk1, rfl, hm1⟩ := h1
      obtain ⟨v2, k2, hk2, rfl, hm2⟩ := h2
      rw [show wc 0 ⟨#[]⟩ 0 s.size = (⟨0, ⟨#[]⟩, 0, s.size⟩ : Wd).cells from rfl, flat_snoc] at hm1 hm2
      obtain ⟨ga, oa, ca, rfl, hga, hla⟩ := words_form hm1 (by simp)
      obtain ⟨gb, ob, cb, rfl, hgb, hlb⟩ := words_form hm2 (by simp)
      refine .inr ⟨ga, oa, ca, gb, ob, cb, _, ?_, rfl, rfl, hga, hla, hgb, hlb⟩
      have := hm1.1
      rw [flat_length] at this
      omega

theorem words_shape {s : ByteArray} {w w' : World} {e : Ending} (h : WordsPost s w e w') : ∃ v n m, e = .returned (.tuple #[v, .int .i64 n, .int .i64 m]) := by
  obtain ⟨_, h⟩ := h
  by_cases hbig : 1000 < s.size
  · rw [if_pos hbig] at h; exact ⟨_, _, _, h⟩
  · rw [if_neg hbig] at h
    cases hw : wds s (s.size + 1) 0 [] with
    | inl n => rw [hw] at h; exact ⟨_, _, _, h⟩
    | inr o => rw [hw] at h; obtain ⟨v, k, _, h, _⟩ := h; exact ⟨_, _, _, h⟩

set_option maxHeartbeats 4000000 in
theorem lexwords_walk (s : ByteArray) (hs : s.size ≤ 9223372036854775807) (w : World) (hL : Laid w) :
    Calls Tryd.prog 3 #[.string s] w fun e w' => e = .returned (.bool true) ∧ Below w.heap.size w w' := by
  have HL := Lib.hid hL
  obtain ⟨k, hk⟩ : ∃ k : Nat, k = min s.size 1100 := ⟨_, rfl⟩
  have hks : k ≤ s.size ∧ k ≤ 1100 := by omega
  have hmin : min (s.size : Int) 1100 = (k : Int) := by omega
  have hE : ∀ w, (Instr.slice 9 (.string s) none (some (.int .i64 (k : Int))) none).run Tryd.prog w = .ok (.string (s.extract 0 k)) w := fun w => by
    rw [run_slice_string_to_if w 9 s .i64 k Tryd.underlying9, if_pos (by omega)]
    rfl
  have hT : (s.extract 0 k).size ≤ 1100 := by rw [ByteArray.size_extract]; omega
  generalize s.extract 0 k = T at *
  have HW := Lib.hid (words_lex T w (by omega) hL)
  have HR := Lib.hid (fun w => words_ref T w (by omega))
  clear hL hk hT
  go_enter Tryd.func3, Tryd.ntmps3
  go_wp2_with fail
  refine HW.out.mono ?_
  intro e w1 hp1
  obtain ⟨v1, n1, m1, rfl⟩ := words_shape hp1
  have HP1 := Lib.hid hp1
  have HL1 := Lib.hid (HL.out.below (w0 := w) hp1.1)
  clear hp1
  go_wp2_with fail
  refine (HR.out _).mono ?_
  intro e w2 hp2
  obtain ⟨v2, n2, m2, rfl⟩ := words_shape hp2
  have HL2 := Lib.hid (HL1.out.below (w0 := w) hp2.1)
  have HB2 := Lib.hid (HP1.out.1.trans (hp2.1.mono HP1.out.1.size))
  have hb2 := hp2.1
  have hpair := pair_of HP1.out hp2
  have HAW := Lib.hid (awake_ok w2 HL2.out)
  clear hp2 HP1 HL HL1 HL2 HW HR
  rcases hpair with ⟨n, m, e1, e2⟩ | ⟨ga, oa, ca, gb, ob, cb, ws, hws, e1, e2, hga, hla, hgb, hlb⟩
  · simp only [Ending.returned.injEq, Value.tuple.injEq, Array.mk.injEq, List.cons.injEq, Value.int.injEq, true_and, and_true] at e1 e2
    obtain ⟨rfl, rfl, rfl⟩ := e1
    obtain ⟨rfl, rfl, rfl⟩ := e2
    clear hb2
    go_wp2_with fail
    refine HAW.out.mono ?_
    rintro e w3 ⟨rfl, hb3⟩
    have HB3 := Lib.hid (HB2.out.trans (hb3.mono HB2.out.size))
    have HSN := Lib.hid (same_nil w3)
    clear hb3
    go_wp2_with fail
    refine HSN.out.mono ?_
    rintro e w4 ⟨rfl, hb4⟩
    have HB4 := Lib.hid (HB3.out.trans (hb4.mono HB3.out.size))
    clear hb4
    go_wp2_with fail
    go_ret
    exact ⟨by simp, HB4.out⟩
  · simp only [Ending.returned.injEq, Value.tuple.injEq, Array.mk.injEq, List.cons.injEq, Value.int.injEq, true_and, and_true] at e1 e2
    obtain ⟨rfl, rfl, rfl⟩ := e1
    obtain ⟨rfl, rfl, rfl⟩ := e2
    have hla2 := hla.below hb2 hga
    have hga2 : ga < w2.heap.size := Nat.lt_of_lt_of_le hga hb2.size
    have HX : Hid (Lies w2 ga oa ws ∧ Lies w2 gb ob ws ∧ ga < w2.heap.size ∧ gb < w2.heap.size) := ⟨hla2, hlb, hga2, hgb⟩
    clear hb2 hla hlb hga hgb hla2 hga2
    go_wp2_with fail
    refine HAW.out.mono ?_
    rintro e w3 ⟨rfl, hb3⟩
    have HB3 := Lib.hid (HB2.out.trans (hb3.mono HB2.out.size))
    have HSN := Lib.hid (same_ok ga oa gb ob ws.length ca cb ws rfl hws w3 (HX.out.1.below hb3 HX.out.2.2.1) (HX.out.2.1.below hb3 HX.out.2.2.2))
    clear hb3
    go_wp2_with fail
    refine HSN.out.mono ?_
    rintro e w4 ⟨rfl, hb4⟩
    have HB4 := Lib.hid (HB3.out.trans (hb4.mono HB3.out.size))
    clear hb4
    go_wp2_with fail
    go_ret
    exact ⟨by simp, HB4.out⟩
end Go.Proofs.YtkkmjfpmhbafoaaDoor
