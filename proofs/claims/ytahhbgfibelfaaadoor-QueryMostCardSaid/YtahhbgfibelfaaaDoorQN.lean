import Derived.Test.YtahhbgfibelfaaaDoorQM
namespace Go.Proofs.YtahhbgfibelfaaaDoor
open Go.RowKit Go.Lib
set_option linter.unusedVariables false

attribute [local go_sem] wfld0 wfld1 wfld2 wfld3
def codeOf : (Int × Int) ⊕ Qu → Int
  | .inl x => x.2
  | .inr _ => 0
theorem parse_shape {s : ByteArray} {w w' : World} {e : Ending} (h : ParsePost s w e w') : Below w.heap.size w w' ∧ ∃ r, ParseR s r ∧ ∃ A1 A2 A3 A4 n1 n2 n3 n4 k1 k2 k3 k4 m a, e = .returned (.tuple #[.agg #[.slice A1 n1 k1, .slice A2 n2 k2, .slice A3 n3 k3, .slice A4 n4 k4, .int .i64 m], .int .i64 a, .int .i64 (codeOf r)]) := by
  obtain ⟨hb, r, hr, h⟩ := h
  refine ⟨hb, r, hr, ?_⟩
  cases r with
  | inl x =>
    obtain ⟨a, k⟩ := x
    exact ⟨none, none, none, none, 0, 0, 0, 0, 0, 0, 0, 0, 0, a, h⟩
  | inr x =>
    obtain ⟨V1, V2, V3, V4, ns, rfl, hq⟩ := h
    obtain ⟨A1, k1, e1, _⟩ := GRow.of_mid hq.m1
    obtain ⟨A2, k2, e2, _⟩ := GRow.of_mid hq.m2
    obtain ⟨A3, k3, e3, _⟩ := GRow.of_mid hq.m3
    obtain ⟨A4, k4, e4, _⟩ := GRow.of_mid hq.m4
    subst e1 e2 e3 e4
    exact ⟨_, _, _, _, _, _, _, _, _, _, _, _, _, _, rfl⟩
def bWk : ByteArray := ⟨#[102, 105, 110, 100, 32, 40, 97, 58, 80, 32, 123, 107, 58, 32, 53, 125, 41, 32, 45, 91, 101, 58, 107, 110, 111, 119, 115, 93, 45, 62, 32, 40, 98, 41, 32, 119, 104, 101, 114, 101, 32, 98, 46, 120, 32, 60, 32, 51, 32, 116, 101, 108, 108, 32, 97, 44, 32, 98, 46, 120, 32, 108, 105, 109, 105, 116, 32, 55]⟩
def wkWs : List Wd := [⟨1, ⟨#[102, 105, 110, 100]⟩, 0, 0⟩, ⟨4, ⟨#[40]⟩, 0, 5⟩, ⟨1, ⟨#[97]⟩, 0, 6⟩, ⟨4, ⟨#[58]⟩, 0, 7⟩, ⟨1, ⟨#[80]⟩, 0, 8⟩, ⟨4, ⟨#[123]⟩, 0, 10⟩, ⟨1, ⟨#[107]⟩, 0, 11⟩, ⟨4, ⟨#[58]⟩, 0, 12⟩, ⟨2, ⟨#[]⟩, 5, 14⟩, ⟨4, ⟨#[125]⟩, 0, 15⟩, ⟨4, ⟨#[41]⟩, 0, 16⟩,
  ⟨4, ⟨#[45]⟩, 0, 18⟩, ⟨4, ⟨#[91]⟩, 0, 19⟩, ⟨1, ⟨#[101]⟩, 0, 20⟩, ⟨4, ⟨#[58]⟩, 0, 21⟩, ⟨1, ⟨#[107, 110, 111, 119, 115]⟩, 0, 22⟩, ⟨4, ⟨#[93]⟩, 0, 27⟩, ⟨4, ⟨#[45, 62]⟩, 0, 28⟩, ⟨4, ⟨#[40]⟩, 0, 31⟩, ⟨1, ⟨#[98]⟩, 0, 32⟩, ⟨4, ⟨#[41]⟩, 0, 33⟩,
  ⟨1, ⟨#[119, 104, 101, 114, 101]⟩, 0, 35⟩, ⟨1, ⟨#[98]⟩, 0, 41⟩, ⟨4, ⟨#[46]⟩, 0, 42⟩, ⟨1, ⟨#[120]⟩, 0, 43⟩, ⟨4, ⟨#[60]⟩, 0, 45⟩, ⟨2, ⟨#[]⟩, 3, 47⟩, ⟨1, ⟨#[116, 101, 108, 108]⟩, 0, 49⟩, ⟨1, ⟨#[97]⟩, 0, 54⟩, ⟨4, ⟨#[44]⟩, 0, 55⟩, ⟨1, ⟨#[98]⟩, 0, 57⟩, ⟨4, ⟨#[46]⟩, 0, 58⟩, ⟨1, ⟨#[120]⟩, 0, 59⟩, ⟨1, ⟨#[108, 105, 109, 105, 116]⟩, 0, 61⟩, ⟨2, ⟨#[]⟩, 7, 67⟩]
theorem wk_words : wds bWk (bWk.size + 1) 0 [] = .inr (flat wkWs) := by kernel_rfl
def wkQ : Qu := ⟨[⟨⟨#[97]⟩, ⟨#[80]⟩, [⟨⟨#[107]⟩, ⟨2, 5, ⟨#[]⟩⟩⟩]⟩, ⟨⟨#[98]⟩, ⟨#[]⟩, []⟩], [⟨⟨#[101]⟩, ⟨#[107, 110, 111, 119, 115]⟩, true⟩], [⟨⟨#[98]⟩, ⟨#[120]⟩, 0, ⟨2, 3, ⟨#[]⟩⟩⟩], [⟨⟨#[97]⟩, ⟨#[]⟩⟩, ⟨⟨#[98]⟩, ⟨#[120]⟩⟩], 7⟩
theorem wk_quest : questW ⟨wkWs ++ [endW bWk], -1⟩ = (⟨[endW bWk], -1⟩, wkQ) := by kernel_rfl
theorem wk_may : wkQ.may = true := by decide
theorem wk_r : ParseR bWk (.inr wkQ) := by
  refine .inr ⟨by decide, .inr ⟨wkWs, wk_words, ?_⟩⟩
  rw [wk_quest]
  unfold finW
  rw [if_pos (by show (-1 : Int) < 0; omega), if_pos wk_may]
set_option maxHeartbeats 4000000 in
set_option maxRecDepth 100000 in
theorem awake_q (w : World) (hL : Laid w) : Calls Tryd.prog 5 #[] w fun e w' => e = .returned (.bool true) ∧ Below w.heap.size w w' := by
  have HP := Lib.hid (parse_q bWk w (by decide) hL)
  clear hL
  unfold bWk at HP
  go_enter Tryd.func5, Tryd.ntmps5
  go_wp2_with fail
  refine HP.out.mono ?_
  rintro e w1 ⟨hb, r, hr, h⟩
  obtain rfl := ParseR.uniq hr wk_r
  obtain ⟨V1, V2, V3, V4, ns, rfl, hq⟩ := h
  obtain ⟨A1, k1, e1, r1⟩ := GRow.of_mid hq.m1
  obtain ⟨A2, k2, e2, r2⟩ := GRow.of_mid hq.m2
  obtain ⟨A3, k3, e3, r3⟩ := GRow.of_mid hq.m3
  obtain ⟨A4, k4, e4, r4⟩ := GRow.of_mid hq.m4
  have hn : ns.length = 2 := by have := congrArg List.length hq.n; simpa [wkQ] using this
  subst e1 e2 e3 e4
  obtain ⟨g2, o2, hA2, hg2, hc2⟩ := row_at r2 edC_len (by omega) (i := 0) (by decide)
  obtain ⟨g4, o4, hA4, hg4, hc4⟩ := row_at r4 itC_len (by omega) (i := 1) (by decide)
  subst hA2 hA4
  have a2 : w1.cell? ⟨g2, o2 + 2, none⟩ = some (.bool true) := hc2 2 _ (by omega) rfl
  have a4 : w1.cell? ⟨g4, o4 + 2 + 1, none⟩ = some (.string ⟨#[120]⟩) := hc4 1 _ (by omega) rfl
  have l2 : wkQ.es.length = 1 := rfl
  have l4 : wkQ.ts.length = 2 := rfl
  have lm : wkQ.m = 7 := rfl
  rw [hn, l2, l4, lm]
  have HB := Lib.hid hb
  clear hb hr hq r1 r2 r3 r4 hc2 hc4 hn l2 l4 lm
  go_wp2_with fail
  go_ret
  exact ⟨by simp, HB.out.alloc HB.out.size _⟩

end Go.Proofs.YtahhbgfibelfaaaDoor
