import Derived.Test.YtmnakommidgmnaaW2
namespace Go.Proofs.Ytmnakommidgmnaa
open Go.RowKit Go.Sort
set_option linter.unusedVariables false

theorem row_one (w : World) (u : Value) (t : TypeId) : Row (w.alloc (.cells #[u] t)) (some ⟨w.heap.size, 0, none⟩) [u] := fun _ => ⟨_, rfl, fun j v hj => by
  rcases j with _ | j
  · simp at hj
    subst hj
    rw [add_at, (Blk.new w t #[u]).cell]
    rfl
  · simp at hj⟩

def okB (who x : Int) : Bool := decide (0 ≤ x) && decide (x < 16) && decide (x ≠ who)
def norm (who : Int) (xs : List Int) : List Int := Lib.compact (srt (xs.filter (okB who)))
def upd (ws : Nat → List Int) (who : Nat) (l : List Int) : Nat → List Int := fun i => if i = who then l else ws i

theorem take_filter_hit (who : Int) (xs : List Int) (k : Nat) (h : k < xs.length) (hx : okB who (xs.getD k 0) = true) :
    (xs.take (k + 1)).filter (okB who) = (xs.take k).filter (okB who) ++ [xs.getD k 0] := by
  rw [List.take_succ_eq_append_getElem h, List.filter_append]
  have : xs.getD k 0 = xs[k] := by simp [h]
  rw [this] at hx ⊢
  simp [hx]
theorem take_filter_miss (who : Int) (xs : List Int) (k : Nat) (h : k < xs.length) (hx : okB who (xs.getD k 0) = false) :
    (xs.take (k + 1)).filter (okB who) = (xs.take k).filter (okB who) := by
  rw [List.take_succ_eq_append_getElem h, List.filter_append]
  have : xs.getD k 0 = xs[k] := by simp [h]
  rw [this] at hx
  simp [hx]

/-- What Set leaves. -/
def SetPost (w : World) (g who : Nat) (ws : Nat → List Int) (l : List Int) (e : Ending) (w' : World) : Prop :=
  e = .returned (.tuple #[]) ∧ Gr w' g (upd ws who l) ∧ Only w w' [g]

theorem set_post {w w2 : World} {g who : Nat} {ws : Nat → List Int} {l : List Int} {v : Value} (h : Gr w g ws) (hw : who < 16) (hb : Below w.heap.size w w2) (hm : Mid w2 w.heap.size 3 1 v l.length (iv l))
    (hl : l.length ≤ 16) (hr : ∀ x ∈ l, 0 ≤ x ∧ x < 16) : Gr (w2.setCell ⟨g, who, none⟩ v) g (upd ws who l) ∧ Only w (w2.setCell ⟨g, who, none⟩ v) [g] := by
  have h2 := h.only hb
  obtain ⟨cs, hc, hs, hrow⟩ := h2.rows
  refine ⟨⟨⟨cs.setIfInBounds who v, hc.set_ who v, by simpa using hs, fun i hi => ?_⟩, fun i hi => ?_, fun i hi => ?_⟩, (Only.of_below hb _).setCell (by simp) _⟩
  · have hone : Only w2 (w2.setCell ⟨g, who, none⟩ v) [g] := (Only.refl _ _).setCell (by simp) _
    unfold upd
    by_cases e : i = who
    · subst e
      refine ⟨v, by simp [hs, hi], ?_⟩
      rw [if_pos rfl]
      exact (hm.mono (Nat.zero_le _)).only hone (fun g' hg' hin => hm.ne_blk hc (by decide) (by simp at hin; rw [← hin]; exact hg'))
    · obtain ⟨v', hv', hm'⟩ := hrow i hi
      refine ⟨v', by rw [Array.getElem?_setIfInBounds, if_neg (fun x => e x.symm)]; exact hv', ?_⟩
      rw [if_neg e]
      exact hm'.only hone (fun g' hg' hin => hm'.ne_blk hc (by decide) (by simp at hin; rw [← hin]; exact hg'))
  · unfold upd; split
    · exact hl
    · exact h.len i hi
  · unfold upd; split
    · exact hr
    · exact h.rng i hi

set_option maxHeartbeats 2000000 in
set_option maxRecDepth 100000 in
theorem set_in (g who : Nat) (ws : Nat → List Int) (A : Option Addr) (n c : Nat) (xs : List Int) (w : World) (hg : Gr w g ws) (hw : who < 16) (hA : Row w A (iv xs)) (hn : xs.length = n) (hN : n ≤ 17592186044415)
    (hl : (norm who xs).length ≤ 16) (hr : ∀ x ∈ norm who xs, 0 ≤ x ∧ x < 16) :
    Calls Try.prog 8 #[.pointer (some ⟨g, 0, none⟩), .int .i64 who, .slice A n c] w (SetPost w g who ws (norm who xs)) := by
  obtain ⟨i0, hi0, hz0, hz1, hz2⟩ := info_parts info3
  obtain ⟨_, _, hcell, _⟩ := hg.row hw
  have hgb : g < w.heap.size := by obtain ⟨cs, hb, _⟩ := hg.rows; exact hb.lt
  have hfr : w.frozen? ⟨g, who, none⟩ = false := by obtain ⟨cs, hb, _⟩ := hg.rows; exact hb.frozen _
  have HMY := Lib.hid (may_yes who hw)
  have HG := Lib.hid hg
  have HA := Lib.hid hA
  have HNL := Lib.hid hn
  have HL := Lib.hid hl
  have HR := Lib.hid hr
  clear hg hA hn hl hr
  go_enter Try.func8, Try.ntmps8
  go_wp2_with (go_at_call 13; refine (HMY.out _).mono ?_; rintro e w' ⟨rfl, rfl⟩)
  go_loopg [6, 18] n (fun q out i wr => ∃ (k : Nat), q + k = n ∧ i = .int .i64 k ∧ Mid wr w.heap.size 3 1 out ((xs.take k).filter (okB who)).length (iv ((xs.take k).filter (okB who))) ∧ Below w.heap.size w wr)
  case atStart => exact ⟨0, by omega, rfl, by simpa using Mid.nil _ _ _ _, Below.refl _ _⟩
  case round =>
    obtain ⟨k, hk, rfl, hm, hbw⟩ := hrel
    have HM := Lib.hid hm
    have HBW := Lib.hid hbw
    have hfl : ((xs.take k).filter (okB who)).length ≤ k := Nat.le_trans (List.length_filter_le _ _) (List.length_take_le _ _)
    have HFL := Lib.hid hfl
    have hsz := hbw.size
    clear hm hbw hfl
    by_cases hlt : k < n
    · have hkx : Hid (k < xs.length) := by rw [HNL.out]; exact hlt
      obtain ⟨ad, rfl, hx⟩ := (HA.out.belowAll HBW.out).at_ (k := k) (u := .int .i64 (xs.getD k 0)) (by simp [iv, List.getElem?_eq_getElem hkx.out])
      by_cases hok : okB who (xs.getD k 0) = true
      · have HS := Lib.hid (take_filter_hit who xs k hkx.out hok)
        have hx0 : 0 ≤ xs.getD k 0 ∧ xs.getD k 0 < 16 ∧ xs.getD k 0 ≠ who := by simpa [okB, and_assoc] using hok
        have HO := Lib.hid hok
        clear hok
        generalize xs.getD k 0 = x at *
        obtain ⟨h1, h2, h3⟩ := hx0
        obtain ⟨xn, rfl⟩ := Int.eq_ofNat_of_zero_le h1
        have hne : ((xn : Int) != (who : Int)) = true := by simpa using h3
        have HMX := Lib.hid (may_yes xn (by omega))
        clear h3
        go_wp2_with (first
          | (go_at_call 13; refine (HMX.out _).mono ?_; rintro e w' ⟨rfl, rfl⟩)
          | (at_builtin; refine wpList_append_mid _ rfl (.tmp 29) (.tmp 31) 29 rfl w.heap.size 3 i0 (.int .i64 0) 1 8 Try.underlying29 hi0 hz0 hz1 hz2 rfl (by decide) _ _ _ rfl (HM.out.alloc _) (some ⟨wr.heap.size, 0, none⟩) 1 1 [.int .i64 xn] rfl rfl (row_one _ _ _) (by simp [Value.oneCell']) (by have := HFL.out; simp only [maxLen]; omega) (by have := HFL.out; omega) (by simp; omega) ?_; intro v1 w1 hm1 hg1 ho1; have HM1 := Lib.hid hm1; have HG1 := Lib.hid hg1; clear hm1 hg1 ho1))
        go_roundg (gk - 1)
        case measure => omega
        case rel =>
          refine ⟨k + 1, by omega, by go_num, ?_, ?_⟩
          · rw [HS.out]
            simpa [iv] using HM1.out
          · exact (HBW.out.alloc hsz _).grown HG1.out (by simp; omega) (fun j hj => (HM.out.block j hj).1)
      · have hok' : okB who (xs.getD k 0) = false := by simpa using hok
        have HS := Lib.hid (take_filter_miss who xs k hkx.out hok')
        have hx0 : ¬ (0 ≤ xs.getD k 0 ∧ xs.getD k 0 < 16) ∨ xs.getD k 0 = who := by
          by_cases h : 0 ≤ xs.getD k 0 ∧ xs.getD k 0 < 16
          · right
            by_cases e : xs.getD k 0 = (who : Int)
            · exact e
            · rw [okB, decide_eq_true h.1, decide_eq_true h.2, decide_eq_true e] at hok'
              cases hok'
          · exact .inl h
        clear hok hok'
        generalize xs.getD k 0 = x at *
        rcases hx0 with hx0 | rfl
        · have HMX := Lib.hid (may_no x hx0)
          clear hx0
          go_wp2_with (go_at_call 13; refine (HMX.out _).mono ?_; rintro e w' ⟨rfl, rfl⟩)
          go_roundg (gk - 1)
          case measure => omega
          case rel => exact ⟨k + 1, by omega, by go_num, by rw [HS.out]; exact HM.out, HBW.out⟩
        · go_wp2_with (go_at_call 13; refine (HMY.out _).mono ?_; rintro e w' ⟨rfl, rfl⟩)
          go_roundg (gk - 1)
          case measure => omega
          case rel => exact ⟨k + 1, by omega, by go_num, by rw [HS.out]; exact HM.out, HBW.out⟩
    · have hkn : Hid ((xs.take k).filter (okB who) = xs.filter (okB who)) := by
        show _ = _
        rw [List.take_of_length_le (by rw [HNL.out]; omega)]
      have hm2 := HM.out
      rw [hkn.out] at hm2
      have hfn : (xs.filter (okB who)).length ≤ 17592186044415 := Nat.le_trans (List.length_filter_le _ _) (by rw [HNL.out]; exact hN)
      have HM2 := Lib.hid hm2
      have HFN := Lib.hid hfn
      clear hm2 hfn HM HFL hkn HA
      have HSO := Lib.hid (sort_mid HM2.out HFN.out)
      go_wp2_with (go_at_call 14; refine HSO.out.mono ?_; rintro e w2 ⟨rfl, hm3, S, ho3, hs3⟩; have HM3 := Lib.hid hm3; have HO3 := Lib.hid ho3; have HS3 := Lib.hid hs3; clear hm3 ho3 hs3)
      have hlen : (srt (xs.filter (okB who))).length = (xs.filter (okB who)).length := List.length_mergeSort _
      have hm4 := HM3.out
      rw [← hlen] at hm4
      have hl4 : Hid ((srt (xs.filter (okB who))).length ≤ 17592186044415) := by show _ ≤ _; rw [hlen]; exact HFN.out
      have hb2 : Below w.heap.size w w2 := HBW.out.trans (HO3.out.below HBW.out.size (fun x hx => (HM2.out.block x (HS3.out x hx)).1))
      have HB2 := Lib.hid hb2
      have HM4 := Lib.hid hm4
      have hc2 : w2.cell? ⟨g, who, none⟩ = w.cell? ⟨g, who, none⟩ := hb2.cell hgb
      clear hm4 hlen hb2
      go_wp2_with fail
      go_region_with (go_at_call 15; refine (compact_mid (B := w.heap.size) (l := srt (xs.filter (okB who))) (by exact HM4.out) (by exact hl4.out)).mono ?_; rintro e w3 ⟨v5, rfl, hm5, hv5, S5, ho5, hs5⟩; obtain ⟨A5, c5, rfl, _, _, _⟩ := hm5.form; have HM5 := Lib.hid hm5; have HV5 := Lib.hid hv5; have HO5 := Lib.hid ho5; have HS5 := Lib.hid hs5; have hbb : Below w.heap.size w w3 := HB2.out.trans (Below.trans ((Below.refl _ _).drew) (HO5.out.below HB2.out.size (fun x hx => (HM4.out.block x (HS5.out x hx)).1))); have hc3 := (hbb.cell (p := ⟨g, who, none⟩) hgb).trans hcell; have hf3 := (hbb.frozen (p := ⟨g, who, none⟩) hgb).trans hfr; have HBB := Lib.hid hbb; clear hm5 hv5 ho5 hs5 hbb)
      all_goals
        have hp := set_post HG.out hw HBB.out HM5.out HL.out HR.out
        go_end0
        exact ⟨rfl, hp.1, hp.2⟩

end Go.Proofs.Ytmnakommidgmnaa
