import Derived.Test.YtmnakommidgmnaaW4
namespace Go.Proofs.Ytmnakommidgmnaa
open Go.RowKit
set_option linter.unusedVariables false

abbrev ii (l : List Nat) : List Int := l.map fun x : Nat => (x : Int)
def inC (ws : Nat → List Int) (who x : Nat) : Bool := decide (x = who) || (reachB ws who x && reachB ws x who)
def circ (ws : Nat → List Int) (who : Nat) : List Nat := if reachB ws who who = true then (List.range 16).filter (inC ws who) else []

set_option maxHeartbeats 2000000 in
set_option maxRecDepth 100000 in
theorem circle_in (g who : Nat) (ws : Nat → List Int) (w : World) (hg : Gr w g ws) (hw : who < 16) :
    Calls Try.prog 9 #[.pointer (some ⟨g, 0, none⟩), .int .i64 who] w fun e w' => ∃ v, e = .returned v ∧ Mid w' w.heap.size 3 1 v (circ ws who).length (iv (ii (circ ws who))) ∧ Below w.heap.size w w' := by
  obtain ⟨i0, hi0, hz0, hz1, hz2⟩ := info_parts info3
  have HMY := Lib.hid (may_yes who hw)
  have HG := Lib.hid hg
  have HR0 := Lib.hid (reach_any g who who ws w hg hw)
  clear hg
  by_cases hr : reachB ws who who = true
  · rw [hr] at HR0
    have HC : Hid (circ ws who = (List.range 16).filter (inC ws who)) := by show _ = _; unfold circ; rw [if_pos hr]
    clear hr
    go_enter Try.func9, Try.ntmps9
    go_wp2_with (first
      | (go_at_call 13; refine (HMY.out _).mono ?_; rintro e w' ⟨rfl, rfl⟩)
      | (go_at_call 16; refine HR0.out.mono ?_; rintro e w1 ⟨rfl, hb⟩; have HB := Lib.hid hb; clear hb))
    go_loopg [5, 21] 16 (fun q out i wr => ∃ k : Nat, q + k = 16 ∧ i = .int .i64 k ∧ Mid wr w.heap.size 3 1 out ((List.range k).filter (inC ws who)).length (iv (ii ((List.range k).filter (inC ws who)))) ∧ Below w.heap.size w wr)
    case atStart => exact ⟨0, by omega, rfl, by simpa using Mid.nil _ _ _ _, HB.out⟩
    case round =>
      obtain ⟨k, hk, rfl, hm, hbw⟩ := hrel
      have HM := Lib.hid hm
      have HBW := Lib.hid hbw
      have hsz := hbw.size
      have hfl : ((List.range k).filter (inC ws who)).length ≤ k := Nat.le_trans (List.length_filter_le _ _) (by simp)
      have HFL := Lib.hid hfl
      clear hm hbw hfl
      by_cases hlt : k < 16
      · have hsucc : (List.range (k + 1)).filter (inC ws who) = (List.range k).filter (inC ws who) ++ (if inC ws who k = true then [k] else []) := by
          rw [List.range_succ, List.filter_append]
          simp [List.filter_cons]
        have HS := Lib.hid hsucc
        clear hsucc
        have HRa := Lib.hid (fun w1 (h : Below w.heap.size w w1) => reach_any g who k ws w1 (HG.out.only h) hw)
        have HRb := Lib.hid (fun w1 (h : Below w.heap.size w w1) => reach_any g k who ws w1 (HG.out.only h) hlt)
        by_cases he : k = who
        · have heb : ((k : Int) == (who : Int)) = true := by simp [he]
          have hin : Hid (inC ws who k = true) := by show _ = _; simp [inC, he]
          have HE := Lib.hid he
          clear he
          go_wp2_with (at_builtin; refine wpList_append_mid _ rfl (.tmp 39) (.tmp 41) 29 rfl w.heap.size 3 i0 (.int .i64 0) 1 8 Try.underlying29 hi0 hz0 hz1 hz2 rfl (by decide) _ _ _ rfl (HM.out.alloc _) (some ⟨wr.heap.size, 0, none⟩) 1 1 [.int .i64 k] rfl rfl (row_one _ _ _) (by simp [Value.oneCell']) (by have := HFL.out; simp only [maxLen]; omega) (by have := HFL.out; omega) (by simp; omega) ?_; intro v1 w1 hm1 hg1 ho1; have HM1 := Lib.hid hm1; have HG1 := Lib.hid hg1; clear hm1 hg1 ho1)
          go_roundg (gk - 1)
          case measure => omega
          case rel =>
            refine ⟨k + 1, by omega, by go_num, ?_, ?_⟩
            · rw [HS.out, if_pos hin.out]
              simpa [iv, ii] using HM1.out
            · exact (HBW.out.alloc hsz _).grown HG1.out (by simp; omega) (fun j hj => (HM.out.block j hj).1)
        · have heb : ((k : Int) == (who : Int)) = false := by simp; omega
          have HE := Lib.hid he
          clear he
          by_cases hr1 : reachB ws who k = true
          · have hR1 := HRa.out
            rw [hr1] at hR1
            have HR1 := Lib.hid hR1
            clear hR1 HRa
            by_cases hr2 : reachB ws k who = true
            · have hR2 := HRb.out
              rw [hr2] at hR2
              have HR2 := Lib.hid hR2
              have hin : Hid (inC ws who k = true) := by show _ = _; simp [inC, hr1, hr2]
              clear hR2 hr1 hr2 HRb
              go_wp2_with fail
              refine (HR1.out _ HBW.out).mono ?_
              rintro e w2 ⟨rfl, hb⟩
              have HB2 := Lib.hid (HBW.out.trans (hb.mono hsz))
              have hs2 := hb.size
              have HO2 := Lib.hid hb
              clear hb
              go_wp2_with fail
              refine (HR2.out _ HB2.out).mono ?_
              rintro e w3 ⟨rfl, hb⟩
              have HB3 := Lib.hid (HB2.out.trans (hb.mono HB2.out.size))
              have HM3 := Lib.hid ((HM.out.only (Only.of_below HO2.out []) (by simp)).only (Only.of_below hb []) (by simp))
              have hs3 := hb.size
              clear hb
              go_wp2_with (at_builtin; refine wpList_append_mid _ rfl (.tmp 39) (.tmp 41) 29 rfl w.heap.size 3 i0 (.int .i64 0) 1 8 Try.underlying29 hi0 hz0 hz1 hz2 rfl (by decide) _ _ _ rfl (HM3.out.alloc _) (some ⟨w3.heap.size, 0, none⟩) 1 1 [.int .i64 k] rfl rfl (row_one _ _ _) (by simp [Value.oneCell']) (by have := HFL.out; simp only [maxLen]; omega) (by have := HFL.out; omega) (by simp; omega) ?_; intro v1 w4 hm1 hg1 ho1; have HM1 := Lib.hid hm1; have HG1 := Lib.hid hg1; clear hm1 hg1 ho1)
              go_roundg (gk - 1)
              case measure => omega
              case rel =>
                refine ⟨k + 1, by omega, by go_num, ?_, ?_⟩
                · rw [HS.out, if_pos hin.out]
                  simpa [iv, ii] using HM1.out
                · exact (HB3.out.alloc (by omega) _).grown HG1.out (by simp; omega) (fun j hj => (HM3.out.block j hj).1)
            · have hr2' : reachB ws k who = false := by simpa using hr2
              have hR2 := HRb.out
              rw [hr2'] at hR2
              have HR2 := Lib.hid hR2
              have hin : Hid (inC ws who k = false) := by show _ = _; simp [inC, HE.out, hr2']
              clear hR2 hr1 hr2 hr2' HRb
              go_wp2_with fail
              refine (HR1.out _ HBW.out).mono ?_
              rintro e w2 ⟨rfl, hb⟩
              have HB2 := Lib.hid (HBW.out.trans (hb.mono hsz))
              have HO2 := Lib.hid hb
              clear hb
              go_wp2_with fail
              refine (HR2.out _ HB2.out).mono ?_
              rintro e w3 ⟨rfl, hb⟩
              have HB3 := Lib.hid (HB2.out.trans (hb.mono HB2.out.size))
              have HM3 := Lib.hid ((HM.out.only (Only.of_below HO2.out []) (by simp)).only (Only.of_below hb []) (by simp))
              clear hb
              go_wp2_with fail
              go_roundg (gk - 1)
              case measure => omega
              case rel =>
                refine ⟨k + 1, by omega, by go_num, ?_, HB3.out⟩
                rw [HS.out, if_neg (by rw [hin.out]; simp), List.append_nil]
                exact HM3.out
          · have hr1' : reachB ws who k = false := by simpa using hr1
            have hR1 := HRa.out
            rw [hr1'] at hR1
            have HR1 := Lib.hid hR1
            have hin : Hid (inC ws who k = false) := by show _ = _; simp [inC, HE.out, hr1']
            clear hR1 HRa HRb hr1 hr1'
            go_wp2_with fail
            refine (HR1.out _ HBW.out).mono ?_
            rintro e w2 ⟨rfl, hb⟩
            have HB2 := Lib.hid (HBW.out.trans (hb.mono hsz))
            have HM2 := Lib.hid (HM.out.only (Only.of_below hb []) (by simp))
            clear hb
            go_wp2_with fail
            go_roundg (gk - 1)
            case measure => omega
            case rel =>
              refine ⟨k + 1, by omega, by go_num, ?_, HB2.out⟩
              rw [HS.out, if_neg (by rw [hin.out]; simp), List.append_nil]
              exact HM2.out
      · obtain rfl : k = 16 := by omega
        go_wp2
        go_ret
        refine ⟨_, rfl, ?_, HBW.out⟩
        rw [HC.out]
        exact HM.out
  · have hr' : reachB ws who who = false := by simpa using hr
    rw [hr'] at HR0
    have HC : Hid (circ ws who = []) := by show _ = _; unfold circ; rw [if_neg hr]
    clear hr hr'
    go_enter Try.func9, Try.ntmps9
    go_wp2_with (first
      | (go_at_call 13; refine (HMY.out _).mono ?_; rintro e w' ⟨rfl, rfl⟩)
      | (go_at_call 16; refine HR0.out.mono ?_; rintro e w1 ⟨rfl, hb⟩; have HB := Lib.hid hb; clear hb))
    go_ret
    refine ⟨_, rfl, ?_, HB.out⟩
    rw [HC.out]
    exact Mid.nil _ _ _ _

end Go.Proofs.Ytmnakommidgmnaa
