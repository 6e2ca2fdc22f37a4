import Derived.Test.YtmnakommidgmnaaCore
import Derived.Outline
import Derived.Deep.RegionWith
import Derived.Deep.LoopGhost
import Derived.Deep.CutBlock
import Derived.Deep.DeepCutAuto
import Derived.WalkSpells
import Derived.Lib.SliceRun
namespace Go.Proofs.Ytmnakommidgmnaa
open Go.RowKit
set_option linter.unusedVariables false

theorem info3 : (Try.prog.info? 3).map (fun i => (i.zero, i.size, i.bytes)) = some (some (.int .i64 0), 1, 8) := by kernel_rfl

abbrev iv (l : List Int) : List Value := l.map (Value.int .i64)
theorem iv_one (l : List Int) : ∀ u ∈ iv l, u.oneCell' = true := by
  intro u hu
  obtain ⟨x, _, rfl⟩ := List.mem_map.1 hu
  rfl

/-- Who waits for whom, at g. -/
structure Gr (w : World) (g : Nat) (ws : Nat → List Int) : Prop where
  rows : ∃ cs : Array Value, Blk w g 41 cs ∧ cs.size = 16 ∧ ∀ i, i < 16 → ∃ v, cs[i]? = some v ∧ Mid w 0 3 1 v (ws i).length (iv (ws i))
  len : ∀ i, i < 16 → (ws i).length ≤ 16
  rng : ∀ i, i < 16 → ∀ x ∈ ws i, 0 ≤ x ∧ x < 16

theorem Gr.only {w w' : World} {g : Nat} {ws : Nat → List Int} (h : Gr w g ws) (ho : Below w.heap.size w w') : Gr w' g ws := by
  obtain ⟨cs, hb, hs, hr⟩ := h.rows
  refine ⟨⟨cs, hb.below ho hb.lt, hs, fun i hi => ?_⟩, h.len, h.rng⟩
  obtain ⟨v, hv, hm⟩ := hr i hi
  exact ⟨v, hv, hm.only (Only.of_below ho []) (by simp)⟩
theorem Gr.drewN {w : World} {g : Nat} {ws : Nat → List Int} (h : Gr w g ws) (n : Nat) : Gr (w.drewN n) g ws := ⟨h.rows, h.len, h.rng⟩

/-- Row i: its cell, and what it reads as. -/
theorem Gr.row {w : World} {g : Nat} {ws : Nat → List Int} (h : Gr w g ws) {i : Nat} (hi : i < 16) :
    ∃ A c, w.cell? ⟨g, i, none⟩ = some (.slice A (ws i).length c) ∧ (ws i).length ≤ c ∧ c ≤ maxLen ∧ Row w A (iv (ws i)) ∧ Mid w 0 3 1 (.slice A (ws i).length c) (ws i).length (iv (ws i)) := by
  obtain ⟨cs, hb, hs, hr⟩ := h.rows
  obtain ⟨v, hv, hm⟩ := hr i hi
  obtain ⟨A, c, rfl, h1, h2, h3⟩ := hm.form
  exact ⟨A, c, by rw [hb.cell]; exact hv, h1, h2, h3, hm⟩

theorem may_any (n : Int) (w : World) : Calls Try.prog 13 #[.int .i64 n] w fun e w' => e = .returned (.bool (decide (0 ≤ n) && decide (n < 16))) ∧ w = w' := by
  by_cases h : 0 ≤ n
  · go_enter Try.func13, Try.ntmps13
    go_wp2
    go_ret
    exact ⟨by simp [h], rfl⟩
  · have e : decide (0 ≤ n) = false := by simpa using h
    go_enter Try.func13, Try.ntmps13
    go_wp2
    go_ret
    exact ⟨rfl, rfl⟩
theorem may_yes (n : Nat) (h : n < 16) (w : World) : Calls Try.prog 13 #[.int .i64 n] w fun e w' => e = .returned (.bool true) ∧ w = w' := by
  have := may_any n w
  rwa [show (decide ((0 : Int) ≤ (n : Int)) && decide ((n : Int) < 16)) = true by simp; omega] at this
theorem may_no (n : Int) (h : ¬ (0 ≤ n ∧ n < 16)) (w : World) : Calls Try.prog 13 #[.int .i64 n] w fun e w' => e = .returned (.bool false) ∧ w = w' := by
  have := may_any n w
  rwa [show (decide (0 ≤ n) && decide (n < 16)) = false by simpa using h] at this

theorem new_any (w : World) : Calls Try.prog 6 #[] w fun e w' => ∃ g, e = .returned (.pointer (some ⟨g, 0, none⟩)) ∧ w.heap.size ≤ g ∧ Gr w' g (fun _ => []) ∧ Below w.heap.size w w' := by
  go_enter Try.func6, Try.ntmps6
  go_wp2
  go_ret
  refine ⟨w.heap.size, rfl, Nat.le_refl _, ⟨⟨_, Blk.new w 41 _, rfl, fun i hi => ⟨.slice none 0 0, ?_, Mid.nil _ _ _ _⟩⟩, by simp, by simp⟩, (Below.refl _ _).alloc (Nat.le_refl _) _⟩
  have e : ∀ j, j < 16 → (#[Value.slice none 0 0, .slice none 0 0, .slice none 0 0, .slice none 0 0, .slice none 0 0, .slice none 0 0, .slice none 0 0, .slice none 0 0, .slice none 0 0, .slice none 0 0, .slice none 0 0, .slice none 0 0, .slice none 0 0, .slice none 0 0, .slice none 0 0, .slice none 0 0] : Array Value)[j]? = some (.slice none 0 0) := by
    intro j hj
    rcases j with _ | _ | _ | _ | _ | _ | _ | _ | _ | _ | _ | _ | _ | _ | _ | _ | j <;> first | rfl | omega
  exact e i hi

theorem clone_nil (n c : Nat) (w : World) : Calls Try.prog 18 #[.slice none n c] w fun e w' => e = .returned (.slice none 0 0) ∧ w = w' := by
  have q := fun (w : World) (a : Option Addr) (n c n' c' : Nat) => Lib.run_eql_slice_nil (P := Try.prog) w _ _ a n c n' c' Try.underlying29
  go_enter Try.func18, Try.ntmps18
  go_wp2
  go_ret
  exact ⟨rfl, rfl⟩

set_option maxHeartbeats 800000 in
theorem clone_some (ad : Addr) (n c : Nat) (l : List Int) (w : World) (hl : l.length = n) (hn : n ≤ 1000000) (hr : Row w (some ad) (iv l)) :
    Calls Try.prog 18 #[.slice (some ad) n c] w fun e w' => ∃ v, e = .returned v ∧ Mid w' w.heap.size 3 1 v n (iv l) ∧ Below w.heap.size w w' := by
  have q := fun (w : World) (a : Option Addr) (n c n' c' : Nat) => Lib.run_eql_slice_nil (P := Try.prog) w _ _ a n c n' c' Try.underlying29
  obtain ⟨i0, hi0, hz0, hz1, hz2⟩ := info_parts info3
  have HR := Lib.hid hr
  have HL := Lib.hid hl
  clear hr hl
  go_enter Try.func18, Try.ntmps18
  go_wp2_with (at_builtin; refine wpList_append_mid _ rfl (.tmp 5) (.tmp 6) 29 rfl w.heap.size 3 i0 (.int .i64 0) 1 8 Try.underlying29 hi0 hz0 hz1 hz2 rfl (by decide) _ 0 [] rfl (Mid.of_own (World.ownsRow_made w #[] 0 (Nat.le_refl _) (Nat.zero_le _) rfl)) (some ad) n c (iv l) rfl (by simp [HL.out]) (HR.out.belowAll ((Below.refl _ _).alloc (Nat.le_refl _) _)) (iv_one l) (by simp only [maxLen]; omega) (by omega) (by simp) ?_; intro v1 w1 hm hg ho; have HM := Lib.hid hm; have HG := Lib.hid hg; clear hm hg ho)
  go_ret
  exact ⟨v1, rfl, by simpa using HM.out, ((Below.refl _ w).alloc (Nat.le_refl _) _).grown HG.out (by simp) (by intro k hk; injection hk with hk; exact Nat.le_of_eq hk)⟩

/- For whom one waits: a slice of the caller's own. -/
set_option maxHeartbeats 800000 in
theorem for_in (g i : Nat) (ws : Nat → List Int) (w : World) (hi : i < 16) (h : Gr w g ws) :
    Calls Try.prog 11 #[.pointer (some ⟨g, 0, none⟩), .int .i64 i] w fun e w' => ∃ v, e = .returned v ∧ Mid w' w.heap.size 3 1 v (ws i).length (iv (ws i)) ∧ Below w.heap.size w w' := by
  obtain ⟨A, c, hc, h1, h2, hr, hm⟩ := h.row hi
  have hln := h.len i hi
  have HMY := Lib.hid (may_yes i hi)
  have HR := Lib.hid hr
  have hwn : Hid (A = none → (ws i).length = 0 ∧ iv (ws i) = []) := fun e => by
    subst e
    rcases hm.2 with ⟨_, h0⟩ | ⟨g', off, cap, cur, hv, _⟩
    · exact ⟨h0, List.eq_nil_of_length_eq_zero (by simpa using h0)⟩
    · cases hv
  generalize ws i = l at *
  have hl : l.length ≤ 1000000 := by omega
  clear hr hm h h2 hln
  generalize hk : l.length = k at *
  have HK := Lib.hid hk
  clear hk
  rcases A with _ | ad
  · go_enter Try.func11, Try.ntmps11
    go_wp2_with (first
      | (go_at_call 13; refine (HMY.out _).mono ?_; rintro e w' ⟨rfl, rfl⟩)
      | (go_at_call 18; refine (clone_nil _ _ _).mono ?_; rintro e w' ⟨rfl, rfl⟩))
    go_ret
    refine ⟨_, rfl, ?_, Below.refl _ _⟩
    rw [(hwn.out (by trivial)).1, (hwn.out (by trivial)).2]
    exact Mid.nil _ _ _ _
  · go_enter Try.func11, Try.ntmps11
    go_wp2_with (first
      | (go_at_call 13; refine (HMY.out _).mono ?_; rintro e w' ⟨rfl, rfl⟩)
      | (go_at_call 18; refine (clone_some ad k c l _ HK.out hl HR.out).mono ?_; rintro e w' ⟨v, rfl, hm, hb⟩; have HM := Lib.hid hm; have HB := Lib.hid hb; clear hm hb))
    go_ret
    exact ⟨v, rfl, HM.out, HB.out⟩

theorem for_nil (n : Int) (w : World) : Calls Try.prog 11 #[.pointer none, .int .i64 n] w fun e w' => e = .returned (.slice none 0 0) ∧ w = w' := by
  go_enter Try.func11, Try.ntmps11
  go_wp2
  go_ret
  exact ⟨rfl, rfl⟩
theorem circle_nil (n : Int) (w : World) : Calls Try.prog 9 #[.pointer none, .int .i64 n] w fun e w' => e = .returned (.slice none 0 0) ∧ w = w' := by
  go_enter Try.func9, Try.ntmps9
  go_wp2
  go_ret
  exact ⟨rfl, rfl⟩
theorem circle_out (g : Nat) (n : Int) (h : ¬ (0 ≤ n ∧ n < 16)) (w : World) : Calls Try.prog 9 #[.pointer (some ⟨g, 0, none⟩), .int .i64 n] w fun e w' => e = .returned (.slice none 0 0) ∧ w = w' := by
  have HN := Lib.hid (may_no n h)
  clear h
  go_enter Try.func9, Try.ntmps9
  go_wp2_with (go_at_call 13; refine (HN.out _).mono ?_; rintro e w' ⟨rfl, rfl⟩)
  go_ret
  exact ⟨rfl, rfl⟩
theorem set_nil (n : Int) (v : Value) (w : World) : Calls Try.prog 8 #[.pointer none, .int .i64 n, v] w fun e w' => e = .returned (.tuple #[]) ∧ w = w' := by
  go_enter Try.func8, Try.ntmps8
  go_wp2
  exact bodyPost_ret (results_none rfl _ _ _) rfl ⟨rfl, rfl⟩
theorem set_out (g : Nat) (n : Int) (v : Value) (h : ¬ (0 ≤ n ∧ n < 16)) (w : World) : Calls Try.prog 8 #[.pointer (some ⟨g, 0, none⟩), .int .i64 n, v] w fun e w' => e = .returned (.tuple #[]) ∧ w = w' := by
  have HN := Lib.hid (may_no n h)
  clear h
  go_enter Try.func8, Try.ntmps8
  go_wp2_with (go_at_call 13; refine (HN.out _).mono ?_; rintro e w' ⟨rfl, rfl⟩)
  exact bodyPost_ret (results_none rfl _ _ _) rfl ⟨rfl, rfl⟩
theorem victim_nil (n : Int) (v : Value) (w : World) : Calls Try.prog 10 #[.pointer none, .int .i64 n, v] w fun e w' => e = .returned (.int .i64 (-1)) ∧ w = w' := by
  go_enter Try.func10, Try.ntmps10
  go_wp2_with (go_at_call 9; refine (circle_nil _ _).mono ?_; rintro e w' ⟨rfl, rfl⟩)
  refine wp_loop_rounds 1 ?_
  rw [rounds_succ]
  go_wp2
  go_ret
  exact ⟨rfl, rfl⟩
theorem waits_nil (w : World) : Calls Try.prog 12 #[.pointer none] w fun e w' => e = .returned (.bool false) ∧ w = w' := by
  go_enter Try.func12, Try.ntmps12
  go_wp2
  go_ret
  exact ⟨rfl, rfl⟩

end Go.Proofs.Ytmnakommidgmnaa
