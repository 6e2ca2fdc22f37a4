import Derived.Test.YtmnakommidgmnaaW5
namespace Go.Proofs.Ytmnakommidgmnaa
open Go.RowKit
set_option linter.unusedVariables false

abbrev uv (l : List Int) : List Value := l.map (Value.int .u64)

theorem age_any (A : Option Addr) (n c x : Nat) (us : List Int) (w : World) (hA : Row w A (uv us)) (hn : us.length = n) (hN : n ≤ 9223372036854775807) :
    Calls Try.prog 17 #[.slice A n c, .int .i64 x] w fun e w' => e = .returned (.int .u64 (us.getD x 0)) ∧ w = w' := by
  by_cases h : x < n
  · obtain ⟨ad, rfl, hx⟩ := hA.at_ (k := x) (u := .int .u64 (us.getD x 0)) (by simp [uv, List.getElem?_eq_getElem (show x < us.length by omega)])
    generalize us.getD x 0 = y at *
    clear hA hn
    go_enter Try.func17, Try.ntmps17
    go_wp2
    go_ret
    exact ⟨rfl, rfl⟩
  · have e : us.getD x 0 = 0 := by simp [List.getElem?_eq_none (show us.length ≤ x by omega)]
    rw [e]
    clear hA hn e
    go_enter Try.func17, Try.ntmps17
    go_wp2
    go_ret
    exact ⟨rfl, rfl⟩

/-- The youngest, as the code finds it. -/
def older (us : List Int) (best : Int) (x : Nat) : Bool := decide (best < 0) || decide (us.getD best.toNat 0 ≤ us.getD x 0)
def pick1 (us : List Int) (best : Int) (x : Nat) : Int := if older us best x = true then (x : Int) else best
def vict (us : List Int) (l : List Nat) : Int := l.foldl (pick1 us) (-1)

theorem foldl_snoc (us : List Int) (l : List Nat) (x : Nat) : (l ++ [x]).foldl (pick1 us) (-1) = pick1 us (l.foldl (pick1 us) (-1)) x := by simp [List.foldl_append]
theorem fold_ge (us : List Int) (l : List Nat) : ∀ b : Int, -1 ≤ b → -1 ≤ l.foldl (pick1 us) b := by
  induction l with
  | nil => intro b h; exact h
  | cons x l ih =>
    intro b h
    refine ih _ ?_
    unfold pick1
    split <;> omega
theorem vict_ge (us : List Int) (l : List Nat) : -1 ≤ vict us l := fold_ge us l _ (by omega)

set_option maxHeartbeats 2000000 in
set_option maxRecDepth 100000 in
theorem victim_of (g who : Nat) (A : Option Addr) (n c : Nat) (us : List Int) (cl : List Nat) (w : World)
    (HCI : Hid (Calls Try.prog 9 #[.pointer (some ⟨g, 0, none⟩), .int .i64 who] w fun e w' => ∃ v, e = .returned v ∧ Mid w' w.heap.size 3 1 v cl.length (iv (ii cl)) ∧ Below w.heap.size w w'))
    (hA : Row w A (uv us)) (hn : us.length = n) (hN : n ≤ 9223372036854775807) (hcl : cl.length ≤ 16) :
    Calls Try.prog 10 #[.pointer (some ⟨g, 0, none⟩), .int .i64 who, .slice A n c] w fun e w' => e = .returned (.int .i64 (vict us cl)) ∧ Below w.heap.size w w' := by
  have HA := Lib.hid hA
  have HN := Lib.hid hn
  clear hA hn
  go_enter Try.func10, Try.ntmps10
  go_wp2_with (go_at_call 9; refine HCI.out.mono ?_; rintro e w1 ⟨v, rfl, hm, hb⟩; obtain ⟨A1, c1, rfl, hlc, hcm, hrow⟩ := hm.form; have HB := Lib.hid hb; have HROW := Lib.hid hrow; clear hm hb hrow)
  go_loopg [7, 14] cl.length (fun q b i wr => ∃ k : Nat, q + k = cl.length ∧ i = .int .i64 k ∧ b = .int .i64 (vict us (cl.take k)) ∧ w1 = wr)
  case atStart => exact ⟨0, by omega, rfl, rfl, rfl⟩
  case round =>
    obtain ⟨k, hk, rfl, rfl, rfl⟩ := hrel
    have hg1 := vict_ge us (cl.take k)
    by_cases hlt : k < cl.length
    · obtain ⟨ad, rfl, hx⟩ := HROW.out.at_ (k := k) (u := .int .i64 (cl.getD k 0 : Nat)) (by simp [iv, ii, List.getElem?_eq_getElem hlt])
      have hsn : vict us (cl.take (k + 1)) = pick1 us (vict us (cl.take k)) (cl.getD k 0) := by
        rw [List.take_succ_eq_append_getElem hlt]
        unfold vict
        rw [foldl_snoc]
        simp [hlt]
      have HS := Lib.hid hsn
      clear hsn
      generalize cl.getD k 0 = x at *
      generalize vict us (cl.take k) = b at *
      have HAG := Lib.hid (fun y : Nat => age_any A n c y us w1 (HA.out.belowAll HB.out) HN.out hN)
      by_cases hb0 : b < 0
      · have hp : Hid (pick1 us b x = (x : Int)) := by show _ = _; simp [pick1, older, hb0]
        go_wp2
        go_roundg (gk - 1)
        case measure => omega
        case rel => exact ⟨k + 1, by omega, by go_num, by rw [HS.out, hp.out], rfl⟩
      · obtain ⟨y, rfl⟩ := Int.eq_ofNat_of_zero_le (show 0 ≤ b by omega)
        by_cases ho : us.getD y 0 ≤ us.getD x 0
        · have hp : Hid (pick1 us (y : Int) x = (x : Int)) := by show _ = _; simp only [pick1, older, Int.toNat_natCast, decide_eq_true ho]; simp
          have hX := HAG.out x
          have hY := HAG.out y
          have hoo : us.getD y 0 ≤ us.getD x 0 := ho
          clear ho
          generalize us.getD y 0 = ay at *
          generalize us.getD x 0 = ax at *
          have HX := Lib.hid hX
          have HY := Lib.hid hY
          clear hX hY
          go_wp2_with fail
          refine HX.out.mono ?_
          rintro e w2 ⟨rfl, rfl⟩
          go_wp2_with fail
          refine HY.out.mono ?_
          rintro e w2 ⟨rfl, rfl⟩
          go_wp2_with fail
          go_roundg (gk - 1)
          case measure => omega
          case rel => exact ⟨k + 1, by omega, by go_num, by rw [HS.out, hp.out], rfl⟩
        · have hp : Hid (pick1 us (y : Int) x = (y : Int)) := by show _ = _; simp only [pick1, older, Int.toNat_natCast, decide_eq_false ho, decide_eq_false (show ¬ ((y : Int) < 0) by omega)]; simp
          have hX := HAG.out x
          have hY := HAG.out y
          generalize us.getD y 0 = ay at *
          generalize us.getD x 0 = ax at *
          have HX := Lib.hid hX
          have HY := Lib.hid hY
          clear hX hY
          go_wp2_with fail
          refine HX.out.mono ?_
          rintro e w2 ⟨rfl, rfl⟩
          go_wp2_with fail
          refine HY.out.mono ?_
          rintro e w2 ⟨rfl, rfl⟩
          go_wp2_with fail
          go_roundg (gk - 1)
          case measure => omega
          case rel => exact ⟨k + 1, by omega, by go_num, by rw [HS.out, hp.out], rfl⟩
    · have hkc : Hid (cl.take k = cl) := by show _ = _; rw [List.take_of_length_le (by omega)]
      go_wp2
      go_ret
      exact ⟨by rw [hkc.out]; rfl, HB.out⟩

theorem victim_in (g who : Nat) (ws : Nat → List Int) (A : Option Addr) (n c : Nat) (us : List Int) (w : World) (hg : Gr w g ws) (hw : who < 16)
    (hA : Row w A (uv us)) (hn : us.length = n) (hN : n ≤ 9223372036854775807) :
    Calls Try.prog 10 #[.pointer (some ⟨g, 0, none⟩), .int .i64 who, .slice A n c] w fun e w' => e = .returned (.int .i64 (vict us (circ ws who))) ∧ Below w.heap.size w w' :=
  victim_of g who A n c us (circ ws who) w (circle_in g who ws w hg hw) hA hn hN (by
    unfold circ; split
    · exact Nat.le_trans (List.length_filter_le _ _) (by simp)
    · simp)

theorem victim_out (g : Nat) (who : Int) (v : Value) (h : ¬ (0 ≤ who ∧ who < 16)) (w : World) :
    Calls Try.prog 10 #[.pointer (some ⟨g, 0, none⟩), .int .i64 who, v] w fun e w' => e = .returned (.int .i64 (-1)) ∧ w = w' := by
  have HC := Lib.hid (circle_out g who h w)
  clear h
  go_enter Try.func10, Try.ntmps10
  go_wp2_with (go_at_call 9; refine HC.out.mono ?_; rintro e w' ⟨rfl, rfl⟩)
  refine wp_loop_rounds 1 ?_
  rw [rounds_succ]
  go_wp2
  go_ret
  exact ⟨rfl, rfl⟩

/-! ### Waits -/
theorem some_yes (A : Option Addr) (n c : Nat) (w : World) : Calls Try.prog 20 #[.slice A n c] w fun e w' => e = .returned (.bool (decide (0 < n))) ∧ w = w' := by
  go_enter Try.func20, Try.ntmps20
  go_wp2
  go_ret
  exact ⟨by simp, rfl⟩

def waitsB (ws : Nat → List Int) : Bool := (List.range 16).any fun i => decide (0 < (ws i).length)

theorem waits_hit {ws : Nat → List Int} {k : Nat} (hk : k < 16) (h : 0 < (ws k).length) : waitsB ws = true := by
  unfold waitsB
  rw [List.any_eq_true]
  exact ⟨k, by simpa using hk, by simpa using h⟩
theorem waits_miss {ws : Nat → List Int} (h : ∀ i, i < 16 → (ws i).length = 0) : waitsB ws = false := by
  unfold waitsB
  rw [List.any_eq_false]
  intro i hi
  have := h i (by simpa using hi)
  simp [this]

set_option maxHeartbeats 2000000 in
theorem index_any (g : Nat) (ws : Nat → List Int) (w : World) (hg : Gr w g ws) :
    Calls Try.prog 23 #[.slice (some ⟨g, 0, none⟩) 16 16, .func (.func 20) #[] #[]] w fun e w' => ∃ r : Int, e = .returned (.int .i64 r) ∧ waitsB ws = decide (0 ≤ r) ∧ w = w' := by
  have HG := Lib.hid hg
  clear hg
  go_enter Try.func23, Try.ntmps23
  go_wp2
  go_loopg [8] 16 (fun q i wr => ∃ k : Nat, q + k = 16 ∧ i = .int .i64 k ∧ (∀ j, j < k → (ws j).length = 0) ∧ w = wr)
  case atStart => exact ⟨0, by omega, rfl, by omega, rfl⟩
  case round =>
    obtain ⟨k, hk, rfl, hz, rfl⟩ := hrel
    have HZ := Lib.hid hz
    clear hz
    by_cases hlt : k < 16
    · obtain ⟨A, c, hc, _, _, _, _⟩ := HG.out.row hlt
      by_cases h0 : 0 < (ws k).length
      · have HW := Lib.hid (waits_hit hlt h0)
        go_wp2_with (go_at_call 20; refine (some_yes _ _ _ _).mono ?_; rintro e w' ⟨rfl, rfl⟩)
        go_ret
        refine ⟨k, rfl, ?_, rfl⟩
        rw [HW.out]
        simp
      · have hd : decide (0 < (ws k).length) = false := by simpa using h0
        have hz0 : Hid ((ws k).length = 0) := by show _ = _; omega
        have HS := Lib.hid (some_yes A (ws k).length c w)
        rw [hd] at HS
        clear hd h0
        go_wp2_with (go_at_call 20; refine HS.out.mono ?_; rintro e w' ⟨rfl, rfl⟩)
        go_roundg (gk - 1)
        case measure => omega
        case rel =>
          refine ⟨k + 1, by omega, by go_num, fun j hj => ?_, rfl⟩
          by_cases e : j = k
          · subst e; exact hz0.out
          · exact HZ.out j (by omega)
    · obtain rfl : k = 16 := by omega
      have HW := Lib.hid (waits_miss HZ.out)
      go_wp2
      go_ret
      refine ⟨-1, rfl, ?_, rfl⟩
      rw [HW.out]
      simp

theorem contains_any (g : Nat) (ws : Nat → List Int) (w : World) (hg : Gr w g ws) :
    Calls Try.prog 19 #[.slice (some ⟨g, 0, none⟩) 16 16, .func (.func 20) #[] #[]] w fun e w' => e = .returned (.bool (waitsB ws)) ∧ w = w' := by
  have HI := Lib.hid (index_any g ws w hg)
  clear hg
  go_enter Try.func19, Try.ntmps19
  go_wp2_with (go_at_call 23; refine HI.out.mono ?_; rintro e w' ⟨r, rfl, hr, rfl⟩; have HR := Lib.hid hr; clear hr)
  go_ret
  refine ⟨?_, rfl⟩
  rw [HR.out]
  rfl

theorem waits_in (g : Nat) (ws : Nat → List Int) (w : World) (hg : Gr w g ws) :
    Calls Try.prog 12 #[.pointer (some ⟨g, 0, none⟩)] w fun e w' => e = .returned (.bool (waitsB ws)) ∧ w = w' := by
  have HC := Lib.hid (contains_any g ws w hg)
  clear hg
  generalize waitsB ws = r at *
  go_enter Try.func12, Try.ntmps12
  go_wp2_with (go_at_call 19; refine HC.out.mono ?_; rintro e w' ⟨rfl, rfl⟩)
  go_ret
  exact ⟨rfl, rfl⟩
end Go.Proofs.Ytmnakommidgmnaa
