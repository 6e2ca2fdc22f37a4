import Derived.Test.YtmnakommidgmnaaO1
namespace Go.Proofs.Ytmnakommidgmnaa
open Go.RowKit
set_option linter.unusedVariables false

theorem set_all (g : Nat) (who : Int) (ws : Nat → List Int) (A : Option Addr) (n c : Nat) (xs : List Int) (w : World) (hg : Gr w g ws) (hA : Row w A (iv xs)) (hn : xs.length = n) (hN : n ≤ 17592186044415) :
    Calls Try.prog 8 #[.pointer (some ⟨g, 0, none⟩), .int .i64 who, .slice A n c] w fun e w' => e = .returned (.tuple #[]) ∧
      Gr w' g (if 0 ≤ who ∧ who < 16 then upd ws who.toNat (norm who xs) else ws) ∧ Only w w' [g] := by
  by_cases h : 0 ≤ who ∧ who < 16
  · obtain ⟨k, rfl⟩ := Int.eq_ofNat_of_zero_le h.1
    refine (set_any g k ws A n c xs w hg (by omega) hA hn hN).mono ?_
    rintro e w' ⟨rfl, h1, h2⟩
    refine ⟨rfl, ?_, h2⟩
    rw [if_pos h]
    exact h1
  · refine (set_out g who _ h w).mono ?_
    rintro e w' ⟨rfl, rfl⟩
    refine ⟨rfl, ?_, Only.refl _ _⟩
    rw [if_neg h]
    exact hg

theorem fold_pos (us : List Int) (l : List Nat) : ∀ b : Int, 0 ≤ b → 0 ≤ l.foldl (pick1 us) b := by
  induction l with
  | nil => intro b h; exact h
  | cons x l ih =>
    intro b h
    refine ih _ ?_
    unfold pick1
    split <;> omega
theorem fold_mem (us : List Int) (l : List Nat) : ∀ b : Int, l.foldl (pick1 us) b = b ∨ ∃ x ∈ l, l.foldl (pick1 us) b = (x : Int) := by
  induction l with
  | nil => intro b; exact .inl rfl
  | cons x l ih =>
    intro b
    rw [List.foldl_cons]
    rcases ih (pick1 us b x) with h | ⟨y, hy, h⟩
    · rw [h]
      unfold pick1
      split
      · exact .inr ⟨x, by simp, rfl⟩
      · exact .inl rfl
    · exact .inr ⟨y, by simp [hy], h⟩
theorem vict_cases (us : List Int) (l : List Nat) : (l = [] ∧ vict us l = -1) ∨ ∃ x ∈ l, vict us l = (x : Int) := by
  rcases l with _ | ⟨x, l⟩
  · exact .inl ⟨rfl, rfl⟩
  · right
    rcases fold_mem us (x :: l) (-1) with h | h
    · exfalso
      have h1 : 0 ≤ vict us (x :: l) := by
        unfold vict
        rw [List.foldl_cons]
        refine fold_pos us l _ ?_
        unfold pick1 older
        simp
      unfold vict at h1
      omega
    · exact h
theorem circ_lt {ws : Nat → List Int} {who x : Nat} (h : x ∈ circ ws who) : x < 16 := by
  unfold circ at h
  split at h
  · simpa using (List.mem_filter.1 h).1
  · simp at h
theorem norm_nil (who : Int) : norm who [] = [] := by
  unfold norm
  simp [srt]
  rfl
theorem circ_none (ws : Nat → List Int) (v : Nat) : circ (upd ws v []) v = [] := by
  have : reachB (upd ws v []) v v = false := by
    unfold reachB upd
    rw [if_pos rfl]
    rfl
  unfold circ
  rw [this]
  simp

set_option maxHeartbeats 4000000 in
set_option maxRecDepth 100000 in
theorem breaks_walk (who : Int) (A : Option Addr) (n c : Nat) (A2 : Option Addr) (n2 c2 : Nat) (us : List Int) (w : World) (hN : n ≤ 9223372036854775807) (hacts : Acts w A n)
    (hA2 : Row w A2 (uv us)) (hn2 : us.length = n2) (hN2 : n2 ≤ 9223372036854775807) :
    Calls Try.prog 4 #[.slice A n c, .int .i64 who, .slice A2 n2 c2] w fun e w' => e = .returned (.bool true) ∧ Below w.heap.size w w' := by
  have HAC := Lib.hid hacts
  have HA2 := Lib.hid hA2
  have HN2 := Lib.hid hn2
  clear hacts hA2 hn2
  go_enter Try.func4, Try.ntmps4
  go_wp2_with (go_at_call 6; refine (new_any _).mono ?_; rintro e w1 ⟨g, rfl, hgw, hg, hb⟩; have HG := Lib.hid hg; have HB := Lib.hid hb; clear hg hb)
  go_loopg [8] 30 (fun q i wr => ∃ (k : Nat) (ws : Nat → List Int), q + k = 30 ∧ i = .int .i64 k ∧ Gr wr g ws ∧ Below w.heap.size w wr)
  case atStart => exact ⟨0, _, rfl, rfl, HG.out, HB.out⟩
  case round =>
    clear HG HB
    obtain ⟨k, ws, hk, rfl, hg, hbw⟩ := hrel
    have HG := Lib.hid hg
    have HBW := Lib.hid hbw
    have hsz := hbw.size
    clear hg hbw
    by_cases hlt : k < n ∧ k < 30
    · obtain ⟨hkn, hk30⟩ := hlt
      obtain ⟨ad, x, B, m, c', xs, rfl, hadb, hx, hy, hxl, hm, hrow⟩ := HAC.out k hkn
      have hx' : wr.cell? (ad.add (k * 2)) = some (.int .i64 x) := (HBW.out.cell (by rw [block_of_add]; exact hadb)).trans hx
      have hy' : wr.cell? ⟨(ad.add (k * 2)).block, (ad.add (k * 2)).off + 1, none⟩ = some (.slice B m c') := (HBW.out.cell (by show (ad.add (k * 2)).block < _; rw [block_of_add]; exact hadb)).trans hy
      have HROW := Lib.hid (hrow.belowAll HBW.out)
      have HXL := Lib.hid hxl
      clear hx hy hrow hxl
      go_wp2_with fail
      go_region_with (go_at_call 8; refine (set_all g x ws B m c' xs _ (by exact HG.out.drewN 1) (by exact HROW.out) HXL.out hm).mono ?_; rintro e w2 ⟨rfl, hg2, ho2⟩; have HG2 := Lib.hid hg2; have HO2 := Lib.hid ho2; clear hg2 ho2)
      all_goals
        go_wp2_with fail
        go_roundg (gk - 1)
        case measure => omega
        case rel => exact ⟨k + 1, _, by omega, by go_num, HG2.out, HBW.out.trans ((((Only.refl wr [g]).drewN 1).trans HO2.out).below hsz (by simp; omega))⟩
    · have hrest : ∀ w2, Gr w2 g ws → Below w.heap.size w w2 → ∃ v : Int, Calls Try.prog 10 #[.pointer (some ⟨g, 0, none⟩), .int .i64 who, .slice A2 n2 c2] w2 (fun e w' => e = .returned (.int .i64 v) ∧ Below w2.heap.size w2 w') ∧
          ((v = -1 ∧ ∀ w3, Gr w3 g ws → Calls Try.prog 9 #[.pointer (some ⟨g, 0, none⟩), .int .i64 who] w3 fun e w' => ∃ B c, e = .returned (.slice B 0 c) ∧ Below w3.heap.size w3 w') ∨ ∃ k : Nat, v = k ∧ k < 16) := by
        intro w2 hg2 hb2
        by_cases hw : 0 ≤ who ∧ who < 16
        · obtain ⟨p, rfl⟩ := Int.eq_ofNat_of_zero_le hw.1
          refine ⟨_, victim_in g p ws A2 n2 c2 us w2 hg2 (by omega) (HA2.out.belowAll hb2) HN2.out hN2, ?_⟩
          rcases vict_cases us (circ ws p) with ⟨h1, h2⟩ | ⟨x, hx, h2⟩
          · refine .inl ⟨h2, fun w3 hg3 => ?_⟩
            refine (circle_in g p ws w3 hg3 (by omega)).mono ?_
            rintro e w4 ⟨v, rfl, hm, hb⟩
            rw [h1] at hm
            obtain ⟨B, c, rfl, _⟩ := hm.form
            exact ⟨B, c, rfl, hb⟩
          · exact .inr ⟨x, h2, circ_lt hx⟩
        · refine ⟨-1, (victim_out g who _ hw w2).mono (by rintro e w' ⟨rfl, rfl⟩; exact ⟨rfl, Below.refl _ _⟩), .inl ⟨rfl, fun w3 hg3 => ?_⟩⟩
          refine (circle_out g who hw w3).mono ?_
          rintro e w' ⟨rfl, rfl⟩
          exact ⟨_, _, rfl, Below.refl _ _⟩
      obtain ⟨v, hv, hcase⟩ := hrest wr HG.out HBW.out
      have HV := Lib.hid hv
      have HK := Lib.hid hk
      clear hv hrest hk
      rcases hcase with ⟨rfl, hci⟩ | ⟨p, rfl, hp⟩
      · have HCI := Lib.hid hci
        clear hci
        by_cases hkn : k < n
        all_goals
          go_wp2_with (first
            | (go_at_call 10; refine HV.out.mono ?_; rintro e w2 ⟨rfl, hb⟩; have HB2 := Lib.hid hb; clear hb)
            | (go_at_call 7; refine (awake_ok _).mono ?_; rintro e w3 ⟨rfl, hb⟩; have HB3 := Lib.hid hb; clear hb)
            | (go_at_call 9; refine (HCI.out _ ((HG.out.only HB2.out).only HB3.out)).mono ?_; rintro e w4 ⟨B, c4, rfl, hb⟩; have HB4 := Lib.hid hb; clear hb))
          go_ret
          exact ⟨rfl, ((HBW.out.trans (HB2.out.mono hsz)).trans (HB3.out.mono (Nat.le_trans hsz HB2.out.size))).trans (HB4.out.mono (Nat.le_trans hsz (Nat.le_trans HB2.out.size HB3.out.size)))⟩
      · have HV2 := Lib.hid (fun w2 (h2 : Gr w2 g (upd ws p [])) (hb2 : Below w.heap.size w w2) => victim_in g p (upd ws p []) A2 n2 c2 us w2 h2 hp (HA2.out.belowAll hb2) HN2.out hN2)
        rw [circ_none] at HV2
        have HC2 := Lib.hid (fun w2 (h2 : Gr w2 g (upd ws p [])) => circle_in g p (upd ws p []) w2 h2 hp)
        rw [circ_none] at HC2
        have HS2 := Lib.hid (fun w2 (h2 : Gr w2 g ws) => set_any g p ws none 0 0 [] w2 h2 hp (Row.nil _ _) rfl (by omega))
        rw [norm_nil] at HS2
        by_cases hkn : k < n
        all_goals
          go_wp2_with fail
          refine HV.out.mono ?_
          rintro e w2 ⟨rfl, hb2⟩
          have HB2 : Hid (Below w.heap.size w w2) := HBW.out.trans (hb2.mono hsz)
          have HG2 := Lib.hid (HG.out.only hb2)
          clear hb2
          go_wp2_with fail
          refine (HS2.out _ HG2.out).mono ?_
          rintro e w3 ⟨rfl, hg3, ho3⟩
          have HB3 : Hid (Below w.heap.size w w3) := HB2.out.trans (ho3.below HB2.out.size (by simp; omega))
          have HG3 := Lib.hid hg3
          clear hg3 ho3
          go_wp2_with fail
          refine (awake_ok _).mono ?_
          rintro e w4 ⟨rfl, hb4⟩
          have HB4 : Hid (Below w.heap.size w w4) := HB3.out.trans (hb4.mono HB3.out.size)
          have HG4 := Lib.hid (HG3.out.only hb4)
          clear hb4
          go_wp2_with fail
          refine (HC2.out _ HG4.out).mono ?_
          rintro e w5 ⟨v, rfl, hm, hb5⟩
          obtain ⟨B5, c5, rfl, _⟩ := hm.form
          have HB5 : Hid (Below w.heap.size w w5) := HB4.out.trans (hb5.mono HB4.out.size)
          have HG5 := Lib.hid (HG4.out.only hb5)
          clear hb5 hm
          go_wp2_with fail
          refine (HV2.out _ HG5.out HB5.out).mono ?_
          rintro e w6 ⟨rfl, hb6⟩
          have HB6 : Hid (Below w.heap.size w w6) := HB5.out.trans (hb6.mono HB5.out.size)
          clear hb6
          go_wp2_with fail
          go_ret
          have e : decide ((p : Int) < 16) = true := by simp; omega
          refine ⟨?_, HB6.out⟩
          rw [e]
          rfl
end Go.Proofs.Ytmnakommidgmnaa
