import Derived.Test.YtahhbgfibelfaaaDoorQ5
import Derived.Laws.RangeString
namespace Go.Proofs.YtahhbgfibelfaaaDoor
open Go.RowKit Go.Lib
set_option linter.unusedVariables false

attribute [local go_sem] wfld0 wfld1 wfld2 wfld3
set_option maxHeartbeats 1000000 in
set_option maxRecDepth 100000 in
theorem valInt_ok (n : Int) (w : World) : Calls Tryd.prog 48 #[.int .i64 n] w fun e w' => e = .returned (.agg #[.int .i64 2, .int .i64 n, .string ⟨#[]⟩]) ∧ Below w.heap.size w w' := by
  go_enter Tryd.func48, Tryd.ntmps48
  go_wp2_with fail
  refine bodyPost_ret (by rw [results_cell1 (fn := Tryd.f48) rfl]; go_simp; rfl) rfl ?_
  exact ⟨rfl, (Below.refl _ _).alloc (Nat.le_refl _) _⟩
set_option maxRecDepth 100000 in
theorem valText_ok (s : ByteArray) (w : World) : Calls Tryd.prog 49 #[.string s] w fun e w' => e = .returned (.agg #[.int .i64 3, .int .i64 0, .string s]) ∧ Below w.heap.size w w' := by
  go_enter Tryd.func49, Tryd.ntmps49
  go_wp2_with fail
  refine bodyPost_ret (by rw [results_cell1 (fn := Tryd.f49) rfl]; go_simp; rfl) rfl ?_
  exact ⟨rfl, (Below.refl _ _).alloc (Nat.le_refl _) _⟩
set_option maxRecDepth 100000 in
theorem valBool_ok (b : Bool) (w : World) : Calls Tryd.prog 50 #[.bool b] w fun e w' => e = .returned (.agg #[.int .i64 1, .int .i64 (if b then 1 else 0), .string ⟨#[]⟩]) ∧ Below w.heap.size w w' := by
  cases b
  all_goals
    go_enter Tryd.func50, Tryd.ntmps50
    go_wp2_with fail
    refine bodyPost_ret (by rw [results_cell1 (fn := Tryd.f50) rfl]; go_simp; rfl) rfl ?_
    exact ⟨rfl, (Below.refl _ _).alloc (Nat.le_refl _) _⟩
theorem all_at {s : ByteArray} {p : UInt8 → Bool} (h : s.data.toList.all p = true) (i : Nat) (hi : i < s.size) : p s[i] = true := by
  rw [List.all_eq_true] at h
  apply h
  rw [Array.mem_toList_iff]
  exact Array.getElem_mem _
theorem get0 {s : ByteArray} (h : 0 < s.size) : s.get! 0 = s[0] := by
  simp [ByteArray.get!, getElem!_pos, h]
  rfl
theorem cls {c : UInt8} (h : isN c = true) : (97 ≤ c.toNat ∧ c.toNat ≤ 122) ∨ (65 ≤ c.toNat ∧ c.toNat ≤ 90) ∨ c.toNat = 95 ∨ (48 ≤ c.toNat ∧ c.toNat ≤ 57) := by
  unfold isN isL isD at h
  simp only [Bool.or_eq_true, Bool.and_eq_true, decide_eq_true_eq, beq_iff_eq] at h
  omega
theorem clsD {c : UInt8} : isD c = decide (48 ≤ c.toNat ∧ c.toNat ≤ 57) := by unfold isD; rw [Bool.decide_and]
set_option maxHeartbeats 1000000 in
set_option maxRecDepth 100000 in
theorem names_ok (s : ByteArray) (hs : s.size ≤ 1000000) (hN : s.data.toList.all isN = true) (h0 : 0 < s.size) (w : World) :
    Calls Tryd.prog 47 #[.string s] w fun e w' => e = .returned (.bool (nameB s)) ∧ Below w.heap.size w w' := by
  have hat := fun i hi => cls (all_at hN i hi)
  have hr : nameB s = (decide (s.size ≤ 20) && !(decide (48 ≤ s[0].toNat ∧ s[0].toNat ≤ 57))) := by
    unfold nameB
    rw [decide_eq_true h0, hN, get0 h0, clsD]
    simp
  have hne : (s.toList == []) = false := by
    rw [ByteArray.toList_eq]
    cases hh : (s.data.toList == []) with
    | false => rfl
    | true =>
      have := congrArg List.length (beq_iff_eq.1 hh)
      rw [Array.length_toList] at this
      have h1 : s.data.size = 0 := this
      have h2 : s.size = s.data.size := rfl
      omega
  have hS := Lib.hid hs
  rw [hr]
  clear hr hN
  generalize hRR : (decide (s.size ≤ 20) && !(decide (48 ≤ s[0].toNat ∧ s[0].toNat ≤ 57))) = R
  have HR := Lib.hid hRR
  clear hRR
  have hB : ∀ i, Hid (Below w.heap.size w (w.iter s i)) := fun i => (Below.refl _ _).alloc (Nat.le_refl _) _
  go_enter Tryd.func47, Tryd.ntmps47
  go_wp2_with fail
  go_loopg [3, 4, 5] s.size (fun q v3 v4 v5 wr => ∃ i, q + i = s.size ∧ wr = w.iter s i ∧ (0 < i → ¬ (48 ≤ s[0].toNat ∧ s[0].toNat ≤ 57)))
  case atStart => exact ⟨0, rfl, rfl, fun h => absurd h (by omega)⟩
  case round =>
    obtain ⟨i, hq, rfl, hd⟩ := hrel
    by_cases hi : i < s.size
    · have ha := hat i hi
      have hx : s[i].toNat < 128 := by omega
      have hnx := fun ty => run_next_ascii (P := Tryd.prog) w s i ty hi hx
      have hi0 : ¬ i = 0 → ¬ (48 ≤ s[0].toNat ∧ s[0].toNat ≤ 57) := fun h => hd (by omega)
      have hic : i = 0 → s[i].toNat = s[0].toNat := fun h => by subst h; rfl
      have HD := Lib.hid hi0
      have HC := Lib.hid hic
      clear hat hd hx hi0 hic
      generalize hcx : s[i].toNat = x at *
      have HR := HR
      generalize hc0 : s[0].toNat = x0 at *
      clear hcx hc0
      rcases ha with ⟨ha, hb⟩ | ⟨ha, hb⟩ | ha | ⟨ha, hb⟩
      · go_wp2_with fail
        go_roundg (gk - 1)
        case measure => omega
        case rel => exact ⟨i + 1, by omega, rfl, fun _ => by rcases Nat.eq_zero_or_pos i with h | h; (have := HC.out h; omega); exact HD.out (by omega)⟩
      · go_wp2_with fail
        go_roundg (gk - 1)
        case measure => omega
        case rel => exact ⟨i + 1, by omega, rfl, fun _ => by rcases Nat.eq_zero_or_pos i with h | h; (have := HC.out h; omega); exact HD.out (by omega)⟩
      · go_wp2_with fail
        go_roundg (gk - 1)
        case measure => omega
        case rel => exact ⟨i + 1, by omega, rfl, fun _ => by rcases Nat.eq_zero_or_pos i with h | h; (have := HC.out h; omega); exact HD.out (by omega)⟩
      · by_cases h : i = 0
        · have hF : Hid (R = false) := by
            have := HC.out h
            show _ = _
            rw [← HR.out, show decide (48 ≤ x0 ∧ x0 ≤ 57) = true by rw [decide_eq_true_eq]; omega]
            simp
          have h95 : ((x : Int) == 95) = false := by simp; omega
          subst h
          go_wp2_with fail
          go_ret
          exact ⟨by rw [hF.out]; rfl, (hB _).out⟩
        · have hz : ((i : Int) == 0) = false := by simp; omega
          have h95 : ((x : Int) == 95) = false := by simp; omega
          go_wp2_with fail
          go_roundg (gk - 1)
          case measure => omega
          case rel => exact ⟨i + 1, by omega, rfl, fun _ => HD.out h⟩
    · have hi2 : i = s.size := by omega
      have hnx := fun ty => run_next_end (P := Tryd.prog) w s i ty hi
      have hF : Hid (R = decide (s.size ≤ 20)) := by
        show _ = _
        rw [← HR.out, show decide (48 ≤ s[0].toNat ∧ s[0].toNat ≤ 57) = false by rw [decide_eq_false_iff_not]; exact hd (by omega)]
        simp
      clear hd hat hi2
      go_wp2_with fail
      go_ret
      exact ⟨by rw [hF.out]; simp; omega, (hB _).out⟩

end Go.Proofs.YtahhbgfibelfaaaDoor
