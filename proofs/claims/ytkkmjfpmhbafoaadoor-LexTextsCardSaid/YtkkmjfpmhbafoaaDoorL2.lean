import Derived.Test.YtkkmjfpmhbafoaaDoorL1
import Derived.Deep.RegionWith
import Derived.Deep.LoopGhost
import Derived.Deep.DeepCutAuto
import Derived.Lib.Hide
namespace Go.Proofs.YtkkmjfpmhbafoaaDoor
open Go.RowKit Go.Lib
set_option linter.unusedVariables false

theorem digit_ok (c : UInt8) (w : World) : Calls Tryd.prog 17 #[.int .u8 c.toNat] w fun e w' => e = .returned (.bool (isD c)) ∧ w = w' := by
  have h1 : Hid (isD c = (decide (48 ≤ c.toNat) && decide (c.toNat ≤ 57))) := rfl
  rw [h1.out]
  generalize c.toNat = x at *
  rcases (by omega : x < 48 ∨ (48 ≤ x ∧ x ≤ 57) ∨ 57 < x) with h | ⟨h, h'⟩ | h
  all_goals
    go_enter Tryd.func17, Tryd.ntmps17
    go_wp2
    go_ret
    first
      | (simp; done)
      | (simp; omega)
      | (simp; rw [Bool.eq_iff_iff]; simp; omega)
theorem letter_ok (c : UInt8) (w : World) : Calls Tryd.prog 15 #[.int .u8 c.toNat] w fun e w' => e = .returned (.bool (isL c)) ∧ w = w' := by
  have h1 : Hid (isL c = ((decide (97 ≤ c.toNat) && decide (c.toNat ≤ 122)) || (decide (65 ≤ c.toNat) && decide (c.toNat ≤ 90)) || c.toNat == 95)) := rfl
  rw [h1.out]
  generalize c.toNat = x at *
  rcases (by omega : x < 65 ∨ (65 ≤ x ∧ x ≤ 90) ∨ (90 < x ∧ x < 95) ∨ x = 95 ∨ x = 96 ∨ (97 ≤ x ∧ x ≤ 122) ∨ 122 < x) with h | ⟨h, h'⟩ | ⟨h, h'⟩ | rfl | rfl | ⟨h, h'⟩ | h
  all_goals
    go_enter Tryd.func15, Tryd.ntmps15
    go_wp2
    go_ret
    first
      | (simp; done)
      | (simp; omega)
      | (simp; rw [Bool.eq_iff_iff]; simp; omega)
theorem blank_ok (c : UInt8) (w : World) : Calls Tryd.prog 14 #[.int .u8 c.toNat] w fun e w' => e = .returned (.bool (isB c)) ∧ w = w' := by
  have h1 : Hid (isB c = (c.toNat == 32 || c.toNat == 9 || c.toNat == 10)) := rfl
  rw [h1.out]
  generalize c.toNat = x at *
  by_cases h32 : x = 32
  · subst h32
    go_enter Tryd.func14, Tryd.ntmps14
    go_wp2
    go_ret
    simp
  · by_cases h9 : x = 9
    · subst h9
      go_enter Tryd.func14, Tryd.ntmps14
      go_wp2
      go_ret
      simp
    · go_enter Tryd.func14, Tryd.ntmps14
      go_wp2
      go_ret
      first
        | (simp; done)
        | (simp; omega)
        | (simp; rw [Bool.eq_iff_iff]; simp; omega)

theorem name_ok (s : ByteArray) (n : Nat) (hn : n ≤ s.size) (hs : s.size ≤ 1000000) (w : World) :
    Calls Tryd.prog 16 #[.string s, .int .i64 n] w fun e w' => e = .returned (.int .i64 (runs isN s n : Nat)) ∧ w = w' := by
  have hr := runs_le isN s n
  have HL := Lib.hid letter_ok
  have HD := Lib.hid digit_ok
  generalize hk : runs isN s n = k at *
  have HK := Lib.hid hk
  clear hk
  go_enter Tryd.func16, Tryd.ntmps16
  go_wp2_with fail
  go_loopg [5] k (fun q i wr => ∃ (j : Nat), q + j = k ∧ i = .int .i64 ((n + j : Nat) : Int) ∧ runs isN s (n + j) = q ∧ wr = w)
  case atStart => exact ⟨0, by omega, by go_num, HK.out, rfl⟩
  case round =>
    obtain ⟨j, hj, rfl, hrun, rfl⟩ := hrel
    have hb := runs_le isN s (n + j)
    generalize hm : n + j = m at *
    by_cases hlt : m < s.size
    · have hst := runs_step (p := isN) hlt
      have hsp := runs_stop (p := isN) hlt
      generalize hc : s[m] = c at *
      by_cases hl : isL c = true
      · have hN := Lib.hid (hst (by simp [isN, hl]))
        clear hst hsp
        go_wp2_with (first
          | (go_at_call 15; refine (HL.out _ _).mono ?_; rintro e w' ⟨rfl, rfl⟩)
          | (go_at_call 17; refine (HD.out _ _).mono ?_; rintro e w' ⟨rfl, rfl⟩))
        go_roundg (gk - 1)
        case measure => have := hN.out; omega
        case rel => exact ⟨j + 1, by have := hN.out; omega, by go_num, by have := hN.out; rw [show n + (j + 1) = m + 1 by omega]; omega, rfl⟩
      · have hl : isL c = false := by simpa using hl
        by_cases hd : isD c = true
        · have hN := Lib.hid (hst (by simp [isN, hd]))
          clear hst hsp
          go_wp2_with (first
            | (go_at_call 15; refine (HL.out _ _).mono ?_; rintro e w' ⟨rfl, rfl⟩)
            | (go_at_call 17; refine (HD.out _ _).mono ?_; rintro e w' ⟨rfl, rfl⟩))
          go_roundg (gk - 1)
          case measure => have := hN.out; omega
          case rel => exact ⟨j + 1, by have := hN.out; omega, by go_num, by have := hN.out; rw [show n + (j + 1) = m + 1 by omega]; omega, rfl⟩
        · have hd : isD c = false := by simpa using hd
          have hN := Lib.hid (hsp (by simp [isN, hl, hd]))
          clear hst hsp
          go_wp2_with (first
            | (go_at_call 15; refine (HL.out _ _).mono ?_; rintro e w' ⟨rfl, rfl⟩)
            | (go_at_call 17; refine (HD.out _ _).mono ?_; rintro e w' ⟨rfl, rfl⟩))
          go_ret
          have := hN.out
          exact ⟨by simp; omega, rfl⟩
    · have hN := Lib.hid (runs_end (p := isN) (s := s) (n := m) (by omega))
      go_wp2_with fail
      go_ret
      have := hN.out
      exact ⟨by simp; omega, rfl⟩
end Go.Proofs.YtkkmjfpmhbafoaaDoor
