import Derived.Test.YtkkmjfpmhbafoaaDoorL2
namespace Go.Proofs.YtkkmjfpmhbafoaaDoor
open Go.RowKit Go.Lib
set_option linter.unusedVariables false

def numRet : Option Nat → Ending
  | some v => .returned (.tuple #[.int .i64 v, .bool true])
  | none => .returned (.tuple #[.int .i64 0, .bool false])

set_option maxHeartbeats 1000000 in
theorem number_ok (u : ByteArray) (hu : u.size ≤ 1000000) (w : World) :
    Calls Tryd.prog 18 #[.string u] w fun e w' => e = numRet (numF 0 (rem u 0)) ∧ w = w' := by
  have HD := Lib.hid digit_ok
  generalize hk : numF 0 (rem u 0) = R at *
  have HK := Lib.hid hk
  clear hk
  go_enter Tryd.func18, Tryd.ntmps18
  go_wp2_with fail
  go_loopg [4, 5] u.size (fun q a i wr => ∃ (acc j : Nat), q + j = u.size ∧ a = .int .i64 (acc : Int) ∧ i = .int .i64 (j : Int) ∧ acc ≤ 9223372036854775807 ∧ numF acc (rem u j) = R ∧ wr = w)
  case atStart => exact ⟨0, 0, by omega, rfl, rfl, by omega, HK.out, rfl⟩
  case round =>
    obtain ⟨acc, j, hj, rfl, rfl, ha, hrun, rfl⟩ := hrel
    by_cases hlt : j < u.size
    · rw [rem_cons hlt] at hrun
      generalize hc : u[j] = c at *
      have hx : c.toNat < 256 := c.toNat_lt
      by_cases hd : isD c = true
      · have hx2 : 48 ≤ c.toNat ∧ c.toNat ≤ 57 := by unfold isD at hd; simpa using hd
        rw [numF] at hrun
        have HR := Lib.hid hrun
        clear hrun
        have hw1 : IntKind.i64.wrap ((c.toNat : Int) - 48) = ((c.toNat - 48 : Nat) : Int) := by rw [IntKind.wrap_i64]; omega
        have hD2 := HD.out c
        have HC := Lib.hid hc
        generalize hd' : c.toNat - 48 = d at *
        have hw2 : IntKind.i64.wrap (9223372036854775807 - (d : Int)) = 9223372036854775807 - (d : Int) := by rw [IntKind.wrap_i64]; omega
        have hw3 : Int.tdiv (9223372036854775807 - (d : Int)) 10 = (((9223372036854775807 - d) / 10 : Nat) : Int) := by
          rw [show (9223372036854775807 - (d : Int)) = ((9223372036854775807 - d : Nat) : Int) by omega]; rfl
        have HD2 := Lib.hid hD2
        clear hD2
        by_cases hq : acc ≤ (9223372036854775807 - d) / 10
        · go_wp2_with (first
            | (go_at_call 17; refine (HD2.out _).mono ?_; rintro e w' ⟨rfl, rfl⟩))
          go_roundg (gk - 1)
          case measure => omega
          case rel => exact ⟨acc * 10 + d, j + 1, by omega, by go_num, by go_num, by omega, by have := HR.out; rwa [if_pos ⟨hd, hq⟩] at this, rfl⟩
        · have hR := HR.out
          rw [if_neg (fun h => hq h.2)] at hR
          have HN := Lib.hid hR.symm
          clear hR HR
          go_wp2_with (first
            | (go_at_call 17; refine (HD2.out _).mono ?_; rintro e w' ⟨rfl, rfl⟩))
          go_ret2
          exact ⟨by rw [HN.out]; simp [numRet], rfl⟩
      · have hD : isD c = false := by simpa using hd
        rw [numF, if_neg (by rw [hD]; simp)] at hrun
        have HN := Lib.hid hrun.symm
        have HC := Lib.hid hc
        clear hrun
        go_wp2_with (first
          | (go_at_call 17; refine (HD.out _ _).mono ?_; rintro e w' ⟨rfl, rfl⟩))
        go_ret2
        exact ⟨by rw [HN.out]; simp [numRet], rfl⟩
    · rw [rem_nil (by omega), numF] at hrun
      have HN := Lib.hid hrun.symm
      clear hrun
      go_wp2_with fail
      go_ret2
      exact ⟨by rw [HN.out]; simp [numRet], rfl⟩
end Go.Proofs.YtkkmjfpmhbafoaaDoor
