import Derived.Test.YtahhbgfibelfaaaDoorL5
import Derived.Test.YtahhbgfibelfaaaDoorShelf
namespace Go.Proofs.YtahhbgfibelfaaaDoor
open Go.RowKit Go.Lib
set_option linter.unusedVariables false



theorem indexByte_has (l : List UInt8) (c : UInt8) : -1 ≤ Lib.indexByte l c ∧ decide (0 ≤ Lib.indexByte l c) = l.contains c := by
  induction l with
  | nil => exact ⟨Int.le_refl _, rfl⟩
  | cons b r ih =>
    unfold Lib.indexByte
    obtain ⟨h1, h2⟩ := ih
    by_cases hb : b = c
    · subst hb
      simp
    · have hb' : (b == c) = false := by simpa using hb
      have hb2 : (c == b) = false := by simpa using fun h : c = b => hb h.symm
      rw [hb', List.contains_cons, hb2, Bool.false_or, ← h2]
      simp only [Bool.false_eq_true, if_false]
      by_cases h3 : Lib.indexByte r c = -1
      · rw [h3]; simp
      · have h4 : (Lib.indexByte r c == -1) = false := by simpa using h3
        rw [h4]
        simp only [Bool.false_eq_true, if_false]
        refine ⟨by omega, ?_⟩
        rw [decide_eq_decide]; omega
theorem all_bytes {l : List UInt8} {p : UInt8 → Bool} (h : ∀ n, n < 256 → l.contains (UInt8.ofNat n) = p (UInt8.ofNat n)) (c : UInt8) : l.contains c = p c := by
  have := h c.toNat c.toNat_lt
  simpa using this

/-- lex.is of a set of bytes. -/
def IsOf (of : ByteArray) (p : UInt8 → Bool) : Prop := ∀ (c : UInt8) (w : World), Calls Tryd.prog 30 #[.int .u8 c.toNat, .string of] w fun e w' => e = .returned (.bool (p c)) ∧ w = w'
theorem is_of {of : ByteArray} {p : UInt8 → Bool} (h : ∀ c, of.data.toList.contains c = p c) : IsOf of p := by
  intro c w
  have hc := indexByte_has of.data.toList c
  rw [h c] at hc
  have HC := Lib.hid (Tryd.strings_IndexByte of c.toNat w)
  have e : ((c.toNat : Int).toNat.toUInt8) = c := by simp
  rw [e] at HC
  obtain ⟨h1, h2⟩ := hc
  rw [← h2]
  generalize Lib.indexByte of.data.toList c = x at *
  clear h2 e h h1
  go_enter Tryd.func30, Tryd.ntmps30
  go_wp2_with (go_at_call 43; refine HC.out.mono ?_; rintro e w' ⟨rfl, rfl⟩)
  go_ret
  exact ⟨by simp, rfl⟩

abbrev bBlank : ByteArray := ⟨#[32, 9, 10]⟩
abbrev bDigit : ByteArray := ⟨#[48, 49, 50, 51, 52, 53, 54, 55, 56, 57]⟩
abbrev bLetter : ByteArray := ⟨#[97, 98, 99, 100, 101, 102, 103, 104, 105, 106, 107, 108, 109, 110, 111, 112, 113, 114, 115, 116, 117, 118, 119, 120, 121, 122, 65, 66, 67, 68, 69, 70, 71, 72, 73, 74, 75, 76, 77, 78, 79, 80, 81, 82, 83, 84, 85, 86, 87, 88, 89, 90, 95]⟩
abbrev bName : ByteArray := ⟨#[97, 98, 99, 100, 101, 102, 103, 104, 105, 106, 107, 108, 109, 110, 111, 112, 113, 114, 115, 116, 117, 118, 119, 120, 121, 122, 65, 66, 67, 68, 69, 70, 71, 72, 73, 74, 75, 76, 77, 78, 79, 80, 81, 82, 83, 84, 85, 86, 87, 88, 89, 90, 95, 48, 49, 50, 51, 52, 53, 54, 55, 56, 57]⟩
theorem is_blank : IsOf bBlank isB := is_of (all_bytes (by decide +kernel))
theorem is_digit : IsOf bDigit isD := is_of (all_bytes (by decide +kernel))
theorem is_letter : IsOf bLetter isL := is_of (all_bytes (by decide +kernel))
theorem is_name : IsOf bName isN := is_of (all_bytes (by decide +kernel))

theorem run_ok {of : ByteArray} {p : UInt8 → Bool} (hof : IsOf of p) (s : ByteArray) (n : Nat) (hn : n ≤ s.size) (hs : s.size ≤ 1000000) (w : World) :
    Calls Tryd.prog 9 #[.string s, .int .i64 n, .string of] w fun e w' => e = .returned (.int .i64 (runs p s n : Nat)) ∧ w = w' := by
  have hr := runs_le p s n
  have HI := Lib.hid hof
  generalize hk : runs p s n = k at *
  have HK := Lib.hid hk
  clear hk hof
  go_enter Tryd.func9, Tryd.ntmps9
  go_wp2_with fail
  go_loopg [7] k (fun q i wr => ∃ (j : Nat), q + j = k ∧ i = .int .i64 ((n + j : Nat) : Int) ∧ runs p s (n + j) = q ∧ wr = w)
  case atStart => exact ⟨0, by omega, by go_num, HK.out, rfl⟩
  case round =>
    obtain ⟨j, hj, rfl, hrun, rfl⟩ := hrel
    have hb := runs_le p s (n + j)
    generalize hm : n + j = m at *
    by_cases hlt : m < s.size
    · have hst := runs_step (p := p) hlt
      have hsp := runs_stop (p := p) hlt
      generalize hc : s[m] = c at *
      have HIC := Lib.hid (HI.out c)
      cases hl : p c with
      | true =>
        have hN := Lib.hid (hst hl)
        rw [hl] at HIC
        clear hst hsp hl HI
        go_wp2_with (go_at_call 30; refine (HIC.out _).mono ?_; rintro e w' ⟨rfl, rfl⟩)
        go_roundg (gk - 1)
        case measure => have := hN.out; omega
        case rel => exact ⟨j + 1, by have := hN.out; omega, by go_num, by have := hN.out; rw [show n + (j + 1) = m + 1 by omega]; omega, rfl⟩
      | false =>
        have hN := Lib.hid (hsp hl)
        rw [hl] at HIC
        clear hst hsp hl HI
        go_wp2_with (go_at_call 30; refine (HIC.out _).mono ?_; rintro e w' ⟨rfl, rfl⟩)
        go_ret
        have := hN.out
        exact ⟨by simp; omega, rfl⟩
    · have hN := Lib.hid (runs_end (p := p) (s := s) (n := m) (by omega))
      go_wp2_with fail
      go_ret
      have := hN.out
      exact ⟨by simp; omega, rfl⟩

end Go.Proofs.YtahhbgfibelfaaaDoor
