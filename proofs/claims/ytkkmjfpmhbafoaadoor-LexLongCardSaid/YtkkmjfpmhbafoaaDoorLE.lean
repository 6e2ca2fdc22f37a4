import Derived.Test.YtkkmjfpmhbafoaaDoorLD
import Derived.Laws.MakeOwn
namespace Go.Proofs.YtkkmjfpmhbafoaaDoor
open Go.RowKit Go.Lib
set_option linter.unusedVariables false

theorem i64_mask (n : Int) (k : Nat) (m : Int) (hm : (BitVec.ofInt 64 m).toNat = 2 ^ k - 1) (hk : k ≤ 62) : bits .and .i64 n m = n % (2 ^ k : Nat) := by
  have hp : (2 : Nat) ^ k ≤ 2 ^ 62 := Nat.pow_le_pow_right (by omega) hk
  have hd : (2 : Nat) ^ k ∣ 2 ^ 64 := Nat.pow_dvd_pow 2 (by omega)
  have hq : 0 < 2 ^ k := Nat.two_pow_pos k
  have key : (BitVec.ofInt 64 n &&& BitVec.ofInt 64 m).toNat = (n % ((2 ^ 64 : Nat) : Int)).toNat % 2 ^ k := by
    rw [BitVec.toNat_and, BitVec.toNat_ofInt, hm, Nat.and_two_pow_sub_one_eq_mod]
  show IntKind.i64.wrap ((BitVec.ofInt 64 n &&& BitVec.ofInt 64 m).toNat : Nat) = n % (2 ^ k : Nat)
  rw [key, IntKind.wrap_i64]
  have h0 : 0 ≤ n % ((2 ^ 64 : Nat) : Int) := Int.emod_nonneg _ (by decide)
  have e : (((n % ((2 ^ 64 : Nat) : Int)).toNat % 2 ^ k : Nat) : Int) = n % ((2 ^ k : Nat) : Int) := by
    rw [Int.natCast_emod, Int.toNat_of_nonneg h0]
    exact Int.emod_emod_of_dvd n (Int.natCast_dvd_natCast.2 hd)
  rw [e]
  have h1 : 0 ≤ n % ((2 ^ k : Nat) : Int) := Int.emod_nonneg _ (by omega)
  have h2 : n % ((2 ^ k : Nat) : Int) < ((2 ^ k : Nat) : Int) := Int.emod_lt_of_pos _ (by omega)
  have h3 : ((2 ^ k : Nat) : Int) ≤ ((2 ^ 62 : Nat) : Int) := by omega
  have h4 : ((2 ^ 62 : Nat) : Int) = 4611686018427387904 := by decide
  omega
theorem and31 (n : Int) : bits .and .i64 n 31 = n % 32 := i64_mask n 5 31 (by decide) (by omega)

def manyA (k : Nat) : ByteArray := ⟨(List.replicate k (97 : UInt8)).toArray⟩
theorem manyA_size (k : Nat) : (manyA k).size = k := by
  show (List.replicate k (97 : UInt8)).toArray.size = k
  simp
theorem manyA_at (k i : Nat) (h : i < (manyA k).size) : (manyA k)[i] = 97 := by
  show (List.replicate k (97 : UInt8)).toArray[i] = 97
  simp
theorem manyA_runs (k : Nat) : ∀ (d i : Nat), i + d = k → runs isN (manyA k) i = d
  | 0, i, h => runs_end (by rw [manyA_size]; omega)
  | d + 1, i, h => by
    have hi : i < (manyA k).size := by rw [manyA_size]; omega
    rw [runs_step hi (by rw [manyA_at]; rfl), manyA_runs k d (i + 1) (by omega)]
theorem manyA_words (k : Nat) (hk : 1 ≤ k) : wds (manyA k) ((manyA k).size + 1) 0 [] = .inr (flat [⟨1, (manyA k).extract 0 k, 0, 0⟩]) := by
  have h0 : 0 < (manyA k).size := by rw [manyA_size]; omega
  have hr := manyA_runs k k 0 (by omega)
  have hone := one_letter h0 (by rw [manyA_at]; rfl)
  rw [hr, Nat.zero_add] at hone
  rw [wds_word h0 (by rw [manyA_at]; rfl) hone (by omega)]
  rw [manyA_size]
  cases k with
  | zero => omega
  | succ j => rw [wds_end (by rw [manyA_size]; omega)]; rfl

/-- What LexLong looks at. -/
theorem long_post {k : Nat} {w w' : World} {e : Ending} (hk : 990 ≤ k ∧ k ≤ 1021) (h : WordsPost (manyA k) w e w') :
    (1000 < k ∧ e = .returned (.tuple #[.slice none 0 0, .int .i64 0, .int .i64 4])) ∨ (k ≤ 1000 ∧ ∃ g o cap : Nat, e = .returned (.tuple #[.slice (some ⟨g, o, none⟩) 2 cap, .int .i64 0, .int .i64 0])) := by
  obtain ⟨hb, h⟩ := h
  rw [manyA_size] at h
  by_cases hbig : 1000 < k
  · rw [if_pos hbig] at h; exact .inl ⟨hbig, h⟩
  · have hw := manyA_words k (by omega)
    rw [manyA_size] at hw
    rw [if_neg hbig, hw] at h
    obtain ⟨v, n, _, rfl, hm⟩ := h
    rw [show wc 0 ⟨#[]⟩ 0 k = (⟨0, ⟨#[]⟩, 0, k⟩ : Wd).cells from rfl, flat_snoc] at hm
    obtain ⟨g, o, cap, rfl, hg, hl⟩ := words_form hm (by simp)
    exact .inr ⟨by omega, g, o, cap, rfl⟩

/-- A row of so many bytes, the first of which are 'a'. -/
def RowA (w : World) (g k j : Nat) : Prop := ∃ cs : Array Value, Blk w g 5 cs ∧ cs.size = k ∧ ∀ i, i < k → cs[i]? = some (.int .u8 (if i < j then 97 else 0))
theorem RowA.cell {w : World} {g k j i : Nat} (h : RowA w g k j) (hi : i < k) : w.cell? ⟨g, i, none⟩ = some (.int .u8 (if i < j then 97 else 0)) := by
  obtain ⟨cs, hb, _, hc⟩ := h
  rw [hb.cell, hc i hi]
theorem RowA.frozen {w : World} {g k j : Nat} (h : RowA w g k j) (i : Nat) : w.frozen? ⟨g, i, none⟩ = false := by
  obtain ⟨cs, hb, _, hc⟩ := h
  exact hb.frozen i
theorem RowA.step {w : World} {g k j : Nat} (h : RowA w g k j) (hj : j < k) : RowA (w.setCell ⟨g, j, none⟩ (.int .u8 97)) g k (j + 1) := by
  obtain ⟨cs, hb, hs, hc⟩ := h
  refine ⟨cs.setIfInBounds j (.int .u8 97), hb.set_ j _, by simpa using hs, fun i hi => ?_⟩
  rw [Array.getElem?_setIfInBounds]
  by_cases e : j = i
  · subst e
    rw [if_pos rfl, if_pos (by omega), if_pos (by omega)]
  · rw [if_neg e, hc i hi]
    by_cases h1 : i < j
    · rw [if_pos h1, if_pos (by omega)]
    · rw [if_neg h1, if_neg (by omega)]
theorem RowA.conv {w : World} {g k : Nat} (h : RowA w g k k) : (convert 31 9 (.slice (some ⟨g, 0, none⟩) k k)).run Tryd.prog w = .ok (.string (manyA k)) w := by
  have := run_convert_bytes_back (P := Tryd.prog) w 31 9 5 ⟨g, 0, none⟩ k (List.replicate k (97 : UInt8)) Tryd.underlying31 Tryd.underlying5 Tryd.underlying9 (fun j hj => by
    have hj' : j < k := by simpa using hj
    rw [add_at, Nat.zero_add, h.cell hj', if_pos hj']
    simp)
  simpa [manyA] using this

theorem RowA.new (w : World) (k : Nat) : RowA (w.alloc (.cells (madeCells #[.int .u8 0] k) 5)) w.heap.size k 0 :=
  ⟨_, Blk.new w 5 _, size_madeCells _ _, fun i hi => by
    rw [if_neg (by omega)]
    simp [madeCells, hi, Nat.mod_one]⟩
theorem make_bytes (k : Nat) (hk : k ≤ 1021) (w : World) : (Instr.makeSlice 31 (.int .i64 (k : Int)) (.int .i64 (k : Int))).run Tryd.prog w = .ok (.slice (some ⟨w.heap.size, 0, none⟩) k k) (w.alloc (.cells (madeCells #[.int .u8 0] k) 5)) := by
  obtain ⟨i5, hi5, hy0, hy1, hy2⟩ := info_parts info5
  have := run_makeSlice (P := Tryd.prog) w 31 5 i5 (.int .u8 0) Tryd.underlying31 hi5 hy0 .i64 .i64 k k (by omega) (by omega) (by rw [hy1]; omega) (by rw [hy2]; omega) (by omega)
  rw [this, hy1]
  simp [Value.cells]

set_option maxHeartbeats 4000000 in
set_option maxRecDepth 10000 in
theorem lexlong_walk (n : Int) (h0 : -9223372036854775808 ≤ n) (h1 : n ≤ 9223372036854775807) (w : World) (hL : Laid w) :
    Calls Tryd.prog 4 #[.int .i64 n] w fun e w' => e = .returned (.bool true) ∧ Below w.heap.size w w' := by
  have HL := Lib.hid hL
  have ha := and31 n
  obtain ⟨k, hk, hkn⟩ : ∃ k : Nat, (990 ≤ k ∧ k ≤ 1021) ∧ 990 + n % 32 = (k : Int) := ⟨(990 + n % 32).toNat, by omega, by omega⟩
  have HK := Lib.hid hk
  have hmk := make_bytes k hk.2
  clear hL h0 h1
  go_enter Tryd.func4, Tryd.ntmps4
  go_wp2_with fail
  have HR0 := Lib.hid (RowA.new w k)
  have HB0 := Lib.hid ((Below.refl w.heap.size w).alloc (Nat.le_refl _) (.cells (madeCells #[.int .u8 0] k) 5))
  generalize w.alloc (.cells (madeCells #[.int .u8 0] k) 5) = w0 at *
  go_loopg [5] k (fun q i wr => ∃ (j : Nat), q + j = k ∧ i = .int .i64 (j : Int) ∧ RowA wr w.heap.size k j ∧ Below w.heap.size w wr)
  case atStart => exact ⟨0, rfl, rfl, HR0.out, HB0.out⟩
  case round =>
    obtain ⟨j, hj, rfl, hr, hb⟩ := hrel
    have HR := Lib.hid hr
    have HB := Lib.hid hb
    clear HR0 HB0
    by_cases hlt : j < k
    · have hc := hr.cell hlt
      have hf := hr.frozen j
      clear hr hb
      go_wp2_with fail
      go_roundg (gk - 1)
      case measure => omega
      case rel => exact ⟨j + 1, by omega, by go_num, HR.out.step hlt, Only.below (w := w) (S := []) ((Only.of_below HB.out []).setNew (Nat.le_refl _) _) (Nat.le_refl _) (by simp)⟩
    · obtain rfl : j = k := by omega
      have hcv := hr.conv
      have HLr := Lib.hid (HL.out.below (w0 := w) hb)
      have HWD := Lib.hid ((words_lex (manyA j) wr (by rw [manyA_size]; omega) HLr.out).mono fun e w' h => (⟨long_post hk h, h.1⟩ : _ ∧ Below wr.heap.size wr w'))
      clear hr hb
      go_wp2_with fail
      refine HWD.out.mono ?_
      rintro e w1 ⟨hcase, hb1⟩
      have HB1 := Lib.hid (HB.out.trans (hb1.mono HB.out.size))
      have HAW := Lib.hid (awake_ok w1 (HLr.out.below (w0 := wr) hb1))
      clear hb1 hcv
      rcases hcase with ⟨hbig, rfl⟩ | ⟨hsmall, g, o, cap, rfl⟩
      · go_wp2_with fail
        refine HAW.out.mono ?_
        rintro e w3 ⟨rfl, hb3⟩
        have HB3 := Lib.hid (HB1.out.trans (hb3.mono HB1.out.size))
        clear hb3
        go_wp2_with fail
        go_ret
        exact ⟨by first | (simp; done) | (simp; omega), HB3.out⟩
      · go_wp2_with fail
        refine HAW.out.mono ?_
        rintro e w3 ⟨rfl, hb3⟩
        have HB3 := Lib.hid (HB1.out.trans (hb3.mono HB1.out.size))
        clear hb3
        go_wp2_with fail
        go_ret
        exact ⟨by first | (simp; done) | (simp; omega), HB3.out⟩
end Go.Proofs.YtkkmjfpmhbafoaaDoor
