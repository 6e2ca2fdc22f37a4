import Derived.Test.YtkcgnodmjmpnhaaDoorCore
import Derived.Test.YtkcgnodmjmpnhaaDoorShelf
import Derived.Deep.RegionWith
import Derived.Lib.ItoaLen
namespace Go.Proofs.YtkcgnodmjmpnhaaDoor
open Go.RowKit Go.Shelf Go.Lib Go.Sort
set_option linter.unusedVariables false

/-- The table of powers of ten lies as its text says. -/
def Tab (w : World) : Prop := Lib.TabIs Tryd.prog w "internal/strconv.uint64pow10" .u64 Lib.pow10Tab
theorem Tab.below {w w' : World} (h : Tab w) (hb : Below w.heap.size w w') : Tab w' := by
  unfold Tab Lib.TabIs World.var? at h ⊢
  cases hg : Tryd.prog.globalNamed "internal/strconv.uint64pow10" with
  | none => rw [hg] at h; cases h
  | some g =>
    rw [hg] at h
    simp only [Option.bind_some] at h ⊢
    have hlt : g < w.heap.size := by
      rcases Nat.lt_or_ge g w.heap.size with h' | h'
      · exact h'
      · rw [Array.getElem?_eq_none h'] at h; cases h
    rw [hb.block g hlt]
    exact h
theorem Tab.trans {w0 w w' : World} (h : Tab w0) (hb : Below w0.heap.size w0 w') : Tab w' := h.below hb
theorem below_grow (w : World) (k : Nat) (os : Array Obj) : Below w.heap.size w (grow (w.drewN k) os) :=
  ⟨rfl, rfl, rfl, by simp [grow], fun i hi => by simp [grow, Array.getElem?_append_left hi, World.drewN]⟩

/-- A number's text. -/
def num (n : Int) : ByteArray := ⟨(Lib.itoa n).toArray⟩
theorem num_size (n : Int) (h0 : -9223372036854775808 ≤ n) (h1 : n ≤ 9223372036854775807) : (num n).size ≤ 21 := by
  have := Lib.itoa_length_le n h0 h1
  simpa [num, ByteArray.size] using this
theorem itoa_ok (n : Int) (h0 : -9223372036854775808 ≤ n) (h1 : n ≤ 9223372036854775807) (w : World) (ht : Tab w) :
    Calls Tryd.prog 9 #[.int .i64 n] w fun e w' => e = .returned (.string (num n)) ∧ Below w.heap.size w w' := by
  refine (Tryd.strconv_Itoa n h0 h1 w ht).mono ?_
  rintro e w' ⟨rfl, k, os, rfl⟩
  exact ⟨rfl, below_grow w k os⟩
theorem num_ok (n : Int) (h0 : -9223372036854775808 ≤ n) (h1 : n ≤ 9223372036854775807) (w : World) (ht : Tab w) :
    Calls Tryd.prog 12 #[.int .i64 n] w fun e w' => e = .returned (.string (num n)) ∧ Below w.heap.size w w' := by
  have HC := Lib.hid (itoa_ok n h0 h1 w ht)
  clear h0 h1 ht
  generalize num n = s at *
  go_enter Tryd.func12, Tryd.ntmps12
  go_wp2_with fail
  refine HC.out.mono ?_
  rintro e w' ⟨rfl, hb⟩
  have HB := Lib.hid hb
  clear hb
  go_wp2
  go_ret
  exact ⟨rfl, HB.out⟩

/-- An error's name. -/
def enm (n : Int) : ByteArray :=
  if n = 0 then ⟨#[111, 107]⟩ else if n = 1 then ⟨#[105, 110, 112, 117, 116]⟩ else if n = 4 then ⟨#[109, 117, 99, 104]⟩ else if n = 5 then ⟨#[102, 117, 108, 108]⟩
  else if n = 6 then ⟨#[110, 111, 110, 101]⟩ else if n = 7 then ⟨#[112, 111, 119, 101, 114]⟩ else if n = 8 then ⟨#[105, 110, 116, 101, 103, 114, 105, 116, 121]⟩
  else if n = 280 then ⟨#[116, 119, 105, 99, 101]⟩ else if n = 290 then ⟨#[117, 115, 101, 100]⟩ else if n = 360 then ⟨#[100, 101, 97, 100, 108, 111, 99, 107]⟩ else if n = 361 then ⟨#[98, 117, 115, 121]⟩
  else if n = 320 ∨ n = 330 then ⟨#[109, 97, 108, 102, 111, 114, 109, 101, 100]⟩
  else ⟨#[101, 114, 114, 111, 114, 32]⟩ ++ num n

theorem errno_show (n : Int) (h0 : -9223372036854775808 ≤ n) (h1 : n ≤ 9223372036854775807) (w : World) (ht : Tab w) :
    Calls Tryd.prog 7 #[.int .i64 n] w fun e w' => e = .returned (.string (enm n)) ∧ Below w.heap.size w w' := by
  have HC := Lib.hid (num_ok n h0 h1 w ht)
  have hz := num_size n h0 h1
  clear h0 h1 ht
  by_cases hs : n = 0 ∨ n = 1 ∨ n = 4 ∨ n = 5 ∨ n = 6 ∨ n = 7 ∨ n = 8 ∨ n = 280 ∨ n = 290 ∨ n = 360 ∨ n = 361 ∨ n = 320 ∨ n = 330
  · clear HC
    rcases hs with rfl | rfl | rfl | rfl | rfl | rfl | rfl | rfl | rfl | rfl | rfl | rfl | rfl
    all_goals
      go_enter Tryd.func7, Tryd.ntmps7
      go_wp2
      go_ret
      exact ⟨rfl, Below.refl _ _⟩
  · have HE : Hid (enm n = ⟨#[101, 114, 114, 111, 114, 32]⟩ ++ num n) := by
      show _ = _
      unfold enm
      simp only [not_or] at hs
      obtain ⟨a0, a1, a2, a3, a4, a5, a6, a7, a8, a9, a10, a11, a12⟩ := hs
      rw [if_neg a0, if_neg a1, if_neg a2, if_neg a3, if_neg a4, if_neg a5, if_neg a6, if_neg a7, if_neg a8, if_neg a9, if_neg a10, if_neg (by simp [a11, a12])]
    generalize num n = s at *
    simp only [not_or] at hs
    obtain ⟨a0, a1, a2, a3, a4, a5, a6, a7, a8, a9, a10, a11, a12⟩ := hs
    rw [HE.out]
    clear HE
    go_enter Tryd.func7, Tryd.ntmps7
    go_wp2_with fail
    refine HC.out.mono ?_
    rintro e w' ⟨rfl, hb⟩
    have HB := Lib.hid hb
    clear hb
    go_wp2
    go_ret
    exact ⟨rfl, HB.out⟩

set_option maxHeartbeats 4000000 in
theorem errno_law (n : Int) (h0 : -9223372036854775808 ≤ n) (h1 : n ≤ 9223372036854775807) (w : World) (ht : Tab w) :
    Calls Tryd.prog 8 #[.int .i64 n] w fun e w' => e = .returned (.string (enm n)) ∧ Below w.heap.size w w' := by
  have HC := Lib.hid (fun w1 ht1 => itoa_ok n h0 h1 w1 ht1)
  have hz := num_size n h0 h1
  have HT := Lib.hid ht
  clear h0 h1 ht
  by_cases hs : n = 0 ∨ n = 1 ∨ n = 2 ∨ n = 3 ∨ n = 4 ∨ n = 5 ∨ n = 6 ∨ n = 7 ∨ n = 8 ∨ n = 280 ∨ n = 290 ∨ n = 360 ∨ n = 361 ∨ n = 320 ∨ n = 330
  · clear HC hz HT
    have e2 : Hid (enm 2 = ⟨#[101, 114, 114, 111, 114, 32, 50]⟩) := by show _ = _; decide +kernel
    have e3 : Hid (enm 3 = ⟨#[101, 114, 114, 111, 114, 32, 51]⟩) := by show _ = _; decide +kernel
    rcases hs with rfl | rfl | rfl | rfl | rfl | rfl | rfl | rfl | rfl | rfl | rfl | rfl | rfl | rfl | rfl
    all_goals
      go_enter Tryd.func8, Tryd.ntmps8
      go_wp2
      go_ret
      exact ⟨by first | (rw [e2.out]; rfl) | (rw [e3.out]; rfl) | rfl, (Below.refl _ _).alloc (Nat.le_refl _) _⟩
  · have HE : Hid (enm n = ⟨#[101, 114, 114, 111, 114, 32]⟩ ++ num n) := by
      show _ = _
      unfold enm
      simp only [not_or] at hs
      obtain ⟨a0, a1, b2, b3, a2, a3, a4, a5, a6, a7, a8, a9, a10, a11, a12⟩ := hs
      rw [if_neg a0, if_neg a1, if_neg a2, if_neg a3, if_neg a4, if_neg a5, if_neg a6, if_neg a7, if_neg a8, if_neg a9, if_neg a10, if_neg (by simp [a11, a12])]
    generalize num n = s at *
    simp only [not_or] at hs
    obtain ⟨a0, a1, b2, b3, a2, a3, a4, a5, a6, a7, a8, a9, a10, a11, a12⟩ := hs
    rw [HE.out]
    clear HE
    have hr : n < 0 ∨ 9 ≤ n := by omega
    clear a0 a1 b2 b3 a2 a3 a4 a5 a6
    have d11 : decide (n = 320) = false := decide_eq_false a11
    have d12 : decide (n = 330) = false := decide_eq_false a12
    have b11 : (n == 320) = false := by simpa using a11
    have b12 : (n == 330) = false := by simpa using a12
    rcases hr with hr | hr
    all_goals
      go_enter Tryd.func8, Tryd.ntmps8
      go_wp2_with (go_at_call 9; refine (HC.out _ (HT.out.below ((Below.refl _ _).alloc (Nat.le_refl _) _))).mono ?_; rintro e w1 ⟨rfl, hb⟩; have HB := Lib.hid (((Below.refl _ w).alloc (Nat.le_refl _) _).trans (hb.mono (by simp))); clear hb)
      go_ret
      exact ⟨rfl, HB.out⟩

/-- A reply that bears an error tells its name. -/
theorem reply_err (n : Int) (h0 : -9223372036854775808 ≤ n) (h1 : n ≤ 9223372036854775807) (hn : n ≠ 0) (a b c d : Value) (w : World) (ht : Tab w) :
    Calls Tryd.prog 17 #[.agg #[.int .i64 n, a, b, c, d]] w fun e w' => e = .returned (.string (enm n)) ∧ Below w.heap.size w w' := by
  have HC := Lib.hid (errno_show n h0 h1 _ (ht.below ((Below.refl _ _).alloc (Nat.le_refl _) (.cells #[.int .i64 n, a, b, c, d] 39))))
  clear h0 h1 ht
  go_enter Tryd.func17, Tryd.ntmps17
  go_wp2_with (go_at_call 7; refine HC.out.mono ?_; rintro e w1 ⟨rfl, hb⟩; have HB := Lib.hid (((Below.refl _ w).alloc (Nat.le_refl _) _).trans (hb.mono (by simp))); clear hb)
  go_ret
  exact ⟨rfl, HB.out⟩

theorem awake_ok (w : World) (ht : Tab w) :
    Calls Tryd.prog 6 #[] w fun e w' => e = .returned (.bool true) ∧ Below w.heap.size w w' := by
  have HT := Lib.hid ht
  have e5 : Hid (enm 5 = ⟨#[102, 117, 108, 108]⟩) := rfl
  have n5 : Hid (num 5 = ⟨#[53]⟩) := by show _ = _; decide +kernel
  clear ht
  go_enter Tryd.func6, Tryd.ntmps6
  go_wp2_with fail
  refine (reply_err 5 (by omega) (by omega) (by omega) _ _ _ _ w HT.out).mono ?_
  rintro e w1 ⟨rfl, hb⟩
  rw [e5.out]
  have HB := Lib.hid hb
  have HT1 := Lib.hid (HT.out.below hb)
  clear hb
  go_wp2_with fail
  refine (num_ok 5 (by omega) (by omega) w1 HT1.out).mono ?_
  rintro e w2 ⟨rfl, hb⟩
  rw [n5.out]
  have HB2 := Lib.hid (HB.out.trans (hb.mono HB.out.size))
  clear hb
  go_wp2
  go_ret
  exact ⟨by simp, HB2.out⟩

end Go.Proofs.YtkcgnodmjmpnhaaDoor
