import Derived.Test.YtkcgnodmjmpnhaaDoorV0
import Derived.BigRegion
import Derived.Test.YtkcgnodmjmpnhaaDoorE2
namespace Go.Proofs.YtkcgnodmjmpnhaaDoor
open Go.RowKit Go.Shelf Go.Lib Go.Sort
set_option linter.unusedVariables false

/-- A value. -/
structure Vl where
  k : Int
  n : Int
  s : ByteArray
def Vl.val (v : Vl) : Value := .agg #[.int .i64 v.k, .int .i64 v.n, .string v.s]
def Vl.ok (v : Vl) : Prop := In64 v.k ∧ In64 v.n ∧ v.s.size ≤ 9223372036854775807
/-- A value that is not too great. -/
def Vl.short (v : Vl) : Prop := In64 v.k ∧ In64 v.n ∧ v.s.size ≤ 2100
/-- A value's text. -/
def Vl.txt (v : Vl) : ByteArray :=
  if v.k = 1 then (if v.n = 0 then ⟨#[102, 97, 108, 115, 101]⟩ else ⟨#[116, 114, 117, 101]⟩)
  else if v.k = 2 then num v.n else if v.k = 3 then quoB v.s else ⟨#[110, 111, 116, 104, 105, 110, 103]⟩
theorem fint_ok (n : Int) (h : In64 n) (w : World) (ht : Tab w) :
    Calls Tryd.prog 32 #[.int .i64 n, .int .i64 10] w fun e w' => e = .returned (.string (num n)) ∧ Below w.heap.size w w' := by
  refine (Tryd.strconv_FormatInt_10 n h.1 h.2 w ht).mono ?_
  rintro e w' ⟨rfl, k, os, rfl⟩
  exact ⟨rfl, below_grow w k os⟩
theorem fbool_ok (b : Bool) (w : World) : Calls Tryd.prog 44 #[.bool b] w fun e w' => e = .returned (.string (if b then ⟨#[116, 114, 117, 101]⟩ else ⟨#[102, 97, 108, 115, 101]⟩)) ∧ w' = w := by
  refine (Tryd.strconv_FormatBool b w).mono ?_
  rintro e w' h
  cases b <;> exact h

set_option maxHeartbeats 4000000 in
theorem value_show (v : Vl) (hv : v.short) (w : World) (ht : Tab w) (hm : HasM w) :
    Calls Tryd.prog 35 #[v.val] w fun e w' => e = .returned (.string v.txt) ∧ Below w.heap.size w w' := by
  obtain ⟨k, n, s⟩ := v
  obtain ⟨h1, h2, h3⟩ := hv
  simp only at h1 h2 h3
  have hb := (Below.refl w.heap.size w).alloc (Nat.le_refl _) (.cells #[.int .i64 k, .int .i64 n, .string s] 48)
  have HB := Lib.hid hb
  have HI := Lib.hid (fint_ok n h2 _ (ht.below hb))
  have HX := Lib.hid (text_prog s h3 _ (hm.below hb))
  have HF := Lib.hid fbool_ok
  unfold Vl.val Vl.txt
  simp only
  clear h1 h2 h3 hb ht hm
  generalize num n = sn at *
  generalize quoB s = sq at *
  by_cases k1 : k = 1
  · subst k1
    by_cases n0 : n = 0
    · subst n0
      go_enter Tryd.func35, Tryd.ntmps35
      go_wp2_with (go_at_call 44; refine (HF.out _ _).mono ?_; rintro e w' ⟨rfl, rfl⟩)
      go_ret
      exact ⟨rfl, HB.out⟩
    · have hne : ((n : Int) != 0) = true := by simpa using n0
      go_enter Tryd.func35, Tryd.ntmps35
      go_wp2_with (go_at_call 44; refine (HF.out _ _).mono ?_; rintro e w' ⟨rfl, rfl⟩)
      go_ret
      exact ⟨by simp [n0], HB.out⟩
  · by_cases k2 : k = 2
    · subst k2
      go_enter Tryd.func35, Tryd.ntmps35
      go_wp2_with (go_at_call 32; refine HI.out.mono ?_; rintro e w' ⟨rfl, hb⟩; have HB2 := Lib.hid (HB.out.trans (hb.mono HB.out.size)); clear hb)
      go_ret
      exact ⟨rfl, HB2.out⟩
    · by_cases k3 : k = 3
      · subst k3
        go_enter Tryd.func35, Tryd.ntmps35
        go_wp2_with (go_at_call 45; refine HX.out.mono ?_; rintro e w' ⟨rfl, hb⟩; have HB2 := Lib.hid (HB.out.trans (hb.mono HB.out.size)); clear hb)
        go_ret
        exact ⟨rfl, HB2.out⟩
      · go_enter Tryd.func35, Tryd.ntmps35
        go_wp2
        go_ret
        exact ⟨by simp [k1, k2, k3], HB.out⟩
end Go.Proofs.YtkcgnodmjmpnhaaDoor
