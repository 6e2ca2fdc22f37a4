import Derived.Test.YtkcgnodmjmpnhaaDoorV1
import Derived.Test.YtkcgnodmjmpnhaaDoorF3
namespace Go.Proofs.YtkcgnodmjmpnhaaDoor
open Go.RowKit Go.Shelf Go.Lib Go.Sort
set_option linter.unusedVariables false

set_option maxHeartbeats 4000000 in
theorem val_ref (v : Vl) (hv : v.short) (hb1 : v.k = 1 → v.n = 0 ∨ v.n = 1) (w : World) (ht : Tab w) :
    Calls Tryd.prog 23 #[v.val] w fun e w' => e = .returned (.string v.txt) ∧ Below w.heap.size w w' := by
  obtain ⟨k, n, s⟩ := v
  obtain ⟨h1, h2, h3⟩ := hv
  simp only at h1 h2 h3 hb1
  have hb := (Below.refl w.heap.size w).alloc (Nat.le_refl _) (.cells #[.int .i64 k, .int .i64 n, .string s] 48)
  have HB := Lib.hid hb
  have HI := Lib.hid (fint_ok n h2 _ (ht.below hb))
  have HX := Lib.hid (text_other s h3)
  unfold Vl.val Vl.txt
  simp only
  clear h1 h2 h3 hb ht
  generalize num n = sn at *
  generalize quoB s = sq at *
  by_cases k1 : k = 1
  · subst k1
    rcases hb1 rfl with n0 | n1
    · subst n0
      go_enter Tryd.func23, Tryd.ntmps23
      go_wp2
      go_ret
      exact ⟨rfl, HB.out⟩
    · subst n1
      go_enter Tryd.func23, Tryd.ntmps23
      go_wp2
      go_ret
      exact ⟨rfl, HB.out⟩
  · have kb : ((k : Int) == 1) = false := by simpa using k1
    by_cases k2 : k = 2
    · subst k2
      go_enter Tryd.func23, Tryd.ntmps23
      go_wp2_with (go_at_call 32; refine HI.out.mono ?_; rintro e w' ⟨rfl, hb⟩; have HB2 := Lib.hid (HB.out.trans (hb.mono HB.out.size)); clear hb)
      go_ret
      exact ⟨rfl, HB2.out⟩
    · by_cases k3 : k = 3
      · subst k3
        go_enter Tryd.func23, Tryd.ntmps23
        go_wp2_with (go_at_call 33; refine (HX.out _).mono ?_; rintro e w' ⟨rfl, rfl⟩)
        go_ret
        exact ⟨rfl, HB.out⟩
      · go_enter Tryd.func23, Tryd.ntmps23
        go_wp2
        go_ret
        exact ⟨by simp [k1, k2, k3], HB.out⟩

set_option maxHeartbeats 4000000 in
theorem value_law (v : Vl) (hv : v.short) (w : World) (ht : Tab w) :
    Calls Tryd.prog 16 #[v.val] w fun e w' => e = .returned (.string v.txt) ∧ Below w.heap.size w w' := by
  have hb := (Below.refl w.heap.size w).alloc (Nat.le_refl _) (.cells #[.int .i64 v.k, .int .i64 v.n, .string v.s] 48)
  have HB := Lib.hid hb
  have HTb := Lib.hid (ht.below hb)
  by_cases hk : v.k = 1 ∧ v.n ≠ 0
  · have e : v.txt = ⟨#[116, 114, 117, 101]⟩ := by unfold Vl.txt; rw [if_pos hk.1, if_neg hk.2]
    rw [e]
    obtain ⟨k, n, s⟩ := v
    obtain ⟨h1, h2⟩ := hk
    simp only at h1 h2
    subst h1
    unfold Vl.val
    simp only
    have hne : ((n : Int) != 0) = true := by simpa using h2
    clear hb ht hv e HTb
    go_enter Tryd.func16, Tryd.ntmps16
    go_wp2
    go_ret
    exact ⟨rfl, HB.out⟩
  · have HV := Lib.hid (val_ref v hv (fun h => by
      rcases Classical.em (v.n = 0) with h0 | h0
      · exact .inl h0
      · exact absurd ⟨h, h0⟩ hk) _ HTb.out)
    obtain ⟨k, n, s⟩ := v
    simp only at hk
    have hk' : ¬ k = 1 ∨ n = 0 := by
      rcases Classical.em (k = 1) with h | h
      · right; rcases Classical.em (n = 0) with h0 | h0
        · exact h0
        · exact absurd ⟨h, h0⟩ hk
      · exact .inl h
    generalize (Vl.mk k n s).txt = T at *
    unfold Vl.val at HV ⊢
    simp only at HV ⊢
    clear hb ht hv HTb hk
    rcases hk' with h | h
    · have kb : ((k : Int) == 1) = false := by simpa using h
      go_enter Tryd.func16, Tryd.ntmps16
      go_wp2_with (go_at_call 23; refine HV.out.mono ?_; rintro e w' ⟨rfl, hb⟩; have HB2 := Lib.hid (HB.out.trans (hb.mono HB.out.size)); clear hb)
      go_ret
      exact ⟨rfl, HB2.out⟩
    · subst h
      by_cases h1 : k = 1
      · subst h1
        go_enter Tryd.func16, Tryd.ntmps16
        go_wp2_with (go_at_call 23; refine HV.out.mono ?_; rintro e w' ⟨rfl, hb⟩; have HB2 := Lib.hid (HB.out.trans (hb.mono HB.out.size)); clear hb)
        go_ret
        exact ⟨rfl, HB2.out⟩
      · have kb : ((k : Int) == 1) = false := by simpa using h1
        go_enter Tryd.func16, Tryd.ntmps16
        go_wp2_with (go_at_call 23; refine HV.out.mono ?_; rintro e w' ⟨rfl, hb⟩; have HB2 := Lib.hid (HB.out.trans (hb.mono HB.out.size)); clear hb)
        go_ret
        exact ⟨rfl, HB2.out⟩

/-- A value of few kinds. -/
def Vl.near (v : Vl) : Vl :=
  if v.k % 8 = 0 then ⟨0, 0, ⟨#[]⟩⟩ else if v.k % 8 = 1 then ⟨1, v.n % 2, ⟨#[]⟩⟩ else if v.k % 8 = 2 ∨ v.k % 8 = 3 then ⟨2, v.n, ⟨#[]⟩⟩
  else if v.k % 8 = 4 ∨ v.k % 8 = 5 ∨ v.k % 8 = 6 then ⟨3, 0, v.s.extract 0 (min v.s.size 60)⟩ else ⟨v.k, v.n, v.s.extract 0 (min v.s.size 2100)⟩
theorem Vl.near_short (v : Vl) (hv : v.ok) : v.near.short := by
  obtain ⟨h1, h2, h3⟩ := hv
  unfold Vl.near
  have z : In64 0 := ⟨by omega, by omega⟩
  have i1 : In64 1 := ⟨by omega, by omega⟩
  have i2 : In64 2 := ⟨by omega, by omega⟩
  have i3 : In64 3 := ⟨by omega, by omega⟩
  have i4 : In64 (v.n % 2) := ⟨by omega, by omega⟩
  split
  · exact ⟨z, z, Nat.zero_le _⟩
  · split
    · exact ⟨i1, i4, Nat.zero_le _⟩
    · split
      · exact ⟨i2, h2, Nat.zero_le _⟩
      · split
        · refine ⟨i3, z, ?_⟩
          simp only [ByteArray.size_extract]; omega
        · refine ⟨h1, h2, ?_⟩
          simp only [ByteArray.size_extract]; omega

theorem results_cell1 {fn : Func} {p : Tmp} {ty : TypeId} (h : fn.results = #[.cell p ty]) (tmps : Array Value) (P : Program) (w : World) :
    (results fn tmps).run P w = ((asAddr (tmps.getD p undef)).run P w).andThen fun a w₁ => (loadVar ty a).run P w₁ := by
  simp only [results, h]
  simp [Sem.run_bind, Result.andThen]

theorem and7 (n : Int) : bits .and .i64 n 7 = n % 8 := i64_mask n 3 7 (by decide) (by omega)
theorem and1 (n : Int) : bits .and .i64 n 1 = n % 2 := i64_mask n 1 1 (by decide) (by omega)
theorem slice_to {s : ByteArray} {k : Nat} (h : k ≤ s.size) (w : World) : (Instr.slice 9 (.string s) none (some (.int .i64 (k : Int))) none).run Tryd.prog w = .ok (.string (s.extract 0 k)) w := by
  rw [run_slice_string_to_if w 9 s .i64 k Tryd.underlying9, if_pos (by omega)]
  rfl

set_option maxHeartbeats 4000000 in
theorem near_val (v : Vl) (hv : v.ok) (w : World) :
    Calls Tryd.prog 15 #[v.val] w fun e w' => e = .returned v.near.val ∧ Below w.heap.size w w' := by
  obtain ⟨k, n, s⟩ := v
  obtain ⟨_, _, h3⟩ := hv
  simp only at h3
  have ha := and7 k
  have hn := and1 n
  obtain ⟨m60, e60⟩ : ∃ m : Nat, m = min s.size 60 := ⟨_, rfl⟩
  obtain ⟨m21, e21⟩ : ∃ m : Nat, m = min s.size 2100 := ⟨_, rfl⟩
  have hm60 : min (s.size : Int) 60 = (m60 : Int) := by omega
  have hm21 : min (s.size : Int) 2100 = (m21 : Int) := by omega
  have hE60 := fun w => slice_to (s := s) (k := m60) (by omega) w
  have hE21 := fun w => slice_to (s := s) (k := m21) (by omega) w
  have hr : k % 8 = 0 ∨ k % 8 = 1 ∨ k % 8 = 2 ∨ k % 8 = 3 ∨ k % 8 = 4 ∨ k % 8 = 5 ∨ k % 8 = 6 ∨ k % 8 = 7 := by omega
  unfold Vl.near Vl.val
  simp only [← e60, ← e21]
  clear e60 e21
  generalize s.extract 0 m60 = S60 at *
  generalize s.extract 0 m21 = S21 at *
  rcases hr with h | h | h | h | h | h | h | h
  all_goals
    rw [h] at ha
    simp only [h, Int.reduceEq, if_true, if_false, or_true, true_or, or_false, false_or, or_self]
    clear h
    go_enter Tryd.func15, Tryd.ntmps15
    go_wp2_with fail
    try (go_region; go_wp2_with fail)
    refine bodyPost_ret (by rw [results_cell1 (fn := Tryd.f15) rfl]; go_simp; rfl) rfl ?_
    exact ⟨rfl, by first | exact ((Below.refl _ w).alloc (Nat.le_refl _) _).alloc (by simp) _ | exact below_drew (((Below.refl _ w).alloc (Nat.le_refl _) _).alloc (by simp) _)⟩
end Go.Proofs.YtkcgnodmjmpnhaaDoor
