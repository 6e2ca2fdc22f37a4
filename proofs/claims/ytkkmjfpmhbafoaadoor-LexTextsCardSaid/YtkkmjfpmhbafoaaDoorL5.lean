import Derived.Test.YtkkmjfpmhbafoaaDoorL4
namespace Go.Proofs.YtkkmjfpmhbafoaaDoor
open Go.RowKit Go.Lib
set_option linter.unusedVariables false

theorem extract_two {s : ByteArray} {j : Nat} (h : j + 1 < s.size) : s.extract j (j + 2) = ⟨#[s[j], s[j + 1]]⟩ := by
  apply ByteArray.ext
  have h' : j + 1 < s.data.size := h
  rw [ByteArray.data_extract]
  apply Array.ext
  · simp; omega
  · intro i h1 h2
    have : i = 0 ∨ i = 1 := by simp at h2; omega
    rcases this with rfl | rfl <;> simp [ByteArray.getElem_eq_getElem_data]
theorem slice_two {s : ByteArray} {m : Nat} (h : m + 1 < s.size) (w : World) : (Instr.slice 9 (.string s) (some (.int .i64 (m : Int))) (some (.int .i64 ((m : Int) + 2))) none).run Tryd.prog w = .ok (.string ⟨#[s[m], s[m + 1]]⟩) w := by
  rw [show ((m : Int) + 2) = ((m + 2 : Nat) : Int) by omega, slice_nat (by omega) (by omega), extract_two h]
theorem two_ne {a b : UInt8} {x y : Nat} (hx : x < 256) (hy : y < 256) (h : ¬ (a.toNat = x ∧ b.toNat = y)) : ¬ (⟨#[a, b]⟩ : ByteArray) = ⟨#[UInt8.ofNat x, UInt8.ofNat y]⟩ := by
  intro e
  injection e with e
  simp at e
  apply h
  rw [e.1, e.2]
  simp
  omega
theorem ba_ne {U : ByteArray} {l : List UInt8} (h : ¬ U = ⟨l.toArray⟩) : (U.toList == l) = false := by
  rw [ByteArray.toList_eq]
  cases hb : (U.data.toList == l) with
  | false => rfl
  | true => exact absurd (ByteArray.ext (by have := beq_iff_eq.1 hb; rw [← this])) h
theorem mk1_not {a : UInt8} (h : mk1 a = false) : ∀ x ∈ [40, 41, 91, 93, 123, 125, 58, 44, 46, 45, 60, 62, 61], ¬ a.toNat = x := by
  intro x hx e
  unfold mk1 at h
  rw [e] at h
  have := List.contains_iff_mem.2 hx
  rw [this] at h
  cases h

set_option maxHeartbeats 4000000 in
set_option maxRecDepth 10000 in
theorem mark_one (s : ByteArray) (n : Nat) (hlt : n < s.size) (hs : s.size ≤ 1000000) (h2 : ¬ n + 1 < s.size) (w : World) :
    Calls Tryd.prog 20 #[.string s, .int .i64 n] w fun e w' => e = .returned (.int .i64 (mk (rem s n) : Nat)) ∧ w = w' := by
  have hk : mk (rem s n) = if mk1 s[n] then 1 else 0 := by rw [rem_cons hlt, rem_nil (by omega)]; rfl
  rw [hk]
  clear hk
  generalize hc : s[n] = c at *
  have hx : c.toNat < 256 := c.toNat_lt
  cases hm : mk1 c with
  | true =>
    have hm' : c.toNat = 40 ∨ c.toNat = 41 ∨ c.toNat = 91 ∨ c.toNat = 93 ∨ c.toNat = 123 ∨ c.toNat = 125 ∨ c.toNat = 58 ∨ c.toNat = 44 ∨ c.toNat = 46 ∨ c.toNat = 45 ∨ c.toNat = 60 ∨ c.toNat = 62 ∨ c.toNat = 61 := by
      unfold mk1 at hm; simpa using hm
    clear hm
    rcases hm' with h | h | h | h | h | h | h | h | h | h | h | h | h
    all_goals
      go_enter Tryd.func20, Tryd.ntmps20
      go_wp2
      go_ret
      exact ⟨rfl, rfl⟩
  | false =>
    have hf := mk1_not hm
    simp only [List.mem_cons, List.not_mem_nil, or_false, forall_eq_or_imp, forall_eq] at hf
    obtain ⟨f0, f1, f2, f3, f4, f5, f6, f7, f8, f9, f10, f11, f12⟩ := hf
    clear hm
    go_enter Tryd.func20, Tryd.ntmps20
    go_wp2
    go_ret
    exact ⟨rfl, rfl⟩

set_option maxHeartbeats 4000000 in
set_option maxRecDepth 10000 in
theorem mark_two (s : ByteArray) (n : Nat) (hlt : n + 1 < s.size) (hs : s.size ≤ 1000000) (w : World) :
    Calls Tryd.prog 20 #[.string s, .int .i64 n] w fun e w' => e = .returned (.int .i64 (mk (rem s n) : Nat)) ∧ w = w' := by
  have hk : mk (rem s n) = if mk2 s[n] s[n + 1] then 2 else if mk1 s[n] then 1 else 0 := by rw [rem_cons (by omega), rem_cons (n := n + 1) (by omega)]; rfl
  rw [hk]
  clear hk
  have hE := slice_two hlt
  have hlt0 : n < s.size := by omega
  generalize hd : s[n + 1] = d at *
  generalize hc : s[n] = c at *
  have hlti : (n : Int) + 1 < (s.size : Int) := by omega
  have hx : c.toNat < 256 := c.toNat_lt
  cases hm2 : mk2 c d with
  | true =>
    have hm' : (c.toNat = 45 ∧ d.toNat = 62) ∨ (c.toNat = 60 ∧ d.toNat = 45) ∨ (c.toNat = 33 ∧ d.toNat = 61) ∨ (c.toNat = 60 ∧ d.toNat = 61) ∨ (c.toNat = 62 ∧ d.toNat = 61) := by
      unfold mk2 at hm2; simpa [or_assoc] using hm2
    have inj : ∀ {x : UInt8} {k : Nat}, x.toNat = k → x = UInt8.ofNat k := fun h => by rw [← h]; simp
    clear hm2
    rcases hm' with ⟨h, h'⟩ | ⟨h, h'⟩ | ⟨h, h'⟩ | ⟨h, h'⟩ | ⟨h, h'⟩
    all_goals
      obtain rfl := inj h
      obtain rfl := inj h'
      clear inj h h'
      go_enter Tryd.func20, Tryd.ntmps20
      go_wp2
      go_ret
      exact ⟨rfl, rfl⟩
  | false =>
    have hn : ¬ (c.toNat = 45 ∧ d.toNat = 62) ∧ ¬ (c.toNat = 60 ∧ d.toNat = 45) ∧ ¬ (c.toNat = 33 ∧ d.toNat = 61) ∧ ¬ (c.toNat = 60 ∧ d.toNat = 61) ∧ ¬ (c.toNat = 62 ∧ d.toNat = 61) := by
      unfold mk2 at hm2
      simp only [Bool.or_eq_false_iff, Bool.and_eq_false_iff, beq_eq_false_iff_ne] at hm2
      omega
    have e0 := two_ne (by omega) (by omega) hn.1
    have e1 := two_ne (by omega) (by omega) hn.2.1
    have e2 := two_ne (by omega) (by omega) hn.2.2.1
    have e3 := two_ne (by omega) (by omega) hn.2.2.2.1
    have e4 := two_ne (by omega) (by omega) hn.2.2.2.2
    simp only [show UInt8.ofNat 45 = 45 from rfl, show UInt8.ofNat 62 = 62 from rfl, show UInt8.ofNat 60 = 60 from rfl, show UInt8.ofNat 33 = 33 from rfl, show UInt8.ofNat 61 = 61 from rfl] at e0 e1 e2 e3 e4
    generalize (⟨#[c, d]⟩ : ByteArray) = U at *
    have g0 : (U.toList == [45, 62]) = false := ba_ne e0
    have g1 : (U.toList == [60, 45]) = false := ba_ne e1
    have g2 : (U.toList == [33, 61]) = false := ba_ne e2
    have g3 : (U.toList == [60, 61]) = false := ba_ne e3
    have g4 : (U.toList == [62, 61]) = false := ba_ne e4
    clear hn hm2
    cases hm : mk1 c with
    | true =>
      have hm' : c.toNat = 40 ∨ c.toNat = 41 ∨ c.toNat = 91 ∨ c.toNat = 93 ∨ c.toNat = 123 ∨ c.toNat = 125 ∨ c.toNat = 58 ∨ c.toNat = 44 ∨ c.toNat = 46 ∨ c.toNat = 45 ∨ c.toNat = 60 ∨ c.toNat = 62 ∨ c.toNat = 61 := by
        unfold mk1 at hm; simpa using hm
      clear hm
      rcases hm' with h | h | h | h | h | h | h | h | h | h | h | h | h
      all_goals
        go_enter Tryd.func20, Tryd.ntmps20
        go_wp2
        go_ret
        exact ⟨rfl, rfl⟩
    | false =>
      have hf := mk1_not hm
      simp only [List.mem_cons, List.not_mem_nil, or_false, forall_eq_or_imp, forall_eq] at hf
      obtain ⟨f0, f1, f2, f3, f4, f5, f6, f7, f8, f9, f10, f11, f12⟩ := hf
      clear hm
      go_enter Tryd.func20, Tryd.ntmps20
      go_wp2
      go_ret
      exact ⟨rfl, rfl⟩
theorem mark_ref (s : ByteArray) (n : Nat) (hlt : n < s.size) (hs : s.size ≤ 1000000) (w : World) :
    Calls Tryd.prog 20 #[.string s, .int .i64 n] w fun e w' => e = .returned (.int .i64 (mk (rem s n) : Nat)) ∧ w = w' := by
  by_cases h : n + 1 < s.size
  · exact mark_two s n h hs w
  · exact mark_one s n hlt hs h w
end Go.Proofs.YtkkmjfpmhbafoaaDoor
