import Derived.Test.YtahhbgfibelfaaaDoorQ1
namespace Go.Proofs.YtahhbgfibelfaaaDoor
open Go.RowKit Go.Lib
set_option linter.unusedVariables false

/-! ### The words of a text, by its bytes -/
/-- The word ahead of a list of bytes, and how many of them it takes. -/
def oneL (n : Nat) : List UInt8 → Option (Wd × Nat)
  | [] => none
  | c :: r =>
    if isL c then some (⟨1, ⟨((c :: r).take ((c :: r).takeWhile isN).length).toArray⟩, 0, n⟩, ((c :: r).takeWhile isN).length)
    else if isD c then
      match numF 0 ((c :: r).take ((c :: r).takeWhile isN).length) with
      | some v => some (⟨2, ⟨#[]⟩, v, n⟩, ((c :: r).takeWhile isN).length)
      | none => none
    else if c.toNat = 34 then
      match txt r [] 1 with
      | some (t, m) => some (⟨3, ⟨t.toArray⟩, 0, n⟩, m)
      | none => none
    else if mk (c :: r) = 0 then none else some (⟨4, ⟨((c :: r).take (mk (c :: r))).toArray⟩, 0, n⟩, mk (c :: r))
theorem oneL_cons (n : Nat) (c : UInt8) (r : List UInt8) : oneL n (c :: r) = if isL c then some (⟨1, ⟨((c :: r).take ((c :: r).takeWhile isN).length).toArray⟩, 0, n⟩, ((c :: r).takeWhile isN).length)
    else if isD c then
      match numF 0 ((c :: r).take ((c :: r).takeWhile isN).length) with
      | some v => some (⟨2, ⟨#[]⟩, v, n⟩, ((c :: r).takeWhile isN).length)
      | none => none
    else if c.toNat = 34 then
      match txt r [] 1 with
      | some (t, m) => some (⟨3, ⟨t.toArray⟩, 0, n⟩, m)
      | none => none
    else if mk (c :: r) = 0 then none else some (⟨4, ⟨((c :: r).take (mk (c :: r))).toArray⟩, 0, n⟩, mk (c :: r)) := rfl
theorem extract_rem (s : ByteArray) (n m : Nat) : s.extract n (n + m) = ⟨((rem s n).take m).toArray⟩ := by
  apply ByteArray.ext
  rw [ByteArray.data_extract]
  apply Array.ext'
  unfold rem
  simp
theorem oneS_oneL (s : ByteArray) (n : Nat) (h : n < s.size) : (oneL n (rem s n) = none ∧ (oneS s n).2 = 0) ∨ ∃ w m, oneL n (rem s n) = some (w, m) ∧ oneS s n = (w.cells, m) ∧ m ≠ 0 := by
  have hr := rem_cons h
  have e := extract_rem s n
  unfold oneS runs
  generalize rem s n = L at *
  generalize rem s (n + 1) = R at *
  generalize s[n] = c at *
  subst hr
  simp only [e]
  clear e
  rw [oneL_cons]
  by_cases h1 : isL c = true
  · right
    have hN : isN c = true := by unfold isN; rw [h1]; rfl
    refine ⟨_, _, if_pos h1, ?_, ?_⟩
    · rw [if_pos h1]; rfl
    · rw [List.takeWhile_cons_of_pos hN, List.length_cons]; omega
  · by_cases h2 : isD c = true
    · rw [if_neg h1, if_pos h2, if_neg h1, if_pos h2]
      have hN : isN c = true := by unfold isN; rw [h2]; simp
      cases numF 0 ((c :: R).take ((c :: R).takeWhile isN).length) with
      | none => exact .inl ⟨rfl, rfl⟩
      | some v => exact .inr ⟨_, _, rfl, rfl, by rw [List.takeWhile_cons_of_pos hN, List.length_cons]; omega⟩
    · by_cases h3 : c.toNat = 34
      · rw [if_neg h1, if_neg h2, if_pos h3, if_neg h1, if_neg h2, if_pos h3]
        cases hx : txt R [] 1 with
        | none => exact .inl ⟨rfl, rfl⟩
        | some tm =>
          obtain ⟨t, m⟩ := tm
          have := txt_bound _ _ _ _ _ hx
          exact .inr ⟨_, _, rfl, rfl, by omega⟩
      · rw [if_neg h1, if_neg h2, if_neg h3, if_neg h1, if_neg h2, if_neg h3]
        by_cases h4 : mk (c :: R) = 0
        · rw [if_pos h4]; exact .inl ⟨rfl, h4⟩
        · rw [if_neg h4]; exact .inr ⟨_, _, rfl, rfl, h4⟩
/-- The words of a list of bytes that stands at a place. -/
inductive Lex : Nat → List UInt8 → List Wd → Prop where
  | nil (n : Nat) : Lex n [] []
  | blank {n : Nat} {c : UInt8} {r : List UInt8} {ws : List Wd} : isB c = true → Lex (n + 1) r ws → Lex n (c :: r) ws
  | word {n m : Nat} {c : UInt8} {r : List UInt8} {w : Wd} {ws : List Wd} : isB c = false → oneL n (c :: r) = some (w, m) → Lex (n + m) ((c :: r).drop m) ws → Lex n (c :: r) (w :: ws)
theorem Lex.wds {s : ByteArray} {n : Nat} {l : List UInt8} {ws : List Wd} (h : Lex n l ws) : ∀ (f : Nat) (acc : List Wd), l = rem s n → n ≤ s.size → s.size - n < f → wds s f n (flat acc) = .inr (flat (acc ++ ws)) := by
  induction h with
  | nil n =>
    intro f acc hl hn hf
    have : s.size ≤ n := by
      have := rem_length s n
      rw [← hl] at this
      simp only [List.length_nil] at this
      omega
    cases f with
    | zero => omega
    | succ f => rw [wds_end (by omega), List.append_nil]
  | @blank n c r ws hb _ ih =>
    intro f acc hl hn hf
    have hlt : n < s.size := by
      have := rem_length s n
      rw [← hl, List.length_cons] at this
      omega
    rw [rem_cons hlt] at hl
    injection hl with e1 e2
    cases f with
    | zero => omega
    | succ f =>
      rw [wds_blank hlt (by rw [← e1]; exact hb)]
      exact ih f acc e2 (by omega) (by omega)
  | @word n m c r w ws hb ho _ ih =>
    intro f acc hl hn hf
    have hlt : n < s.size := by
      have := rem_length s n
      rw [← hl, List.length_cons] at this
      omega
    have hb' : isB s[n] = false := by
      have := rem_cons hlt
      rw [← hl] at this
      injection this with e1 _
      rw [← e1]; exact hb
    cases f with
    | zero => omega
    | succ f =>
      rw [hl] at ho ih
      have hle := oneS_le s n
      rcases oneS_oneL s n hlt with ⟨h0, _⟩ | ⟨w', m', h1, h2, h3⟩
      · rw [h0] at ho; cases ho
      · rw [h1] at ho
        injection ho with ho
        injection ho with e1 e2
        subst e1 e2
        rw [h2] at hle
        rw [wds_word hlt hb' h2 h3, flat_snoc]
        have := ih f (acc ++ [w']) (rem_drop s n m') (by simp only at hle; omega) (by omega)
        rw [this, List.append_assoc]
        rfl
/-! ### Pieces of texts -/
theorem mk_one {c : UInt8} (R : List UInt8) (h1 : mk1 c = true) (h2 : ∀ b, mk2 c b = false) : mk (c :: R) = 1 := by
  cases R with
  | nil => show (if mk1 c then 1 else 0) = 1; rw [h1]; rfl
  | cons b r => show (if mk2 c b then 2 else if mk1 c then 1 else 0) = 1; rw [h2, h1]; rfl
theorem one_mk1 {c : UInt8} (n : Nat) (R : List UInt8) (h1 : mk1 c = true) (h2 : ∀ b, mk2 c b = false) (h3 : isL c = false) (h4 : isD c = false) (h5 : ¬ c.toNat = 34) : oneL n (c :: R) = some (⟨4, ⟨#[c]⟩, 0, n⟩, 1) := by
  rw [oneL_cons]
  have e := mk_one R h1 h2
  rw [e]
  simp only [h3, h4, h5, Bool.false_eq_true, if_false, List.take_succ_cons, List.take_zero]
  rfl
theorem takeWhile_stop {p : UInt8 → Bool} : ∀ (P R : List UInt8), P.all p = true → R.takeWhile p = [] → (P ++ R).takeWhile p = P
  | [], R, _, h => by simpa using h
  | c :: P, R, h, h2 => by
    simp only [List.all_cons, Bool.and_eq_true] at h
    rw [List.cons_append, List.takeWhile_cons_of_pos h.1, takeWhile_stop P R h.2 h2]
theorem one_name {c : UInt8} (n : Nat) (P R : List UInt8) (hc : isL c = true) (hP : P.all isN = true) (hR : R.takeWhile isN = []) : oneL n (c :: (P ++ R)) = some (⟨1, ⟨(c :: P).toArray⟩, 0, n⟩, P.length + 1) := by
  have hN : isN c = true := by unfold isN; rw [hc]; rfl
  rw [oneL_cons]
  rw [if_pos hc, List.takeWhile_cons_of_pos hN, takeWhile_stop P R hP hR, List.length_cons, List.take_succ_cons, List.take_left]
theorem one_num {c : UInt8} (n v : Nat) (P R : List UInt8) (hl : isL c = false) (hc : isD c = true) (hP : P.all isN = true) (hR : R.takeWhile isN = []) (hv : numF 0 (c :: P) = some v) : oneL n (c :: (P ++ R)) = some (⟨2, ⟨#[]⟩, v, n⟩, P.length + 1) := by
  have hN : isN c = true := by unfold isN; rw [hc]; simp
  rw [oneL_cons]
  rw [if_neg (by rw [hl]; decide), if_pos hc, List.takeWhile_cons_of_pos hN, takeWhile_stop P R hP hR, List.length_cons, List.take_succ_cons, List.take_left, hv]

end Go.Proofs.YtahhbgfibelfaaaDoor
