import Derived.Test.YtahhbgfibelfaaaDoorCore
import Derived.Lib.Bytealg
import Derived.Lib.AtoiErrMem
import Derived.Lib.ParseIntBMem
namespace Go.Proofs.YtahhbgfibelfaaaDoor
open Go.RowKit Go.Lib
set_option linter.unusedVariables false



/-! ### The words of a text, in plain Lean -/
def isL (c : UInt8) : Bool := (decide (97 ≤ c.toNat) && decide (c.toNat ≤ 122)) || (decide (65 ≤ c.toNat) && decide (c.toNat ≤ 90)) || c.toNat == 95
def isD (c : UInt8) : Bool := decide (48 ≤ c.toNat) && decide (c.toNat ≤ 57)
def isB (c : UInt8) : Bool := c.toNat == 32 || c.toNat == 9 || c.toNat == 10
def isN (c : UInt8) : Bool := isL c || isD c

/-- What is left of a text from a place on. -/
def rem (s : ByteArray) (n : Nat) : List UInt8 := s.data.toList.drop n
theorem rem_cons {s : ByteArray} {n : Nat} (h : n < s.size) : rem s n = s[n] :: rem s (n + 1) := by
  unfold rem
  have h' : n < s.data.toList.length := by rw [Array.length_toList]; exact h
  rw [List.drop_eq_getElem_cons h']
  rfl
theorem rem_nil {s : ByteArray} {n : Nat} (h : s.size ≤ n) : rem s n = [] := by
  unfold rem
  exact List.drop_eq_nil_of_le (by rw [Array.length_toList]; exact h)
theorem rem_length (s : ByteArray) (n : Nat) : (rem s n).length = s.size - n := by
  unfold rem; rw [List.length_drop, Array.length_toList]; rfl
theorem rem_drop (s : ByteArray) (n k : Nat) : (rem s n).drop k = rem s (n + k) := by
  unfold rem; rw [List.drop_drop]

/-- How many bytes from a place on are such. -/
def runs (p : UInt8 → Bool) (s : ByteArray) (n : Nat) : Nat := ((rem s n).takeWhile p).length
theorem runs_le (p : UInt8 → Bool) (s : ByteArray) (n : Nat) : runs p s n ≤ s.size - n := by
  unfold runs
  rw [← rem_length]
  exact (List.takeWhile_sublist p).length_le
theorem runs_step {p : UInt8 → Bool} {s : ByteArray} {n : Nat} (h : n < s.size) (hp : p s[n] = true) : runs p s n = runs p s (n + 1) + 1 := by
  unfold runs; rw [rem_cons h, List.takeWhile_cons_of_pos hp]; rfl
theorem runs_stop {p : UInt8 → Bool} {s : ByteArray} {n : Nat} (h : n < s.size) (hp : p s[n] = false) : runs p s n = 0 := by
  unfold runs; rw [rem_cons h, List.takeWhile_cons_of_neg (by simp [hp])]; rfl
theorem runs_end {p : UInt8 → Bool} {s : ByteArray} {n : Nat} (h : s.size ≤ n) : runs p s n = 0 := by
  unfold runs; rw [rem_nil h]; rfl
theorem runs_at {p : UInt8 → Bool} {s : ByteArray} (n k : Nat) (hk : k < runs p s n) : ∃ h : n + k < s.size, p s[n + k] = true := by
  induction k generalizing n with
  | zero =>
    have hn : n < s.size := by
      rcases Nat.lt_or_ge n s.size with h | h
      · exact h
      · rw [runs_end h] at hk; omega
    refine ⟨hn, ?_⟩
    cases hp : p s[n + 0] with
    | true => rfl
    | false => rw [runs_stop hn (by simpa using hp)] at hk; omega
  | succ k ih =>
    have hn : n < s.size := by
      rcases Nat.lt_or_ge n s.size with h | h
      · exact h
      · rw [runs_end h] at hk; omega
    cases hp : p s[n] with
    | false => rw [runs_stop hn hp] at hk; omega
    | true =>
      rw [runs_step hn hp] at hk
      obtain ⟨h, hq⟩ := ih (n + 1) (by omega)
      refine ⟨by omega, ?_⟩
      simpa [Nat.add_assoc, Nat.add_comm 1 k] using hq
theorem runs_off {p : UInt8 → Bool} {s : ByteArray} {n : Nat} (h : n + runs p s n < s.size) : p s[n + runs p s n] = false := by
  generalize hk : runs p s n = k at *
  induction k generalizing n with
  | zero =>
    cases hp : p s[n + 0] with
    | false => rfl
    | true => rw [runs_step (n := n) (by simpa using h) (by simpa using hp)] at hk; omega
  | succ k ih =>
    have hn : n < s.size := by omega
    cases hp : p s[n] with
    | false => rw [runs_stop hn hp] at hk; omega
    | true =>
      rw [runs_step hn hp] at hk
      have := ih (n := n + 1) (by omega) (by omega)
      simpa [Nat.add_assoc, Nat.add_comm 1 k] using this

/-- The number of digits. -/
def numF : Nat → List UInt8 → Option Nat
  | acc, [] => some acc
  | acc, c :: r => if isD c = true ∧ acc ≤ (9223372036854775807 - (c.toNat - 48)) / 10 then numF (acc * 10 + (c.toNat - 48)) r else none

def Big (x : NumEnd Nat) : Prop := x = .«syntax» ∨ x = .range ∨ ∃ u, x = .ok u ∧ 9223372036854775808 ≤ u
theorem pu_big : ∀ (l : List UInt8) (acc : Nat), 9223372036854775808 ≤ acc → Big (parseUintM 18446744073709551615 acc l)
  | [], acc, h => .inr (.inr ⟨acc, rfl, h⟩)
  | c :: r, acc, h => by
    unfold parseUintM
    split
    · split
      · exact .inr (.inl rfl)
      · split
        · exact .inr (.inl rfl)
        · exact pu_big r _ (by omega)
    · exact .inl rfl
theorem pu_num : ∀ (l : List UInt8) (acc : Nat), acc ≤ 9223372036854775807 → (∀ v, numF acc l = some v → parseUintM 18446744073709551615 acc l = .ok v ∧ v ≤ 9223372036854775807) ∧ (numF acc l = none → Big (parseUintM 18446744073709551615 acc l))
  | [], acc, h => ⟨fun v e => by simp only [numF, Option.some.injEq] at e; subst e; exact ⟨rfl, h⟩, fun e => by simp [numF] at e⟩
  | c :: r, acc, h => by
    have ih := pu_num r (acc * 10 + (c.toNat - 48))
    unfold numF parseUintM
    by_cases hd : 48 ≤ c.toNat ∧ c.toNat ≤ 57
    · have hD : isD c = true := by unfold isD; simp [hd]
      rw [if_pos hd]
      by_cases ha : acc ≤ (9223372036854775807 - (c.toNat - 48)) / 10
      · rw [if_pos ⟨hD, ha⟩, if_neg (by omega), if_neg (by omega)]
        exact ih (by omega)
      · rw [if_neg (fun h => ha h.2)]
        refine ⟨(fun v e => by cases e), fun _ => ?_⟩
        split
        · exact .inr (.inl rfl)
        · split
          · exact .inr (.inl rfl)
          · exact pu_big _ _ (by omega)
    · have hD : isD c = false := by unfold isD; simp only [Bool.and_eq_false_iff, decide_eq_false_iff_not]; omega
      rw [if_neg hd, if_neg (by rw [hD]; simp)]
      exact ⟨(fun v e => by cases e), fun _ => .inl rfl⟩

theorem pi_num {c : UInt8} {r : List UInt8} (hc : isD c = true) :
    (∀ v : Nat, numF 0 (c :: r) = some v → parseIntB 64 (c :: r) = .ok (v : Int)) ∧ (numF 0 (c :: r) = none → parseIntB 64 (c :: r) = .«syntax» ∨ parseIntB 64 (c :: r) = .range) := by
  have hd : 48 ≤ c.toNat ∧ c.toNat ≤ 57 := by unfold isD at hc; simpa using hc
  have h43 : ¬ (c.toNat = 43) := by omega
  have h45 : ¬ (c.toNat = 45) := by omega
  have key := pu_num (c :: r) 0 (by omega)
  have e : parseUintB 64 (c :: r) = parseUintM 18446744073709551615 0 (c :: r) := by
    unfold parseUintB; rw [if_neg (by simp)]
  unfold parseIntB
  simp only [h43, h45, or_self, if_false, e]
  refine ⟨fun v hv => ?_, fun hn => ?_⟩
  · obtain ⟨h1, h2⟩ := key.1 v hv
    rw [h1]
    simp only [not_false_eq_true, true_and, false_and, if_false]
    rw [if_neg (by simp only [Nat.reducePow, Nat.reduceSub]; omega)]
  · rcases key.2 hn with h | h | ⟨u, h, hu⟩ <;> rw [h]
    · exact .inl rfl
    · exact .inr rfl
    · right
      simp only [not_false_eq_true, true_and, false_and, if_false]
      rw [if_pos (by simp only [Nat.reducePow, Nat.reduceSub]; omega)]

theorem numF_digits : ∀ (l : List UInt8) (acc v : Nat), numF acc l = some v → ∀ c ∈ l, isD c = true
  | [], _, _, _ => by simp
  | c :: r, acc, v, h => by
    unfold numF at h
    split at h
    · rename_i hc
      intro x hx
      rcases List.mem_cons.1 hx with rfl | hx
      · exact hc.1
      · exact numF_digits r _ _ h x hx
    · cases h

/-- A text in quotes, behind the first one: what it says, and how many bytes are taken. -/
def txt : List UInt8 → List UInt8 → Nat → Option (List UInt8 × Nat)
  | [], _, _ => none
  | c :: r, acc, n =>
    if c.toNat = 34 then some (acc, n + 1) else if c.toNat < 32 then none
    else if c.toNat = 92 then
      match r with
      | [] => none
      | d :: r' => if d.toNat = 34 ∨ d.toNat = 92 then txt r' (acc ++ [d]) (n + 2) else none
    else txt r (acc ++ [c]) (n + 1)

/-- How many bytes the mark has that stands ahead; 0: there is none. -/
def mk2 (a b : UInt8) : Bool := (a.toNat == 45 && b.toNat == 62) || (a.toNat == 60 && b.toNat == 45) || (a.toNat == 33 && b.toNat == 61) || (a.toNat == 60 && b.toNat == 61) || (a.toNat == 62 && b.toNat == 61)
def mk1 (a : UInt8) : Bool := [40, 41, 91, 93, 123, 125, 58, 44, 46, 45, 60, 62, 61].contains a.toNat
def mk : List UInt8 → Nat
  | [] => 0
  | [a] => if mk1 a then 1 else 0
  | a :: b :: _ => if mk2 a b then 2 else if mk1 a then 1 else 0
theorem mk_le (l : List UInt8) : mk l ≤ l.length := by
  match l with
  | [] => exact Nat.le_refl _
  | [a] => show (if mk1 a then 1 else 0) ≤ 1; split <;> omega
  | a :: b :: r =>
    show (if mk2 a b then 2 else if mk1 a then 1 else 0) ≤ r.length + 1 + 1
    split
    · omega
    · split <;> omega

/-- A word's cells. -/
def wc (k : Int) (S : ByteArray) (v : Int) (n : Nat) : List Value := [.int .i64 k, .string S, .int .i64 v, .int .i64 n]

/-- The word at a place, and how many bytes it takes; 0: it is none. -/
def oneS (s : ByteArray) (n : Nat) : List Value × Nat :=
  match rem s n with
  | [] => ([], 0)
  | c :: r =>
    if isL c then (wc 1 (s.extract n (n + runs isN s n)) 0 n, runs isN s n)
    else if isD c then
      match numF 0 ((rem s n).take (runs isN s n)) with
      | some v => (wc 2 ⟨#[]⟩ v n, runs isN s n)
      | none => ([], 0)
    else if c.toNat = 34 then
      match txt r [] 1 with
      | some (t, m) => (wc 3 ⟨t.toArray⟩ 0 n, m)
      | none => ([], 0)
    else (wc 4 (s.extract n (n + mk (rem s n))) 0 n, mk (rem s n))

/-- All words from a place on. -/
def wds (s : ByteArray) : Nat → Nat → List Value → Nat ⊕ List Value
  | 0, _, out => .inr out
  | f + 1, n, out =>
    if h : n < s.size then
      if isB s[n] then wds s f (n + 1) out
      else if (oneS s n).2 = 0 then .inl n
      else wds s f (n + (oneS s n).2) (out ++ (oneS s n).1)
    else .inr out

theorem wds_skip (s : ByteArray) : ∀ (k f n : Nat) (out : List Value), runs isB s n = k → s.size - n < f → ∃ f', wds s f n out = wds s f' (n + k) out ∧ s.size - (n + k) < f'
  | 0, f, n, out, _, h => ⟨f, rfl, h⟩
  | k + 1, f, n, out, hk, h => by
    have h0 := runs_at (p := isB) (s := s) n 0 (by omega)
    obtain ⟨hn, hb⟩ := h0
    have hb' : isB s[n] = true := by simpa using hb
    have hn' : n < s.size := by omega
    rw [runs_step hn' hb'] at hk
    cases f with
    | zero => omega
    | succ f =>
      obtain ⟨f', e, hf⟩ := wds_skip s k f (n + 1) out (by omega) (by omega)
      refine ⟨f', ?_, by omega⟩
      rw [show n + (k + 1) = n + 1 + k by omega, ← e]
      show wds s (f + 1) n out = _
      rw [wds, dif_pos hn', if_pos hb']

theorem txt_bound : ∀ (l acc : List UInt8) (n : Nat) (t : List UInt8) (m : Nat), txt l acc n = some (t, m) → n < m ∧ m ≤ n + l.length
  | [], _, _, _, _, h => by simp [txt] at h
  | c :: r, acc, n, t, m, h => by
    unfold txt at h
    split at h
    · simp only [Option.some.injEq, Prod.mk.injEq] at h
      obtain ⟨-, rfl⟩ := h
      simp
    · split at h
      · cases h
      · split at h
        · split at h
          · cases h
          · split at h
            · rename_i d r' _ 
              have := txt_bound r' _ _ _ _ h
              simp only [List.length_cons]; omega
            · cases h
        · have := txt_bound r _ _ _ _ h
          simp only [List.length_cons]; omega

theorem oneS_le (s : ByteArray) (n : Nat) : (oneS s n).2 ≤ s.size - n := by
  unfold oneS
  have hr := runs_le isN s n
  have hl := rem_length s n
  split
  · simp
  · rename_i c r e
    split
    · exact hr
    · split
      · split
        · exact hr
        · simp
      · split
        · split
          · rename_i t m hm
            have := txt_bound _ _ _ _ _ hm
            rw [e] at hl
            simp only [List.length_cons] at hl
            simp only; omega
          · simp
        · have := mk_le (rem s n)
          simp only; omega
def kwords : List ByteArray := [⟨#[102, 105, 110, 100]⟩, ⟨#[119, 104, 101, 114, 101]⟩, ⟨#[97, 110, 100]⟩, ⟨#[116, 101, 108, 108]⟩, ⟨#[108, 105, 109, 105, 116]⟩, ⟨#[110, 111, 116, 104, 105, 110, 103]⟩]
def opsL : List ByteArray := [⟨#[60]⟩, ⟨#[60, 61]⟩, ⟨#[61]⟩, ⟨#[33, 61]⟩, ⟨#[62, 61]⟩, ⟨#[62]⟩]

end Go.Proofs.YtahhbgfibelfaaaDoor
