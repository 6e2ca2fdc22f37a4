import Derived.Test.YtahhbgfibelfaaaDoorL3
import Derived.Laws.Strings2
import Derived.Laws.Strings3
namespace Go.Proofs.YtahhbgfibelfaaaDoor
open Go.RowKit Go.Lib
set_option linter.unusedVariables false



theorem extract_one {s : ByteArray} {j : Nat} (h : j < s.size) : s.extract j (j + 1) = ⟨#[s[j]]⟩ := by
  apply ByteArray.ext
  have h' : j < s.data.size := h
  rw [ByteArray.data_extract]
  apply Array.ext
  · simp; omega
  · intro i h1 h2
    have : i = 0 := by simpa using h2
    subst this
    simp [ByteArray.getElem_eq_getElem_data]
theorem slice_nat {s : ByteArray} {a b : Nat} (h1 : a ≤ b) (h2 : b ≤ s.size) (w : World) : (Instr.slice 9 (.string s) (some (.int .i64 (a : Int))) (some (.int .i64 (b : Int))) none).run Tryd.prog w = .ok (.string (s.extract a b)) w := by
  rw [run_slice_string w 9 s .i64 .i64 a b Tryd.underlying9 (by omega) (by omega) (by omega)]
  rfl
theorem slice_one {s : ByteArray} {m : Nat} (h : m < s.size) (w : World) : (Instr.slice 9 (.string s) (some (.int .i64 (m : Int))) (some (.int .i64 ((m : Int) + 1))) none).run Tryd.prog w = .ok (.string ⟨#[s[m]]⟩) w := by
  rw [show ((m : Int) + 1) = ((m + 1 : Nat) : Int) by omega, slice_nat (by omega) (by omega), extract_one h]
theorem mk_push (acc : List UInt8) (c : UInt8) : (⟨acc.toArray⟩ : ByteArray) ++ ⟨#[c]⟩ = ⟨(acc ++ [c]).toArray⟩ := by
  apply ByteArray.ext
  simp [ByteArray.data_append]
theorem mk_size (acc : List UInt8) : (⟨acc.toArray⟩ : ByteArray).size = acc.length := by
  show acc.toArray.size = _
  simp

def txtRet : Option (List UInt8 × Nat) → Ending
  | some (t, m) => .returned (.tuple #[.string ⟨t.toArray⟩, .int .i64 m])
  | none => .returned (.tuple #[.string ⟨#[]⟩, .int .i64 0])

theorem txt_34 {c : UInt8} {r acc : List UInt8} {k : Nat} (h : c.toNat = 34) : txt (c :: r) acc k = some (acc, k + 1) := by
  rw [txt.eq_def]; simp only [if_pos h]
theorem txt_32 {c : UInt8} {r acc : List UInt8} {k : Nat} (h0 : ¬ c.toNat = 34) (h : c.toNat < 32) : txt (c :: r) acc k = none := by
  rw [txt.eq_def]; simp only [if_neg h0, if_pos h]
theorem txt_92 {c d : UInt8} {r acc : List UInt8} {k : Nat} (h : c.toNat = 92) (hd : d.toNat = 34 ∨ d.toNat = 92) : txt (c :: d :: r) acc k = txt r (acc ++ [d]) (k + 2) := by
  rw [txt.eq_def]; simp only [if_neg (show ¬ c.toNat = 34 by omega), if_neg (show ¬ c.toNat < 32 by omega), if_pos h, if_pos hd]
theorem txt_92n {c d : UInt8} {r acc : List UInt8} {k : Nat} (h : c.toNat = 92) (hd : ¬ (d.toNat = 34 ∨ d.toNat = 92)) : txt (c :: d :: r) acc k = none := by
  rw [txt.eq_def]; simp only [if_neg (show ¬ c.toNat = 34 by omega), if_neg (show ¬ c.toNat < 32 by omega), if_pos h, if_neg hd]
theorem txt_92e {c : UInt8} {acc : List UInt8} {k : Nat} (h : c.toNat = 92) : txt [c] acc k = none := by
  rw [txt.eq_def]; simp only [if_neg (show ¬ c.toNat = 34 by omega), if_neg (show ¬ c.toNat < 32 by omega), if_pos h]
theorem txt_go {c : UInt8} {r acc : List UInt8} {k : Nat} (h0 : ¬ c.toNat = 34) (h1 : ¬ c.toNat < 32) (h2 : ¬ c.toNat = 92) : txt (c :: r) acc k = txt r (acc ++ [c]) (k + 1) := by
  rw [txt.eq_def]; simp only [if_neg h0, if_neg h1, if_neg h2]

end Go.Proofs.YtahhbgfibelfaaaDoor
