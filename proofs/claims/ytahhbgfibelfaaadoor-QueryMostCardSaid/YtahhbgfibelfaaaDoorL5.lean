import Derived.Test.YtahhbgfibelfaaaDoorL4
namespace Go.Proofs.YtahhbgfibelfaaaDoor
open Go.RowKit Go.Lib
set_option linter.unusedVariables false



theorem extract_two {s : ByteArray} {j : Nat} (h : j + 1 < s.size) : s.extract j (j + 2) = ⟨#[s[j], s[j + 1]]⟩ := by
  apply ByteArray.ext
  have h' : j + 1 < s.data.size := h
  rw [ByteArray.data_extract]
  apply Array.ext
  · simp; omega
  · intro i h1 h2
    have : i = 0 ∨ i = 1 := by simp at h2; omega
    rcases this with rfl | rfl <;> simp [ByteArray.getElem_eq_getElem_data]
theorem slice_two {s : ByteArray} {m : Nat} (h : m + 1 < s.size) (w : World) : (Instr.slice 9 (.string s) (some (.int .i64 (m : Int))) (some (.int .i64 ((m : Int) + 2))) none).run Tryd.prog w = .ok (.string ⟨#[s[m], s[m + 1]]⟩) w := by
  rw [show ((m : Int) + 2) = ((m + 2 : Nat) : Int) by omega, slice_nat (by omega) (by omega), extract_two h]
theorem two_ne {a b : UInt8} {x y : Nat} (hx : x < 256) (hy : y < 256) (h : ¬ (a.toNat = x ∧ b.toNat = y)) : ¬ (⟨#[a, b]⟩ : ByteArray) = ⟨#[UInt8.ofNat x, UInt8.ofNat y]⟩ := by
  intro e
  injection e with e
  simp at e
  apply h
  rw [e.1, e.2]
  simp
  omega
theorem ba_ne {U : ByteArray} {l : List UInt8} (h : ¬ U = ⟨l.toArray⟩) : (U.toList == l) = false := by
  rw [ByteArray.toList_eq]
  cases hb : (U.data.toList == l) with
  | false => rfl
  | true => exact absurd (ByteArray.ext (by have := beq_iff_eq.1 hb; rw [← this])) h
theorem mk1_not {a : UInt8} (h : mk1 a = false) : ∀ x ∈ [40, 41, 91, 93, 123, 125, 58, 44, 46, 45, 60, 62, 61], ¬ a.toNat = x := by
  intro x hx e
  unfold mk1 at h
  rw [e] at h
  have := List.contains_iff_mem.2 hx
  rw [this] at h
  cases h

end Go.Proofs.YtahhbgfibelfaaaDoor
