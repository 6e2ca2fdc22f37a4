import Derived.Test.YtkkmjfpmhbafoaaDoorL3
import Derived.Laws.Strings2
import Derived.Laws.Strings3
namespace Go.Proofs.YtkkmjfpmhbafoaaDoor
open Go.RowKit Go.Lib
set_option linter.unusedVariables false

theorem extract_one {s : ByteArray} {j : Nat} (h : j < s.size) : s.extract j (j + 1) = ⟨#[s[j]]⟩ := by
  apply ByteArray.ext
  have h' : j < s.data.size := h
  rw [ByteArray.data_extract]
  apply Array.ext
  · simp; omega
  · intro i h1 h2
    have : i = 0 := by simpa using h2
    subst this
    simp [ByteArray.getElem_eq_getElem_data]
theorem slice_nat {s : ByteArray} {a b : Nat} (h1 : a ≤ b) (h2 : b ≤ s.size) (w : World) : (Instr.slice 9 (.string s) (some (.int .i64 (a : Int))) (some (.int .i64 (b : Int))) none).run Tryd.prog w = .ok (.string (s.extract a b)) w := by
  rw [run_slice_string w 9 s .i64 .i64 a b Tryd.underlying9 (by omega) (by omega) (by omega)]
  rfl
theorem slice_one {s : ByteArray} {m : Nat} (h : m < s.size) (w : World) : (Instr.slice 9 (.string s) (some (.int .i64 (m : Int))) (some (.int .i64 ((m : Int) + 1))) none).run Tryd.prog w = .ok (.string ⟨#[s[m]]⟩) w := by
  rw [show ((m : Int) + 1) = ((m + 1 : Nat) : Int) by omega, slice_nat (by omega) (by omega), extract_one h]
theorem mk_push (acc : List UInt8) (c : UInt8) : (⟨acc.toArray⟩ : ByteArray) ++ ⟨#[c]⟩ = ⟨(acc ++ [c]).toArray⟩ := by
  apply ByteArray.ext
  simp [ByteArray.data_append]
theorem mk_size (acc : List UInt8) : (⟨acc.toArray⟩ : ByteArray).size = acc.length := by
  show acc.toArray.size = _
  simp

def txtRet : Option (List UInt8 × Nat) → Ending
  | some (t, m) => .returned (.tuple #[.string ⟨t.toArray⟩, .int .i64 m])
  | none => .returned (.tuple #[.string ⟨#[]⟩, .int .i64 0])

theorem txt_34 {c : UInt8} {r acc : List UInt8} {k : Nat} (h : c.toNat = 34) : txt (c :: r) acc k = some (acc, k + 1) := by
  rw [txt.eq_def]; simp only [if_pos h]
theorem txt_32 {c : UInt8} {r acc : List UInt8} {k : Nat} (h0 : ¬ c.toNat = 34) (h : c.toNat < 32) : txt (c :: r) acc k = none := by
  rw [txt.eq_def]; simp only [if_neg h0, if_pos h]
theorem txt_92 {c d : UInt8} {r acc : List UInt8} {k : Nat} (h : c.toNat = 92) (hd : d.toNat = 34 ∨ d.toNat = 92) : txt (c :: d :: r) acc k = txt r (acc ++ [d]) (k + 2) := by
  rw [txt.eq_def]; simp only [if_neg (show ¬ c.toNat = 34 by omega), if_neg (show ¬ c.toNat < 32 by omega), if_pos h, if_pos hd]
theorem txt_92n {c d : UInt8} {r acc : List UInt8} {k : Nat} (h : c.toNat = 92) (hd : ¬ (d.toNat = 34 ∨ d.toNat = 92)) : txt (c :: d :: r) acc k = none := by
  rw [txt.eq_def]; simp only [if_neg (show ¬ c.toNat = 34 by omega), if_neg (show ¬ c.toNat < 32 by omega), if_pos h, if_neg hd]
theorem txt_92e {c : UInt8} {acc : List UInt8} {k : Nat} (h : c.toNat = 92) : txt [c] acc k = none := by
  rw [txt.eq_def]; simp only [if_neg (show ¬ c.toNat = 34 by omega), if_neg (show ¬ c.toNat < 32 by omega), if_pos h]
theorem txt_go {c : UInt8} {r acc : List UInt8} {k : Nat} (h0 : ¬ c.toNat = 34) (h1 : ¬ c.toNat < 32) (h2 : ¬ c.toNat = 92) : txt (c :: r) acc k = txt r (acc ++ [c]) (k + 1) := by
  rw [txt.eq_def]; simp only [if_neg h0, if_neg h1, if_neg h2]

set_option maxHeartbeats 2000000 in
set_option maxRecDepth 10000 in
theorem text_ref (s : ByteArray) (n : Nat) (hn : n < s.size) (hs : s.size ≤ 1000000) (w : World) :
    Calls Tryd.prog 19 #[.string s, .int .i64 n] w fun e w' => e = txtRet (txt (rem s (n + 1)) [] 1) ∧ w = w' := by
  generalize hk : txt (rem s (n + 1)) [] 1 = R at *
  have HK := Lib.hid hk
  clear hk
  go_enter Tryd.func19, Tryd.ntmps19
  go_wp2_with fail
  go_loopg [6, 7] (s.size + 1) (fun q a i wr => ∃ (acc : List UInt8) (j k : Nat), s.size + 1 ≤ q + j ∧ j = n + k ∧ 1 ≤ k ∧ acc.length ≤ j ∧ a = .string ⟨acc.toArray⟩ ∧ i = .int .i64 (j : Int) ∧ txt (rem s j) acc k = R ∧ wr = w)
  case atStart => exact ⟨[], n + 1, 1, by omega, rfl, by omega, by simp, rfl, by go_num, HK.out, rfl⟩
  case round =>
    obtain ⟨acc, j, k, hj, hjk, hk1, hal, rfl, rfl, hrun, rfl⟩ := hrel
    have HF : Hid (s.size + 1 ≤ gk + j ∧ j = n + k ∧ acc.length ≤ j) := ⟨hj, hjk, hal⟩
    have hz := mk_size acc
    clear hj hjk
    by_cases hlt : j < s.size
    · rw [rem_cons hlt] at hrun
      have hE := fun w => slice_one hlt w
      have hP := Lib.hid (mk_push acc)
      generalize hS : (⟨acc.toArray⟩ : ByteArray) = S at *
      have HS := Lib.hid hS
      clear hS
      have hz' : S.size ≤ 1000000 := by omega
      clear hz hal
      generalize hc : s[j] = c at *
      have hx : c.toNat < 256 := c.toNat_lt
      by_cases h34 : c.toNat = 34
      · rw [txt_34 h34] at hrun
        have HN := Lib.hid hrun.symm
        clear hrun hP hE
        go_wp2_with fail
        go_ret2
        have := HF.out
        exact ⟨by rw [HN.out]; simp [txtRet, HS.out]; omega, rfl⟩
      · by_cases h32 : c.toNat < 32
        · rw [txt_32 h34 h32] at hrun
          have HN := Lib.hid hrun.symm
          clear hrun hP hE
          go_wp2_with fail
          go_ret2
          exact ⟨by rw [HN.out]; simp [txtRet], rfl⟩
        · by_cases h92 : c.toNat = 92
          · obtain ⟨m, hm⟩ : ∃ m, m = j + 1 := ⟨_, rfl⟩
            have hmi : (j : Int) + 1 = (m : Int) := by omega
            have HM : Hid (m = j + 1) := hm
            rw [← hm] at hrun
            clear hm
            by_cases hlt2 : m < s.size
            · have hE2 := fun w => slice_one hlt2 w
              rw [rem_cons hlt2] at hrun
              generalize hd : s[m] = d at *
              have hx2 : d.toNat < 256 := d.toNat_lt
              have hne : ((m : Int) == (s.size : Int)) = false := by simp; omega
              by_cases hq : d.toNat = 34 ∨ d.toNat = 92
              · rw [txt_92 h92 hq] at hrun
                have HN := Lib.hid hrun
                have HP := Lib.hid (hP.out d)
                clear hrun hP hE
                rcases hq with hq | hq
                all_goals
                  go_wp2_with fail
                  go_roundg (gk - 2)
                  case measure => have := HF.out; have := HM.out; omega
                  case rel => exact ⟨acc ++ [d], m + 1, k + 2, by have := HF.out; have := HM.out; omega, by have := HF.out; have := HM.out; omega, by omega, by have := HF.out; have := HM.out; simp; omega, by rw [HP.out], by go_num, HN.out, rfl⟩
              · rw [txt_92n h92 hq] at hrun
                have HN := Lib.hid hrun.symm
                have hq1 : ¬ d.toNat = 34 := fun h => hq (.inl h)
                have hq2 : ¬ d.toNat = 92 := fun h => hq (.inr h)
                have hb1 : ((d.toNat : Int) != 34) = true := by simp; omega
                have hb2 : ((d.toNat : Int) != 92) = true := by simp; omega
                clear hrun hP hE hq
                go_wp2_with fail
                go_ret2
                exact ⟨by rw [HN.out]; simp [txtRet], rfl⟩
            · have hme : m = s.size := by have := HM.out; omega
              rw [rem_nil (by omega), txt_92e h92] at hrun
              have HN := Lib.hid hrun.symm
              have hms : ((m : Int) == (s.size : Int)) = true := by simp; omega
              clear hrun hP hE hme
              go_wp2_with fail
              go_ret2
              exact ⟨by rw [HN.out]; simp [txtRet], rfl⟩
          · rw [txt_go h34 h32 h92] at hrun
            have HN := Lib.hid hrun
            have HP := Lib.hid (hP.out c)
            clear hrun hP
            go_wp2_with fail
            go_roundg (gk - 1)
            case measure => have := HF.out; omega
            case rel => exact ⟨acc ++ [c], j + 1, k + 1, by have := HF.out; omega, by have := HF.out; omega, by omega, by have := HF.out; simp; omega, by rw [HP.out], by go_num, HN.out, rfl⟩
    · rw [rem_nil (by omega), txt] at hrun
      have HN := Lib.hid hrun.symm
      clear hrun
      go_wp2_with fail
      go_ret2
      exact ⟨by rw [HN.out]; simp [txtRet], rfl⟩
end Go.Proofs.YtkkmjfpmhbafoaaDoor
