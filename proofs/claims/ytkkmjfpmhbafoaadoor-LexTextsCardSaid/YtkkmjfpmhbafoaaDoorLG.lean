import Derived.Test.YtkkmjfpmhbafoaaDoorLF
import Derived.HandedShaped
namespace Go.Proofs.YtkkmjfpmhbafoaaDoor
open Go.RowKit Go.Lib
set_option linter.unusedVariables false

/-- The library's variable of how long a text may be holds some number. -/
def HasM (w : World) : Prop := ∃ m : Int, w.cell? ⟨3, 0, none⟩ = some (.int .i64 m)
theorem HasM.below {w w' : World} (h : HasM w) (hb : Below w.heap.size w w') : HasM w' := by
  obtain ⟨m, hm⟩ := h
  have hlt : 3 < w.heap.size := World.block_lt_of_cell? w _ hm
  exact ⟨m, by rw [World.cell?_of_block (w := w) (hb.block 3 hlt)]; exact hm⟩

theorem countB_le (s old : ByteArray) : Lib.countB s old ≤ s.size + 1 := by
  have := Lib.count_le s.data.toList old.data.toList
  rw [Array.length_toList] at this
  exact this

def flat92 (s : ByteArray) : ByteArray := ⟨(s.data.toList.flatMap fun c => if c = 92 then [92, 92] else [c]).toArray⟩
theorem replace_92 (s : ByteArray) (hs : s.size ≤ 100000) (w : World) (hM : HasM w) :
    Calls Tryd.prog 21 #[.string s, .string ⟨#[92]⟩, .string ⟨#[92, 92]⟩] w fun e w' => e = .returned (.string (flat92 s)) ∧ Below w.heap.size w w' := by
  obtain ⟨m, hm⟩ := hM
  have hc := countB_le s ⟨#[92]⟩
  refine (Tryd.strings_ReplaceAll s ⟨#[92]⟩ ⟨#[92, 92]⟩ m w (by omega) hm (by decide) ?_).mono fun e w' ⟨he, hb⟩ => ⟨?_, hb⟩
  · have : (⟨#[92, 92]⟩ : ByteArray).size = 2 := rfl
    rw [this]; omega
  · rw [he]
    unfold flat92
    rw [← replaceAll_flat (b := 92) (new := [92, 92]) (by decide)]
def flat34 (s : ByteArray) : ByteArray := ⟨(s.data.toList.flatMap fun c => if c = 34 then [92, 34] else [c]).toArray⟩
theorem replace_34 (s : ByteArray) (hs : s.size ≤ 100000) (w : World) (hM : HasM w) :
    Calls Tryd.prog 21 #[.string s, .string ⟨#[34]⟩, .string ⟨#[92, 34]⟩] w fun e w' => e = .returned (.string (flat34 s)) ∧ Below w.heap.size w w' := by
  obtain ⟨m, hm⟩ := hM
  have hc := countB_le s ⟨#[34]⟩
  refine (Tryd.strings_ReplaceAll s ⟨#[34]⟩ ⟨#[92, 34]⟩ m w (by omega) hm (by decide) ?_).mono fun e w' ⟨he, hb⟩ => ⟨?_, hb⟩
  · have : (⟨#[92, 34]⟩ : ByteArray).size = 2 := rfl
    rw [this]; omega
  · rw [he]
    unfold flat34
    rw [← replaceAll_flat (b := 34) (new := [92, 34]) (by decide)]
theorem flat92_size (s : ByteArray) : (flat92 s).size ≤ 2 * s.size := by
  have key : ∀ l : List UInt8, (l.flatMap fun c => if c = 92 then [92, 92] else [c]).length ≤ 2 * l.length := fun l => by
    induction l with
    | nil => simp
    | cons c r ih =>
      rw [List.flatMap_cons, List.length_append, List.length_cons]
      have : (if c = 92 then [92, 92] else [c] : List UInt8).length ≤ 2 := by split <;> simp
      omega
  have := key s.data.toList
  rw [Array.length_toList] at this
  show (List.toArray _).size ≤ _
  rw [List.size_toArray]
  exact this
theorem quo_parts (s : ByteArray) : (⟨#[34]⟩ : ByteArray) ++ flat34 (flat92 s) ++ ⟨#[34]⟩ = quoB s := by
  apply ByteArray.ext
  rw [ByteArray.data_append, ByteArray.data_append]
  unfold flat34 flat92 quoB quo
  simp only [esc_two]
  simp
theorem flat34_size (s : ByteArray) : (flat34 (flat92 s)).size + 2 = (quoB s).size := by
  rw [← quo_parts, ByteArray.size_append, ByteArray.size_append, show (⟨#[34]⟩ : ByteArray).size = 1 from rfl]
  omega
theorem quoB_le (s : ByteArray) (hs : s.size ≤ 400) : (quoB s).size ≤ 802 := by
  have h2 := quoB_size s
  have h3 := esc_le s.data.toList
  have h4 : s.data.toList.length = s.size := by rw [Array.length_toList]; rfl
  omega

set_option maxHeartbeats 4000000 in
theorem text_prog (s : ByteArray) (hs : s.size ≤ 400) (w : World) (hM : HasM w) :
    Calls Tryd.prog 10 #[.string s] w fun e w' => e = .returned (.string (quoB s)) ∧ Below w.heap.size w w' := by
  have HR := Lib.hid (replace_92 s (by omega) w hM)
  have hf := flat92_size s
  have HR2 := Lib.hid (fun w hM => replace_34 (flat92 s) (by omega) w hM)
  have hq := quo_parts s
  have hz : (flat34 (flat92 s)).size ≤ 1000 := by
    have := flat34_size s
    have h2 := quoB_le s hs
    omega
  have HQ := Lib.hid hq
  have HM := Lib.hid hM
  clear hf hq hM
  generalize flat34 (flat92 s) = T2 at *
  generalize flat92 s = T1 at *
  generalize quoB s = Q at *
  go_enter Tryd.func10, Tryd.ntmps10
  go_wp2_with fail
  refine HR.out.mono ?_
  rintro e w1 ⟨rfl, hb⟩
  have HB := Lib.hid hb
  have HM1 := Lib.hid (HM.out.below hb)
  clear hb
  go_wp2_with fail
  refine (HR2.out _ HM1.out).mono ?_
  rintro e w2 ⟨rfl, hb⟩
  have HB2 := Lib.hid (HB.out.trans (hb.mono HB.out.size))
  clear hb
  go_wp2_with fail
  go_ret
  exact ⟨by rw [← HQ.out]; rfl, HB2.out⟩

theorem mk_push2 (acc : List UInt8) (c d : UInt8) : (⟨acc.toArray⟩ : ByteArray) ++ ⟨#[c]⟩ ++ ⟨#[d]⟩ = ⟨(acc ++ [c, d]).toArray⟩ := by
  rw [mk_push, mk_push, List.append_assoc]; rfl

set_option maxHeartbeats 4000000 in
set_option maxRecDepth 10000 in
theorem text_other (s : ByteArray) (hs : s.size ≤ 400) (w : World) :
    Calls Tryd.prog 11 #[.string s] w fun e w' => e = .returned (.string (quoB s)) ∧ w = w' := by
  have hq : (34 : UInt8) :: ((rem s 0).flatMap esc ++ [34]) = quo s.data.toList := rfl
  have HQ : Hid (quoB s = ⟨(34 :: ((rem s 0).flatMap esc ++ [34]) : List UInt8).toArray⟩) := by show _ = _; rw [hq]; rfl
  clear hq
  generalize quoB s = Q at *
  go_enter Tryd.func11, Tryd.ntmps11
  go_wp2_with fail
  go_loopg [3, 4] s.size (fun q o i wr => ∃ (acc : List UInt8) (j : Nat), q + j = s.size ∧ i = .int .i64 (j : Int) ∧ o = .string ⟨acc.toArray⟩ ∧ acc.length ≤ 2 * j + 1 ∧ acc ++ (rem s j).flatMap esc = 34 :: (rem s 0).flatMap esc ∧ wr = w)
  case atStart => exact ⟨[34], 0, by omega, rfl, rfl, by simp, rfl, rfl⟩
  case round =>
    obtain ⟨acc, j, hj, rfl, rfl, hal, hrun, rfl⟩ := hrel
    have hz := mk_size acc
    have HF : Hid (acc.length ≤ 2 * j + 1) := hal
    by_cases hlt : j < s.size
    · rw [rem_cons hlt, List.flatMap_cons] at hrun
      have hE := fun w => slice_one hlt w
      have HP := Lib.hid (mk_push acc s[j])
      have HP2 := Lib.hid (mk_push2 acc 92 s[j])
      generalize hS : (⟨acc.toArray⟩ : ByteArray) = S at *
      have HS := Lib.hid hS
      clear hS
      have hz' : S.size ≤ 1000 := by omega
      clear hz hal
      generalize hc : s[j] = c at *
      by_cases h34 : c = 34
      · subst h34
        have HN := Lib.hid (show (acc ++ [92, 34]) ++ (rem s (j + 1)).flatMap esc = 34 :: (rem s 0).flatMap esc by rw [← hrun]; simp [esc])
        clear hrun
        go_wp2_with fail
        go_roundg (gk - 1)
        case measure => omega
        case rel => exact ⟨acc ++ [92, 34], j + 1, by omega, by go_num, by rw [HP2.out], by have := HF.out; simp; omega, HN.out, rfl⟩
      · by_cases h92 : c = 92
        · subst h92
          have HN := Lib.hid (show (acc ++ [92, 92]) ++ (rem s (j + 1)).flatMap esc = 34 :: (rem s 0).flatMap esc by rw [← hrun]; simp [esc])
          clear hrun h34
          go_wp2_with fail
          go_roundg (gk - 1)
          case measure => omega
          case rel => exact ⟨acc ++ [92, 92], j + 1, by omega, by go_num, by rw [HP2.out], by have := HF.out; simp; omega, HN.out, rfl⟩
        · have HN := Lib.hid (show (acc ++ [c]) ++ (rem s (j + 1)).flatMap esc = 34 :: (rem s 0).flatMap esc by rw [← hrun]; simp [esc, h34, h92])
          have n1 : ¬ c.toNat = 92 := fun h => h92 (UInt8.toNat_inj.1 h)
          have n2 : ¬ c.toNat = 34 := fun h => h34 (UInt8.toNat_inj.1 h)
          have b1 : ((c.toNat : Int) == 34) = false := by simp; omega
          have b2 : ((c.toNat : Int) == 92) = false := by simp; omega
          clear hrun h34 h92
          go_wp2_with fail
          go_roundg (gk - 1)
          case measure => omega
          case rel => exact ⟨acc ++ [c], j + 1, by omega, by go_num, by rw [HP.out], by have := HF.out; simp; omega, HN.out, rfl⟩
    · rw [rem_nil (by omega), List.flatMap_nil, List.append_nil] at hrun
      have HN : Hid ((⟨acc.toArray⟩ : ByteArray) ++ ⟨#[34]⟩ = Q) := by
        show _ = _
        rw [HQ.out, mk_push, hrun]; rfl
      generalize (⟨acc.toArray⟩ : ByteArray) = S at *
      clear hrun
      go_wp2_with fail
      go_ret
      exact ⟨by rw [← HN.out]; rfl, rfl⟩

/-- What LexTexts looks at. -/
theorem texts_post {s : ByteArray} {w w' : World} {e : Ending} (hs : s.size ≤ 400) (h : WordsPost (quoB s) w e w') :
    (plainB s = false ∧ ∃ n : Nat, e = .returned (.tuple #[.slice none 0 0, .int .i64 n, .int .i64 320])) ∨
    (plainB s = true ∧ ∃ g o cap : Nat, e = .returned (.tuple #[.slice (some ⟨g, o, none⟩) 2 cap, .int .i64 0, .int .i64 0]) ∧ g < w'.heap.size ∧ Lies w' g o [⟨3, s, 0, 0⟩, ⟨0, ⟨#[]⟩, 0, (quoB s).size⟩]) := by
  obtain ⟨hb, h⟩ := h
  have hz : ¬ 1000 < (quoB s).size := by
    have h2 := quoB_le s hs
    omega
  rw [if_neg hz, quo_words s hs] at h
  cases hp : plainB s with
  | false =>
    rw [hp] at h
    exact .inl ⟨rfl, 0, h⟩
  | true =>
    rw [hp] at h
    obtain ⟨v, n, _, rfl, hm⟩ := h
    rw [show wc 0 ⟨#[]⟩ 0 (quoB s).size = (⟨0, ⟨#[]⟩, 0, (quoB s).size⟩ : Wd).cells from rfl, flat_snoc] at hm
    obtain ⟨g, o, cap, rfl, hg, hl⟩ := words_form hm (by simp)
    exact .inr ⟨rfl, g, o, cap, rfl, hg, hl⟩

set_option maxHeartbeats 4000000 in
set_option maxRecDepth 10000 in
theorem lextexts_walk (s : ByteArray) (hs : s.size ≤ 9223372036854775807) (w : World) (hL : Laid w) (hM : HasM w) :
    Calls Tryd.prog 5 #[.string s] w fun e w' => e = .returned (.bool true) ∧ Below w.heap.size w w' := by
  have HL := Lib.hid hL
  have HMM := Lib.hid hM
  obtain ⟨k, hk⟩ : ∃ k : Nat, k = min s.size 400 := ⟨_, rfl⟩
  have hks : k ≤ s.size ∧ k ≤ 400 := by omega
  have hmin : min (s.size : Int) 400 = (k : Int) := by omega
  have hE : ∀ w, (Instr.slice 9 (.string s) none (some (.int .i64 (k : Int))) none).run Tryd.prog w = .ok (.string (s.extract 0 k)) w := fun w => by
    rw [run_slice_string_to_if w 9 s .i64 k Tryd.underlying9, if_pos (by omega)]
    rfl
  have hT : (s.extract 0 k).size ≤ 400 := by rw [ByteArray.size_extract]; omega
  generalize s.extract 0 k = T at *
  have HT := Lib.hid hT
  have HTP := Lib.hid (text_prog T hT w hM)
  have HTO := Lib.hid (text_other T hT)
  have HQZ : Hid ((quoB T).size ≤ 1000) := by
    have h2 := quoB_le T hT
    show _ ≤ _
    omega
  have hTs : T.size ≤ 400 := hT
  clear hL hM hk hT
  go_enter Tryd.func5, Tryd.ntmps5
  go_wp2_with fail
  go_loopg [4, 5] T.size (fun q b i wr => ∃ (j : Nat) (p : Bool), q + j = T.size ∧ i = .int .i64 (j : Int) ∧ b = .bool p ∧ (p && (rem T j).all fun c => decide (32 ≤ c.toNat)) = plainB T ∧ wr = w)
  case atStart => exact ⟨0, true, by omega, rfl, rfl, by rw [Bool.true_and]; rfl, rfl⟩
  case round =>
    obtain ⟨j, p, hj, rfl, rfl, hp, rfl⟩ := hrel
    by_cases hlt : j < T.size
    · rw [rem_cons hlt, List.all_cons, ← Bool.and_assoc] at hp
      generalize hc : T[j] = c at *
      have hx : c.toNat < 256 := c.toNat_lt
      have HP := Lib.hid hp
      clear hp
      cases p with
      | true =>
        go_wp2_with fail
        go_roundg (gk - 1)
        case measure => omega
        case rel => exact ⟨j + 1, decide (32 ≤ c.toNat), by omega, by go_num, by (first | rfl | (simp; done) | (congr 1; rw [Bool.eq_iff_iff]; simp; omega)), by have := HP.out; simpa using this, rfl⟩
      | false =>
        go_wp2_with fail
        go_roundg (gk - 1)
        case measure => omega
        case rel => exact ⟨j + 1, false, by omega, by go_num, rfl, by have := HP.out; simpa using this, rfl⟩
    · rw [rem_nil (by omega), List.all_nil, Bool.and_true] at hp
      subst hp
      go_wp2_with fail
      refine HTP.out.mono ?_
      rintro e w1 ⟨rfl, hb1⟩
      have HB1 := Lib.hid hb1
      have HL1 := Lib.hid (HL.out.below (w0 := wr) hb1)
      have HWD := Lib.hid ((words_lex (quoB T) w1 (by have := HQZ.out; omega) HL1.out).mono fun e w' h => (⟨texts_post HT.out h, h.1⟩ : _ ∧ Below w1.heap.size w1 w'))
      clear hb1
      have HQS := Lib.hid (rfl : (quoB T).size = (quoB T).size)
      generalize quoB T = Q at *
      go_wp2_with fail
      refine HWD.out.mono ?_
      rintro e w2 ⟨hcase, hb2⟩
      have HB2 := Lib.hid (HB1.out.trans (hb2.mono HB1.out.size))
      have HAW := Lib.hid (awake_ok w2 (HL1.out.below (w0 := w1) hb2))
      clear hb2
      rcases hcase with ⟨hpl, n, rfl⟩ | ⟨hpl, g, o, cap, rfl, hg, hl⟩
      · rw [hpl]
        go_wp2_with fail
        refine HAW.out.mono ?_
        rintro e w3 ⟨rfl, hb3⟩
        have HB3 := Lib.hid (HB2.out.trans (hb3.mono HB2.out.size))
        clear hb3
        go_wp2_with fail
        refine (HTO.out _).mono ?_
        rintro e w4 ⟨rfl, rfl⟩
        go_wp2_with fail
        go_ret
        exact ⟨by simp, HB3.out⟩
      · rw [hpl]
        have HLI := Lib.hid hl
        have HG := Lib.hid hg
        clear hl hg
        go_wp2_with fail
        refine HAW.out.mono ?_
        rintro e w3 ⟨rfl, hb3⟩
        have HB3 := Lib.hid (HB2.out.trans (hb3.mono HB2.out.size))
        have hl3 := HLI.out.below hb3 HG.out
        have a0 := hl3 0 (by simp) 0 _ (by omega) rfl
        have a1 := hl3 0 (by simp) 1 _ (by omega) rfl
        have a2 := hl3 0 (by simp) 2 _ (by omega) rfl
        have a3 := hl3 0 (by simp) 3 _ (by omega) rfl
        have b3 := hl3 1 (by simp) 3 _ (by omega) rfl
        simp only [List.getElem_cons_zero, List.getElem_cons_succ, Nat.zero_mul, Nat.zero_add, Nat.add_zero, ← Nat.add_assoc] at a0 a1 a2 a3 b3
        clear hb3 hl3
        go_wp2_with fail
        refine (HTO.out _).mono ?_
        rintro e w4 ⟨rfl, rfl⟩
        go_wp2_with fail
        go_ret
        exact ⟨by simp, HB3.out⟩
end Go.Proofs.YtkkmjfpmhbafoaaDoor
