import Derived.Test.YtkcgnodmjmpnhaaDoorF2
import Derived.Deep.LoopGhost
import Derived.Laws.Strings2
import Derived.Laws.Strings3
import Derived.Lib.ReplaceLaws
namespace Go.Proofs.YtkcgnodmjmpnhaaDoor
open Go.RowKit Go.Shelf Go.Lib Go.Sort
set_option linter.unusedVariables false

/-- What is left of a text from a place on. -/
def rem (s : ByteArray) (n : Nat) : List UInt8 := s.data.toList.drop n
theorem rem_cons {s : ByteArray} {n : Nat} (h : n < s.size) : rem s n = s[n] :: rem s (n + 1) := by
  unfold rem
  have h' : n < s.data.toList.length := by rw [Array.length_toList]; exact h
  rw [List.drop_eq_getElem_cons h']
  rfl
theorem rem_nil {s : ByteArray} {n : Nat} (h : s.size ≤ n) : rem s n = [] := by
  unfold rem
  exact List.drop_eq_nil_of_le (by rw [Array.length_toList]; exact h)
theorem extract_one {s : ByteArray} {j : Nat} (h : j < s.size) : s.extract j (j + 1) = ⟨#[s[j]]⟩ := by
  apply ByteArray.ext
  have h' : j < s.data.size := h
  rw [ByteArray.data_extract]
  apply Array.ext
  · simp; omega
  · intro i h1 h2
    have : i = 0 := by simpa using h2
    subst this
    simp [ByteArray.getElem_eq_getElem_data]
theorem slice_nat {s : ByteArray} {a b : Nat} (h1 : a ≤ b) (h2 : b ≤ s.size) (w : World) : (Instr.slice 9 (.string s) (some (.int .i64 (a : Int))) (some (.int .i64 (b : Int))) none).run Tryd.prog w = .ok (.string (s.extract a b)) w := by
  rw [run_slice_string w 9 s .i64 .i64 a b Tryd.underlying9 (by omega) (by omega) (by omega)]
  rfl
theorem slice_one {s : ByteArray} {m : Nat} (h : m < s.size) (w : World) : (Instr.slice 9 (.string s) (some (.int .i64 (m : Int))) (some (.int .i64 ((m : Int) + 1))) none).run Tryd.prog w = .ok (.string ⟨#[s[m]]⟩) w := by
  rw [show ((m : Int) + 1) = ((m + 1 : Nat) : Int) by omega, slice_nat (by omega) (by omega), extract_one h]
theorem mk_push (acc : List UInt8) (c : UInt8) : (⟨acc.toArray⟩ : ByteArray) ++ ⟨#[c]⟩ = ⟨(acc ++ [c]).toArray⟩ := by
  apply ByteArray.ext
  simp [ByteArray.data_append]
theorem mk_size (acc : List UInt8) : (⟨acc.toArray⟩ : ByteArray).size = acc.length := by
  show acc.toArray.size = _
  simp

/-! ### One byte put in the place of another -/
theorem index_nil (b : UInt8) : Lib.index [] [b] = -1 := rfl
theorem index_hit (b : UInt8) (r : List UInt8) : Lib.index (b :: r) [b] = 0 := by
  unfold Lib.index; simp [List.isPrefixOf]
theorem index_miss {b c : UInt8} (h : ¬ c = b) (r : List UInt8) : Lib.index (c :: r) [b] = if Lib.index r [b] == -1 then -1 else Lib.index r [b] + 1 := by
  have hb : (b == c) = false := by simpa using fun e : b = c => h e.symm
  rw [Lib.index]
  simp [List.isPrefixOf, hb]
def rep (b : UInt8) (new s : List UInt8) : List UInt8 := Lib.replaceK [b] new (Lib.count s [b]) s
theorem rep_nil (b : UInt8) (new : List UInt8) : rep b new [] = [] := by
  unfold rep; rw [Lib.count_miss (index_nil b)]; rfl
theorem rep_hit (b : UInt8) (new r : List UInt8) : rep b new (b :: r) = new ++ rep b new r := by
  unfold rep
  have h := index_hit b r
  have hc := Lib.count_hit (s := b :: r) (sub := [b]) (i := 0) (by simp) h
  rw [hc, Nat.add_comm, Lib.replaceK_hit [b] new _ _ 0 h]
  simp
theorem rep_miss {b c : UInt8} (hcb : ¬ c = b) (new r : List UInt8) : rep b new (c :: r) = c :: rep b new r := by
  unfold rep
  have hi := index_miss hcb r
  by_cases hm : Lib.index r [b] = -1
  · have h1 : Lib.index (c :: r) [b] = -1 := by rw [hi, hm]; rfl
    rw [Lib.count_miss h1, Lib.count_miss hm]
    rfl
  · have hge := Lib.index_ge r [b]
    obtain ⟨i, hi2⟩ : ∃ i : Nat, Lib.index r [b] = i := ⟨(Lib.index r [b]).toNat, by omega⟩
    have hm' : (Lib.index r [b] == -1) = false := by simpa using hm
    have h1 : Lib.index (c :: r) [b] = ((i + 1 : Nat) : Int) := by rw [hi, hm', hi2]; simp
    have c1 := Lib.count_hit (s := c :: r) (sub := [b]) (by simp) h1
    have c2 := Lib.count_hit (s := r) (sub := [b]) (by simp) hi2
    have e : (c :: r).drop (i + 1 + [b].length) = r.drop (i + [b].length) := by simp
    rw [e] at c1
    rw [c1, c2, Nat.add_comm 1, Lib.replaceK_hit [b] new _ _ _ h1, Lib.replaceK_hit [b] new _ _ _ hi2, e]
    simp
theorem rep_flat (b : UInt8) (new : List UInt8) (s : List UInt8) : rep b new s = s.flatMap fun c => if c = b then new else [c] := by
  induction s with
  | nil => exact rep_nil b new
  | cons c r ih =>
    rw [List.flatMap_cons, ← ih]
    by_cases h : c = b
    · subst h; rw [if_pos rfl, rep_hit]
    · rw [if_neg h, rep_miss h]; rfl
theorem replaceAll_flat {b : UInt8} {new : List UInt8} (h : ¬ [b] = new) (s : List UInt8) : Lib.replaceAll s [b] new = s.flatMap fun c => if c = b then new else [c] := by
  rw [← rep_flat]
  unfold Lib.replaceAll Lib.replace Lib.replaceNum rep
  rw [if_neg (by simpa using h), if_pos (.inl (by omega))]

def esc (c : UInt8) : List UInt8 := if c = 92 then [92, 92] else if c = 34 then [92, 34] else [c]
theorem esc_two (s : List UInt8) : (s.flatMap fun c => if c = 92 then [92, 92] else [c]).flatMap (fun c => if c = 34 then [92, 34] else [c]) = s.flatMap esc := by
  rw [List.flatMap_assoc]
  congr 1
  funext c
  unfold esc
  by_cases h1 : c = 92
  · subst h1; rfl
  · rw [if_neg h1, if_neg h1]
    simp
theorem esc_le (s : List UInt8) : (s.flatMap esc).length ≤ 2 * s.length := by
  induction s with
  | nil => simp
  | cons c r ih =>
    rw [List.flatMap_cons, List.length_append, List.length_cons]
    have : (esc c).length ≤ 2 := by
      unfold esc
      split
      · simp
      · split <;> simp
    omega
/-- A text in quotes. -/
def quo (s : List UInt8) : List UInt8 := 34 :: (s.flatMap esc ++ [34])
def quoB (s : ByteArray) : ByteArray := ⟨(quo s.data.toList).toArray⟩
theorem quoB_size (s : ByteArray) : (quoB s).size = (s.data.toList.flatMap esc).length + 2 := by
  show (quo s.data.toList).toArray.size = _
  simp [quo]
/-- The library's variable of how long a text may be holds some number. -/
def HasM (w : World) : Prop := ∃ m : Int, w.cell? ⟨3, 0, none⟩ = some (.int .i64 m)
theorem HasM.below {w w' : World} (h : HasM w) (hb : Below w.heap.size w w') : HasM w' := by
  obtain ⟨m, hm⟩ := h
  have hlt : 3 < w.heap.size := World.block_lt_of_cell? w _ hm
  exact ⟨m, by rw [World.cell?_of_block (w := w) (hb.block 3 hlt)]; exact hm⟩

theorem countB_le (s old : ByteArray) : Lib.countB s old ≤ s.size + 1 := by
  have := Lib.count_le s.data.toList old.data.toList
  rw [Array.length_toList] at this
  exact this

def flat92 (s : ByteArray) : ByteArray := ⟨(s.data.toList.flatMap fun c => if c = 92 then [92, 92] else [c]).toArray⟩
theorem replace_92 (s : ByteArray) (hs : s.size ≤ 100000) (w : World) (hM : HasM w) :
    Calls Tryd.prog 51 #[.string s, .string ⟨#[92]⟩, .string ⟨#[92, 92]⟩] w fun e w' => e = .returned (.string (flat92 s)) ∧ Below w.heap.size w w' := by
  obtain ⟨m, hm⟩ := hM
  have hc := countB_le s ⟨#[92]⟩
  refine (Tryd.strings_ReplaceAll s ⟨#[92]⟩ ⟨#[92, 92]⟩ m w (by omega) hm (by decide) ?_).mono fun e w' ⟨he, hb⟩ => ⟨?_, hb⟩
  · have : (⟨#[92, 92]⟩ : ByteArray).size = 2 := rfl
    rw [this]; omega
  · rw [he]
    unfold flat92
    rw [← replaceAll_flat (b := 92) (new := [92, 92]) (by decide)]
def flat34 (s : ByteArray) : ByteArray := ⟨(s.data.toList.flatMap fun c => if c = 34 then [92, 34] else [c]).toArray⟩
theorem replace_34 (s : ByteArray) (hs : s.size ≤ 100000) (w : World) (hM : HasM w) :
    Calls Tryd.prog 51 #[.string s, .string ⟨#[34]⟩, .string ⟨#[92, 34]⟩] w fun e w' => e = .returned (.string (flat34 s)) ∧ Below w.heap.size w w' := by
  obtain ⟨m, hm⟩ := hM
  have hc := countB_le s ⟨#[34]⟩
  refine (Tryd.strings_ReplaceAll s ⟨#[34]⟩ ⟨#[92, 34]⟩ m w (by omega) hm (by decide) ?_).mono fun e w' ⟨he, hb⟩ => ⟨?_, hb⟩
  · have : (⟨#[92, 34]⟩ : ByteArray).size = 2 := rfl
    rw [this]; omega
  · rw [he]
    unfold flat34
    rw [← replaceAll_flat (b := 34) (new := [92, 34]) (by decide)]
theorem flat92_size (s : ByteArray) : (flat92 s).size ≤ 2 * s.size := by
  have key : ∀ l : List UInt8, (l.flatMap fun c => if c = 92 then [92, 92] else [c]).length ≤ 2 * l.length := fun l => by
    induction l with
    | nil => simp
    | cons c r ih =>
      rw [List.flatMap_cons, List.length_append, List.length_cons]
      have : (if c = 92 then [92, 92] else [c] : List UInt8).length ≤ 2 := by split <;> simp
      omega
  have := key s.data.toList
  rw [Array.length_toList] at this
  show (List.toArray _).size ≤ _
  rw [List.size_toArray]
  exact this
theorem quo_parts (s : ByteArray) : (⟨#[34]⟩ : ByteArray) ++ flat34 (flat92 s) ++ ⟨#[34]⟩ = quoB s := by
  apply ByteArray.ext
  rw [ByteArray.data_append, ByteArray.data_append]
  unfold flat34 flat92 quoB quo
  simp only [esc_two]
  simp
theorem flat34_size (s : ByteArray) : (flat34 (flat92 s)).size + 2 = (quoB s).size := by
  rw [← quo_parts, ByteArray.size_append, ByteArray.size_append, show (⟨#[34]⟩ : ByteArray).size = 1 from rfl]
  omega
theorem quoB_le (s : ByteArray) : (quoB s).size ≤ 2 * s.size + 2 := by
  have h2 := quoB_size s
  have h3 := esc_le s.data.toList
  have h4 : s.data.toList.length = s.size := by rw [Array.length_toList]; rfl
  omega

set_option maxHeartbeats 4000000 in
theorem text_prog (s : ByteArray) (hs : s.size ≤ 2100) (w : World) (hM : HasM w) :
    Calls Tryd.prog 45 #[.string s] w fun e w' => e = .returned (.string (quoB s)) ∧ Below w.heap.size w w' := by
  have HR := Lib.hid (replace_92 s (by omega) w hM)
  have hf := flat92_size s
  have HR2 := Lib.hid (fun w hM => replace_34 (flat92 s) (by omega) w hM)
  have hq := quo_parts s
  have hz : (flat34 (flat92 s)).size ≤ 5000 := by
    have := flat34_size s
    have h2 := quoB_le s
    omega
  have HQ := Lib.hid hq
  have HM := Lib.hid hM
  clear hf hq hM
  generalize flat34 (flat92 s) = T2 at *
  generalize flat92 s = T1 at *
  generalize quoB s = Q at *
  go_enter Tryd.func45, Tryd.ntmps45
  go_wp2_with fail
  refine HR.out.mono ?_
  rintro e w1 ⟨rfl, hb⟩
  have HB := Lib.hid hb
  have HM1 := Lib.hid (HM.out.below hb)
  clear hb
  go_wp2_with fail
  refine (HR2.out _ HM1.out).mono ?_
  rintro e w2 ⟨rfl, hb⟩
  have HB2 := Lib.hid (HB.out.trans (hb.mono HB.out.size))
  clear hb
  go_wp2_with fail
  go_ret
  exact ⟨by rw [← HQ.out]; rfl, HB2.out⟩

theorem mk_push2 (acc : List UInt8) (c d : UInt8) : (⟨acc.toArray⟩ : ByteArray) ++ ⟨#[c]⟩ ++ ⟨#[d]⟩ = ⟨(acc ++ [c, d]).toArray⟩ := by
  rw [mk_push, mk_push, List.append_assoc]; rfl

set_option maxHeartbeats 4000000 in
set_option maxRecDepth 10000 in
theorem text_other (s : ByteArray) (hs : s.size ≤ 2100) (w : World) :
    Calls Tryd.prog 33 #[.string s] w fun e w' => e = .returned (.string (quoB s)) ∧ w = w' := by
  have hq : (34 : UInt8) :: ((rem s 0).flatMap esc ++ [34]) = quo s.data.toList := rfl
  have HQ : Hid (quoB s = ⟨(34 :: ((rem s 0).flatMap esc ++ [34]) : List UInt8).toArray⟩) := by show _ = _; rw [hq]; rfl
  clear hq
  generalize quoB s = Q at *
  go_enter Tryd.func33, Tryd.ntmps33
  go_wp2_with fail
  go_loopg [3, 4] s.size (fun q o i wr => ∃ (acc : List UInt8) (j : Nat), q + j = s.size ∧ i = .int .i64 (j : Int) ∧ o = .string ⟨acc.toArray⟩ ∧ acc.length ≤ 2 * j + 1 ∧ acc ++ (rem s j).flatMap esc = 34 :: (rem s 0).flatMap esc ∧ wr = w)
  case atStart => exact ⟨[34], 0, by omega, rfl, rfl, by simp, rfl, rfl⟩
  case round =>
    obtain ⟨acc, j, hj, rfl, rfl, hal, hrun, rfl⟩ := hrel
    have hz := mk_size acc
    have HF : Hid (acc.length ≤ 2 * j + 1) := hal
    by_cases hlt : j < s.size
    · rw [rem_cons hlt, List.flatMap_cons] at hrun
      have hE := fun w => slice_one hlt w
      have HP := Lib.hid (mk_push acc s[j])
      have HP2 := Lib.hid (mk_push2 acc 92 s[j])
      generalize hS : (⟨acc.toArray⟩ : ByteArray) = S at *
      have HS := Lib.hid hS
      clear hS
      have hz' : S.size ≤ 5000 := by omega
      clear hz hal
      generalize hc : s[j] = c at *
      by_cases h34 : c = 34
      · subst h34
        have HN := Lib.hid (show (acc ++ [92, 34]) ++ (rem s (j + 1)).flatMap esc = 34 :: (rem s 0).flatMap esc by rw [← hrun]; simp [esc])
        clear hrun
        go_wp2_with fail
        go_roundg (gk - 1)
        case measure => omega
        case rel => exact ⟨acc ++ [92, 34], j + 1, by omega, by go_num, by rw [HP2.out], by have := HF.out; simp; omega, HN.out, rfl⟩
      · by_cases h92 : c = 92
        · subst h92
          have HN := Lib.hid (show (acc ++ [92, 92]) ++ (rem s (j + 1)).flatMap esc = 34 :: (rem s 0).flatMap esc by rw [← hrun]; simp [esc])
          clear hrun h34
          go_wp2_with fail
          go_roundg (gk - 1)
          case measure => omega
          case rel => exact ⟨acc ++ [92, 92], j + 1, by omega, by go_num, by rw [HP2.out], by have := HF.out; simp; omega, HN.out, rfl⟩
        · have HN := Lib.hid (show (acc ++ [c]) ++ (rem s (j + 1)).flatMap esc = 34 :: (rem s 0).flatMap esc by rw [← hrun]; simp [esc, h34, h92])
          have n1 : ¬ c.toNat = 92 := fun h => h92 (UInt8.toNat_inj.1 h)
          have n2 : ¬ c.toNat = 34 := fun h => h34 (UInt8.toNat_inj.1 h)
          have b1 : ((c.toNat : Int) == 34) = false := by simp; omega
          have b2 : ((c.toNat : Int) == 92) = false := by simp; omega
          clear hrun h34 h92
          go_wp2_with fail
          go_roundg (gk - 1)
          case measure => omega
          case rel => exact ⟨acc ++ [c], j + 1, by omega, by go_num, by rw [HP.out], by have := HF.out; simp; omega, HN.out, rfl⟩
    · rw [rem_nil (by omega), List.flatMap_nil, List.append_nil] at hrun
      have HN : Hid ((⟨acc.toArray⟩ : ByteArray) ++ ⟨#[34]⟩ = Q) := by
        show _ = _
        rw [HQ.out, mk_push, hrun]; rfl
      generalize (⟨acc.toArray⟩ : ByteArray) = S at *
      clear hrun
      go_wp2_with fail
      go_ret
      exact ⟨by rw [← HN.out]; rfl, rfl⟩

end Go.Proofs.YtkcgnodmjmpnhaaDoor
