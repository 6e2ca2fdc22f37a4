import Derived.Test.YtkkmjfpmhbafoaaDoorLD
import Derived.Lib.ReplaceLaws
namespace Go.Proofs.YtkkmjfpmhbafoaaDoor
open Go.RowKit Go.Lib
set_option linter.unusedVariables false

/-! ### One byte put in the place of another -/
theorem index_nil (b : UInt8) : Lib.index [] [b] = -1 := rfl
theorem index_hit (b : UInt8) (r : List UInt8) : Lib.index (b :: r) [b] = 0 := by
  unfold Lib.index; simp [List.isPrefixOf]
theorem index_miss {b c : UInt8} (h : ¬ c = b) (r : List UInt8) : Lib.index (c :: r) [b] = if Lib.index r [b] == -1 then -1 else Lib.index r [b] + 1 := by
  have hb : (b == c) = false := by simpa using fun e : b = c => h e.symm
  rw [Lib.index]
  simp [List.isPrefixOf, hb]
def rep (b : UInt8) (new s : List UInt8) : List UInt8 := Lib.replaceK [b] new (Lib.count s [b]) s
theorem rep_nil (b : UInt8) (new : List UInt8) : rep b new [] = [] := by
  unfold rep; rw [Lib.count_miss (index_nil b)]; rfl
theorem rep_hit (b : UInt8) (new r : List UInt8) : rep b new (b :: r) = new ++ rep b new r := by
  unfold rep
  have h := index_hit b r
  have hc := Lib.count_hit (s := b :: r) (sub := [b]) (i := 0) (by simp) h
  rw [hc, Nat.add_comm, Lib.replaceK_hit [b] new _ _ 0 h]
  simp
theorem rep_miss {b c : UInt8} (hcb : ¬ c = b) (new r : List UInt8) : rep b new (c :: r) = c :: rep b new r := by
  unfold rep
  have hi := index_miss hcb r
  by_cases hm : Lib.index r [b] = -1
  · have h1 : Lib.index (c :: r) [b] = -1 := by rw [hi, hm]; rfl
    rw [Lib.count_miss h1, Lib.count_miss hm]
    rfl
  · have hge := Lib.index_ge r [b]
    obtain ⟨i, hi2⟩ : ∃ i : Nat, Lib.index r [b] = i := ⟨(Lib.index r [b]).toNat, by omega⟩
    have hm' : (Lib.index r [b] == -1) = false := by simpa using hm
    have h1 : Lib.index (c :: r) [b] = ((i + 1 : Nat) : Int) := by rw [hi, hm', hi2]; simp
    have c1 := Lib.count_hit (s := c :: r) (sub := [b]) (by simp) h1
    have c2 := Lib.count_hit (s := r) (sub := [b]) (by simp) hi2
    have e : (c :: r).drop (i + 1 + [b].length) = r.drop (i + [b].length) := by simp
    rw [e] at c1
    rw [c1, c2, Nat.add_comm 1, Lib.replaceK_hit [b] new _ _ _ h1, Lib.replaceK_hit [b] new _ _ _ hi2, e]
    simp
theorem rep_flat (b : UInt8) (new : List UInt8) (s : List UInt8) : rep b new s = s.flatMap fun c => if c = b then new else [c] := by
  induction s with
  | nil => exact rep_nil b new
  | cons c r ih =>
    rw [List.flatMap_cons, ← ih]
    by_cases h : c = b
    · subst h; rw [if_pos rfl, rep_hit]
    · rw [if_neg h, rep_miss h]; rfl
theorem replaceAll_flat {b : UInt8} {new : List UInt8} (h : ¬ [b] = new) (s : List UInt8) : Lib.replaceAll s [b] new = s.flatMap fun c => if c = b then new else [c] := by
  rw [← rep_flat]
  unfold Lib.replaceAll Lib.replace Lib.replaceNum rep
  rw [if_neg (by simpa using h), if_pos (.inl (by omega))]

def esc (c : UInt8) : List UInt8 := if c = 92 then [92, 92] else if c = 34 then [92, 34] else [c]
theorem esc_two (s : List UInt8) : (s.flatMap fun c => if c = 92 then [92, 92] else [c]).flatMap (fun c => if c = 34 then [92, 34] else [c]) = s.flatMap esc := by
  rw [List.flatMap_assoc]
  congr 1
  funext c
  unfold esc
  by_cases h1 : c = 92
  · subst h1; rfl
  · rw [if_neg h1, if_neg h1]
    simp
theorem esc_le (s : List UInt8) : (s.flatMap esc).length ≤ 2 * s.length := by
  induction s with
  | nil => simp
  | cons c r ih =>
    rw [List.flatMap_cons, List.length_append, List.length_cons]
    have : (esc c).length ≤ 2 := by
      unfold esc
      split
      · simp
      · split <;> simp
    omega
/-- A text in quotes. -/
def quo (s : List UInt8) : List UInt8 := 34 :: (s.flatMap esc ++ [34])
theorem txt_quo : ∀ (s acc : List UInt8) (k : Nat), txt (s.flatMap esc ++ [34]) acc k = if (s.all fun c => decide (32 ≤ c.toNat)) = true then some (acc ++ s, k + (s.flatMap esc).length + 1) else none
  | [], acc, k => by rw [List.flatMap_nil, List.nil_append, txt_34 (by rfl)]; simp
  | c :: r, acc, k => by
    rw [List.flatMap_cons, List.append_assoc, List.all_cons]
    by_cases h1 : c = 92
    · subst h1
      rw [show esc 92 = [92, 92] from rfl]
      show txt (92 :: 92 :: (r.flatMap esc ++ [34])) acc k = _
      rw [txt_92 (by rfl) (.inr (by rfl)), txt_quo r]
      simp only [show decide (32 ≤ (92 : UInt8).toNat) = true from rfl, Bool.true_and, List.length_append, List.length_cons, List.length_nil, List.append_assoc, List.cons_append, List.nil_append]
      rw [show k + 2 + (r.flatMap esc).length + 1 = k + ((r.flatMap esc).length + 1 + 1) + 1 by omega]
    · by_cases h2 : c = 34
      · subst h2
        rw [show esc 34 = [92, 34] from rfl]
        show txt (92 :: 34 :: (r.flatMap esc ++ [34])) acc k = _
        rw [txt_92 (by rfl) (.inl (by rfl)), txt_quo r]
        simp only [show decide (32 ≤ (34 : UInt8).toNat) = true from rfl, Bool.true_and, List.length_append, List.length_cons, List.length_nil, List.append_assoc, List.cons_append, List.nil_append]
        rw [show k + 2 + (r.flatMap esc).length + 1 = k + ((r.flatMap esc).length + 1 + 1) + 1 by omega]
      · have n1 : ¬ c.toNat = 92 := fun h => h1 (UInt8.toNat_inj.1 h)
        have n2 : ¬ c.toNat = 34 := fun h => h2 (UInt8.toNat_inj.1 h)
        have he : esc c = [c] := by unfold esc; rw [if_neg h1, if_neg h2]
        rw [he]
        show txt (c :: (r.flatMap esc ++ [34])) acc k = _
        by_cases h3 : c.toNat < 32
        · rw [txt_32 n2 h3]
          have : decide (32 ≤ c.toNat) = false := by simpa using h3
          simp [this]
        · rw [txt_go n2 h3 n1, txt_quo r]
          have : decide (32 ≤ c.toNat) = true := by simp; omega
          simp only [this, Bool.true_and, List.length_append, List.length_cons, List.length_nil, List.append_assoc, List.cons_append, List.nil_append]
          rw [show k + 1 + (r.flatMap esc).length + 1 = k + ((r.flatMap esc).length + 1) + 1 by omega]

def quoB (s : ByteArray) : ByteArray := ⟨(quo s.data.toList).toArray⟩
theorem quoB_size (s : ByteArray) : (quoB s).size = (s.data.toList.flatMap esc).length + 2 := by
  show (quo s.data.toList).toArray.size = _
  simp [quo]
theorem quoB_head (s : ByteArray) (h : 0 < (quoB s).size) : (quoB s)[0] = 34 := rfl
theorem quoB_rem (s : ByteArray) : rem (quoB s) 1 = s.data.toList.flatMap esc ++ [34] := by
  unfold rem quoB quo; rfl
def plainB (s : ByteArray) : Bool := s.data.toList.all fun c => decide (32 ≤ c.toNat)
theorem quo_words (s : ByteArray) (hs : s.size ≤ 400) :
    wds (quoB s) ((quoB s).size + 1) 0 [] = if plainB s then .inr (flat [⟨3, s, 0, 0⟩]) else .inl 0 := by
  have h0 : 0 < (quoB s).size := by rw [quoB_size]; omega
  have ht := txt_quo s.data.toList [] 1
  rw [← quoB_rem] at ht
  have hb : isB (quoB s)[0] = false := by rw [quoB_head]; rfl
  have hq : (quoB s)[0].toNat = 34 := by rw [quoB_head]; rfl
  cases hp : plainB s with
  | true =>
    unfold plainB at hp
    rw [if_pos hp, List.nil_append] at ht
    rw [wds_word h0 hb (one_text h0 hq ht) (by omega), if_pos rfl, mk_toList]
    have e : 0 + (1 + (s.data.toList.flatMap esc).length + 1) = (quoB s).size := by rw [quoB_size]; omega
    rw [e]
    obtain ⟨j, hj⟩ : ∃ j, (quoB s).size = j + 1 := ⟨(quoB s).size - 1, by omega⟩
    rw [show wds (quoB s) (quoB s).size = wds (quoB s) (j + 1) by rw [hj], wds_end (by omega)]
    rfl
  | false =>
    unfold plainB at hp
    rw [if_neg (by rw [hp]; simp)] at ht
    rw [wds_bad h0 hb (by rw [one_text_no h0 hq ht])]
    rfl
end Go.Proofs.YtkkmjfpmhbafoaaDoor
