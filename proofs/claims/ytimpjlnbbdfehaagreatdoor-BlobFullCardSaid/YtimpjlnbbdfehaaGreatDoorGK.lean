import Derived.Test.YtimpjlnbbdfehaaGreatDoorGJ
import Derived.BigRegion
namespace Go.Proofs.YtimpjlnbbdfehaaGreatDoor
open Go.RowKit Go.Shelf Go.Lib Go.Sort
set_option linter.unusedVariables false
attribute [local go_sem ↓] shr_32_1 shl_32_1 shr_32_2 shl_32_2 shr_32_3 shl_32_3 shr_32_4 shl_32_4 shr_32_5 shl_32_5 shr_32_6 shl_32_6 shr_32_7 shl_32_7 shr_32_8 shl_32_8 shr_32_9 shl_32_9 shr_32_10 shl_32_10 shr_32_11 shl_32_11 shr_32_12 shl_32_12 shr_32_13 shl_32_13 shr_32_14 shl_32_14 shr_32_15 shl_32_15 shr_32_16 shl_32_16 shr_32_17 shl_32_17 shr_32_18 shl_32_18 shr_32_19 shl_32_19 shr_32_20 shl_32_20 shr_32_21 shl_32_21 shr_32_22 shl_32_22 shr_32_23 shl_32_23 shr_32_24 shl_32_24 shr_32_25 shl_32_25 shr_32_26 shl_32_26 shr_32_27 shl_32_27 shr_32_28 shl_32_28 shr_32_29 shl_32_29 shr_32_30 shl_32_30 shr_32_31 shl_32_31 shr_64_3 shl_64_3 shr_64_7 shl_64_7 shr_64_8 shl_64_8 shr_64_16 shl_64_16 shr_64_24 shl_64_24 shr_64_32 shl_64_32 shr_64_40 shl_64_40 shr_64_48 shl_64_48 shr_64_56 shl_64_56
attribute [local go_sem] add_u32 add_u64 and_u8 or_u8 xor_u8 and_u32 or_u32 xor_u32 and_u64 or_u64 xor_u64 conv_32_8 conv_64_8 conv_64_32 conv_8_32 conv_8_64 conv_32_64

/-! ### What drops leave of the places -/
theorem getD_set_bool (l : List Bool) (j k : Nat) (x : Bool) : (l.set j x).getD k false = if j = k ∧ k < l.length then x else l.getD k false := by
  rw [List.getD_eq_getElem?_getD, List.getD_eq_getElem?_getD, List.getElem?_set]
  by_cases h : j = k
  · subst h
    by_cases hl : j < l.length
    · simp [hl]
    · simp [hl]
  · simp [h]
theorem SpS.dropI_len (s : SpS) (n : Int) : (s.dropI n).taken.length = s.taken.length := by
  unfold SpS.dropI SpS.drop
  split <;> simp
theorem SpS.dropI_first (s : SpS) (n : Int) : (s.dropI n).first = s.first := by
  unfold SpS.dropI SpS.drop
  split <;> rfl
theorem SpS.dropI_get (s : SpS) (hf : 0 ≤ s.first) (n : Int) (hn : s.first ≤ n) (k : Nat) : (s.dropI n).taken.getD k false = (s.taken.getD k false && !decide ((k : Int) = n)) := by
  unfold SpS.dropI
  by_cases hg : s.gone n = true
  · rw [if_pos hg]
    show (s.taken.set n.toNat false).getD k false = _
    rw [getD_set_bool]
    by_cases hk : (k : Int) = n
    · have hkn : n.toNat = k := by omega
      simp only [hk, decide_true, Bool.not_true, Bool.and_false]
      split
      · rfl
      · next h =>
        have : s.taken.length ≤ k := by omega
        simp [List.getD, this]
    · have : ¬ (n.toNat = k ∧ k < s.taken.length) := by omega
      rw [if_neg this]
      simp [hk]
  · rw [if_neg hg]
    by_cases hk : (k : Int) = n
    · have hkn : n.toNat = k := by omega
      unfold SpS.gone at hg
      rw [hkn] at hg
      have h1 : decide (s.first ≤ n) = true := by simpa using hn
      rw [h1] at hg
      simp only [Bool.true_and, Bool.and_eq_true, decide_eq_true_eq, not_and, Bool.not_eq_true] at hg
      simp only [hk, decide_true, Bool.not_true, Bool.and_false]
      by_cases hl : n < (s.taken.length : Int)
      · exact hg hl
      · have : s.taken.length ≤ k := by omega
        simp [List.getD, this]
    · simp [hk]
theorem SpS.gone_iff (s : SpS) (k : Nat) : s.gone (k : Int) = true ↔ s.first ≤ (k : Int) ∧ s.taken.getD k false = true := by
  unfold SpS.gone
  rw [Int.toNat_natCast]
  constructor
  · intro h
    simp only [Bool.and_eq_true, decide_eq_true_eq] at h
    exact ⟨h.1.1, h.2⟩
  · rintro ⟨h1, h2⟩
    have hl : k < s.taken.length := by
      apply Classical.byContradiction
      intro hn
      have : s.taken.length ≤ k := by omega
      simp [List.getD, this] at h2
    simp only [Bool.and_eq_true, decide_eq_true_eq]
    exact ⟨⟨h1, by omega⟩, h2⟩
theorem SpS.gone_nat {s : SpS} (hf : 0 ≤ s.first) {n : Int} (h : s.gone n = true) : ∃ k : Nat, n = (k : Int) := by
  unfold SpS.gone at h
  simp only [Bool.and_eq_true, decide_eq_true_eq] at h
  exact ⟨n.toNat, by omega⟩
theorem SpS.dropI_same (s : SpS) (hf : 0 ≤ s.first) (n : Int) : (s.dropI n).gone n = false := by
  cases hg : (s.dropI n).gone n
  · rfl
  · obtain ⟨k, rfl⟩ := SpS.gone_nat (s := s.dropI n) (by rw [SpS.dropI_first]; exact hf) hg
    rw [SpS.gone_iff, SpS.dropI_first] at hg
    rw [SpS.dropI_get s hf _ hg.1] at hg
    simp at hg
theorem SpS.dropI_other (s : SpS) (hf : 0 ≤ s.first) (a n : Int) (hne : a ≠ n) : (s.dropI a).gone n = s.gone n := by
  by_cases ha : s.first ≤ a
  · by_cases hn : 0 ≤ n
    · obtain ⟨k, rfl⟩ : ∃ k : Nat, n = (k : Int) := ⟨n.toNat, by omega⟩
      rw [Bool.eq_iff_iff, SpS.gone_iff, SpS.gone_iff, SpS.dropI_first, SpS.dropI_get s hf _ ha]
      have : decide ((k : Int) = a) = false := decide_eq_false (fun e => hne e.symm)
      rw [this]
      simp
    · have h1 : ∀ t : SpS, 0 ≤ t.first → t.gone n = false := fun t ht => by
        unfold SpS.gone
        have : decide (t.first ≤ n) = false := decide_eq_false (by omega)
        rw [this]
        rfl
      rw [h1 _ hf, h1 _ (by rw [SpS.dropI_first]; exact hf)]
  · have : s.dropI a = s := by
      unfold SpS.dropI
      rw [if_neg]
      unfold SpS.gone
      have : decide (s.first ≤ a) = false := decide_eq_false ha
      rw [this]
      simp
    rw [this]
theorem SpS.dropI_comm (s : SpS) (hf : 0 ≤ s.first) (a b : Int) : (s.dropI a).dropI b = (s.dropI b).dropI a := by
  by_cases hab : a = b
  · rw [hab]
  · have e1 := SpS.dropI_other s hf a b hab
    have e2 := SpS.dropI_other s hf b a (Ne.symm hab)
    unfold SpS.dropI at e1 e2 ⊢
    cases ha : s.gone a <;> cases hb : s.gone b <;> simp only [ha, hb, if_true, if_false, Bool.false_eq_true] at e1 e2 ⊢ <;> simp only [e1, e2, ha, hb, if_true, if_false, Bool.false_eq_true]
    obtain ⟨i, rfl⟩ := SpS.gone_nat hf ha
    obtain ⟨j, rfl⟩ := SpS.gone_nat hf hb
    unfold SpS.drop
    simp only [Int.toNat_natCast]
    rw [List.set_comm _ _ (by omega)]
theorem drops_first (l : List Int) (s : SpS) : (l.foldl SpS.dropI s).first = s.first := by
  induction l generalizing s with
  | nil => rfl
  | cons a l ih => rw [List.foldl_cons, ih, SpS.dropI_first]
theorem drops_len (l : List Int) (s : SpS) : (l.foldl SpS.dropI s).taken.length = s.taken.length := by
  induction l generalizing s with
  | nil => rfl
  | cons a l ih => rw [List.foldl_cons, ih, SpS.dropI_len]
/-- In whatever order they are dropped. -/
theorem drops_any (l : List Int) (s : SpS) (hf : 0 ≤ s.first) (j : Nat) (x : Int) (h : l[j]? = some x) : l.foldl SpS.dropI s = (l.eraseIdx j).foldl SpS.dropI (s.dropI x) := by
  induction l generalizing s j with
  | nil => simp at h
  | cons a l ih =>
    cases j with
    | zero =>
      simp only [List.getElem?_cons_zero, Option.some.injEq] at h
      rw [h]
      rfl
    | succ j =>
      simp only [List.getElem?_cons_succ] at h
      rw [List.foldl_cons, ih _ (by rw [SpS.dropI_first]; exact hf) j h, List.eraseIdx_cons_succ, List.foldl_cons, SpS.dropI_comm s hf]
theorem drops_get (l : List Int) (s : SpS) (hf : 0 ≤ s.first) (hl : ∀ n ∈ l, s.first ≤ n) (k : Nat) : (l.foldl SpS.dropI s).taken.getD k false = (s.taken.getD k false && !decide ((k : Int) ∈ l)) := by
  induction l generalizing s with
  | nil => simp
  | cons a l ih =>
    rw [List.foldl_cons, ih _ (by rw [SpS.dropI_first]; exact hf) (fun n hn => by rw [SpS.dropI_first]; exact hl n (List.mem_cons_of_mem _ hn)), SpS.dropI_get s hf a (hl a List.mem_cons_self)]
    by_cases h1 : (k : Int) = a <;> by_cases h2 : (k : Int) ∈ l <;> simp [h1, h2]
theorem drops_many (l : List Int) (s : SpS) (hf : 0 ≤ s.first) (hn : l.Nodup) (hl : ∀ n ∈ l, s.gone n = true) : (l.foldl SpS.dropI s).many = s.many - l.length := by
  induction l generalizing s with
  | nil => simp
  | cons a l ih =>
    rw [List.nodup_cons] at hn
    rw [List.foldl_cons, ih _ (by rw [SpS.dropI_first]; exact hf) hn.2 (fun n h => by
      rw [SpS.dropI_other s hf a n (fun e => hn.1 (by rw [e]; exact h))]
      exact hl n (List.mem_cons_of_mem _ h))]
    have : (s.dropI a).many = s.many - 1 := by
      unfold SpS.dropI
      rw [if_pos (hl a List.mem_cons_self)]
      rfl
    rw [this, List.length_cons]
    omega
/-- How many are taken. -/
def cntB : List Bool → Nat
  | [] => 0
  | b :: r => (if b = true then 1 else 0) + cntB r
theorem cntB_off {l : List Bool} {j : Nat} (h : l[j]? = some true) : cntB (l.set j false) + 1 = cntB l := by
  induction l generalizing j with
  | nil => simp at h
  | cons b l ih =>
    cases j with
    | zero =>
      simp only [List.getElem?_cons_zero, Option.some.injEq] at h
      subst h
      simp [cntB]
      omega
    | succ j =>
      simp only [List.getElem?_cons_succ] at h
      have := ih h
      simp only [List.set_cons_succ, cntB]
      omega
theorem cntB_on {l : List Bool} {j : Nat} (h : l[j]? = some false) : cntB (l.set j true) = cntB l + 1 := by
  induction l generalizing j with
  | nil => simp at h
  | cons b l ih =>
    cases j with
    | zero =>
      simp only [List.getElem?_cons_zero, Option.some.injEq] at h
      subst h
      simp [cntB]
      omega
    | succ j =>
      simp only [List.getElem?_cons_succ] at h
      have := ih h
      simp only [List.set_cons_succ, cntB]
      omega
def SpS.okC (s : SpS) : Prop := s.many = (cntB s.taken : Int)
theorem getD_true {l : List Bool} {k : Nat} (h : l.getD k false = true) : l[k]? = some true := by
  rw [List.getD_eq_getElem?_getD] at h
  cases hk : l[k]? with
  | none => rw [hk] at h; cases h
  | some b => rw [hk] at h; simp at h; rw [h]
theorem SpS.okC.dropI {s : SpS} (h : s.okC) (n : Int) : (s.dropI n).okC := by
  unfold SpS.dropI
  split
  · next hg =>
    have ht : s.taken.getD n.toNat false = true := by
      unfold SpS.gone at hg
      simp only [Bool.and_eq_true] at hg
      exact hg.2
    have := cntB_off (getD_true ht)
    unfold SpS.okC at h ⊢
    show s.many - 1 = (cntB (s.taken.set n.toNat false) : Int)
    omega
  · exact h
theorem SpS.okC.take {s : SpS} (h : s.okC) {K : Nat} (hf : s.free = some K) : (s.take K).okC := by
  obtain ⟨_, f2, f3, _⟩ := SpS.free_some hf
  have ht : s.taken[K]? = some false := by
    rw [List.getElem?_eq_getElem f2]
    rw [List.getD_eq_getElem?_getD, List.getElem?_eq_getElem f2] at f3
    simpa using f3
  have := cntB_on ht
  unfold SpS.okC at h ⊢
  show s.many + 1 = (cntB (s.taken.set K true) : Int)
  omega
theorem drops_okC {l : List Int} {s : SpS} (h : s.okC) : (l.foldl SpS.dropI s).okC := by
  induction l generalizing s with
  | nil => exact h
  | cons a l ih => exact ih (h.dropI a)
theorem SpS.dropI_le (s : SpS) (n : Int) : (s.dropI n).many ≤ s.many := by
  unfold SpS.dropI SpS.drop
  split
  · show s.many - 1 ≤ s.many
    omega
  · exact Int.le_refl _
/-! ### Lists without doubles -/
theorem nodup_le {l m : List Int} (hn : l.Nodup) (h : ∀ x ∈ l, x ∈ m) : l.length ≤ m.length := by
  induction l generalizing m with
  | nil => simp
  | cons a l ih =>
    rw [List.nodup_cons] at hn
    have ha : a ∈ m := h a List.mem_cons_self
    have := ih hn.2 (m := m.erase a) (fun x hx => (List.mem_erase_of_ne (fun e => hn.1 (by rw [← e]; exact hx))).2 (h x (List.mem_cons_of_mem _ hx)))
    rw [List.length_erase_of_mem ha] at this
    have hp : 0 < m.length := List.length_pos_of_mem ha
    rw [List.length_cons]
    omega
theorem nodup_same {l m : List Int} (hl : l.Nodup) (hm : m.Nodup) (h : ∀ x, x ∈ l ↔ x ∈ m) : l.length = m.length :=
  Nat.le_antisymm (nodup_le hl fun x hx => (h x).1 hx) (nodup_le hm fun x hx => (h x).2 hx)
def placesN (n : Nat) : List Int := (List.range (n - 2)).map fun j => ((j + 2 : Nat) : Int)
theorem mem_placesN (n : Nat) (x : Int) : x ∈ placesN n ↔ 2 ≤ x ∧ x < n := by
  unfold placesN
  rw [List.mem_map]
  constructor
  · rintro ⟨j, hj, rfl⟩
    rw [List.mem_range] at hj
    omega
  · rintro ⟨h1, h2⟩
    exact ⟨x.toNat - 2, by rw [List.mem_range]; omega, by omega⟩
theorem placesN_nodup (n : Nat) : (placesN n).Nodup := by
  unfold placesN
  rw [List.nodup_iff_pairwise_ne, List.pairwise_map]
  exact (List.nodup_range (n := n - 2)).imp fun h e => h (by omega)
theorem placesN_len (n : Nat) : (placesN n).length = n - 2 := by simp [placesN]
theorem filter_split {α : Type} (p : α → Bool) (l : List α) : l.length = (l.filter p).length + (l.filter fun x => !p x).length := by
  induction l with
  | nil => rfl
  | cons a l ih =>
    rw [List.filter_cons, List.filter_cons]
    cases p a <;> simp <;> omega
/-! ### PagerPlays: what is so all the time -/
structure Pg where
  r : Ref
  s : ByteArray
  fresh : Bool
  old : Bool
def Pg.reset (x : Pg) : Pg := ⟨x.r, x.s, false, false⟩
structure PlayA (n : Nat) (all : List Pg) (d : DS) (key : ByteArray) (s : SpS) (fresh : List (Int × Bool)) (old : List Int) : Prop where
  len : d.sure.length = n
  sl : s.taken.length = n
  sf : s.first = 2
  many : s.many = all.length
  nd : (all.map (·.r.place)).Nodup
  rng : ∀ x ∈ all, 2 ≤ x.r.place ∧ x.r.place < n
  tak : ∀ k : Nat, 2 ≤ k → (s.taken.getD k false = true ↔ ∃ x ∈ all, x.r.place = k)
  txt : ∀ x ∈ all, ∃ hd, d.get x.r.place.toNat = blockP key hd x.r.place x.s ∧ x.r.sum = sumB (d.get x.r.place.toNat)
  small : ∀ x ∈ all, x.s.size ≤ 462
  fm : ∀ k, k ∈ fresh.map (·.1) ↔ ∃ x ∈ all, x.r.place = k ∧ x.fresh = true
  ft : ∀ p ∈ fresh, p.2 = true
  fn : (fresh.map (·.1)).Nodup
  om : ∀ k, k ∈ old ↔ ∃ x ∈ all, x.r.place = k ∧ x.old = true
  on : old.Nodup
  cnt : s.okC
structure PlayK (all : List Pg) (kept : List (Ref × ByteArray)) (row : List Ref) (most : Nat) : Prop where
  has : ∀ r s, mget kept r = some s → ∃ x ∈ all, x.r = r ∧ x.s = s ∧ x.old = false
  krow : ∀ r s, mget kept r = some s → r ∈ row
  kn : (kept.map (·.1)).Nodup
  row : row.length ≤ most
def PlayI (n : Nat) (all : List Pg) (st : PS) : Prop := PlayA n all st.d st.v.key st.s st.fresh st.old ∧ PlayK all st.kept st.row st.most
section
variable {n : Nat} {all : List Pg} {d : DS} {key : ByteArray} {s : SpS} {fresh : List (Int × Bool)} {old : List Int} {kept : List (Ref × ByteArray)} {row : List Ref} {most : Nat} {st : PS}
theorem nd_same {l : List Pg} (h : (l.map (·.r.place)).Nodup) : ∀ {x y : Pg}, x ∈ l → y ∈ l → x.r.place = y.r.place → x = y := by
  induction l with
  | nil => intro x y hx; cases hx
  | cons a l ih =>
    rw [List.map_cons, List.nodup_cons] at h
    intro x y hx hy he
    rcases List.mem_cons.1 hx with e1 | hx1
    · rcases List.mem_cons.1 hy with e2 | hy1
      · rw [e1, e2]
      · exact absurd (by rw [← e1, he]; exact List.mem_map.2 ⟨y, hy1, rfl⟩) h.1
    · rcases List.mem_cons.1 hy with e2 | hy1
      · exact absurd (by rw [← e2, ← he]; exact List.mem_map.2 ⟨x, hx1, rfl⟩) h.1
      · exact ih h.2 hx1 hy1 he
theorem mget_true {m : List (Int × Bool)} (ht : ∀ p ∈ m, p.2 = true) (k : Int) : (mget m k).getD false = true ↔ k ∈ m.map (·.1) := by
  constructor
  · intro h
    cases hm : mget m k with
    | none => rw [hm] at h; cases h
    | some v => exact List.mem_map.2 ⟨_, mget_mem hm, rfl⟩
  · intro h
    cases hm : mget m k with
    | none =>
      obtain ⟨p, hp, e⟩ := List.mem_map.1 h
      exact absurd e (mget_none_iff.1 hm p hp)
    | some v => exact ht _ (mget_mem hm)
/-- No place is free just if there are as many pages as places. -/
theorem PlayA.full (h : PlayA n all d key s fresh old) (hn : 2 ≤ n) : (s.free = none ∧ all.length = n - 2) ∨ ((∃ K, s.free = some K) ∧ all.length < n - 2) := by
  have hle : (all.map (·.r.place)).length ≤ (placesN n).length := nodup_le h.nd fun x hx => by
    obtain ⟨y, hy, rfl⟩ := List.mem_map.1 hx
    exact (mem_placesN n _).2 (h.rng y hy)
  rw [placesN_len, List.length_map] at hle
  cases hf : s.free with
  | none =>
    refine .inl ⟨rfl, Nat.le_antisymm hle ?_⟩
    have := nodup_le (placesN_nodup n) (m := all.map (·.r.place)) fun x hx => by
      rw [mem_placesN] at hx
      have := (h.tak x.toNat (by omega)).1 (SpS.free_none hf x.toNat (by rw [h.sf]; omega) (by rw [h.sl]; omega))
      obtain ⟨y, hy, e⟩ := this
      exact List.mem_map.2 ⟨y, hy, by rw [e]; omega⟩
    rwa [placesN_len, List.length_map] at this
  | some K =>
    refine .inr ⟨⟨K, rfl⟩, ?_⟩
    obtain ⟨f1, f2, f3, _⟩ := SpS.free_some hf
    rw [h.sf] at f1
    rw [h.sl] at f2
    have hK : ∀ x ∈ all, x.r.place ≠ (K : Int) := fun x hx e => by
      have := (h.tak K (by omega)).2 ⟨x, hx, e⟩
      rw [f3] at this
      cases this
    have := nodup_le (l := (K : Int) :: all.map (·.r.place)) (m := placesN n) (List.nodup_cons.2 ⟨fun hm => by
      obtain ⟨y, hy, e⟩ := List.mem_map.1 hm
      exact hK y hy e, h.nd⟩) fun x hx => by
      rcases List.mem_cons.1 hx with rfl | hx
      · exact (mem_placesN n _).2 ⟨by omega, by omega⟩
      · obtain ⟨y, hy, rfl⟩ := List.mem_map.1 hx
        exact (mem_placesN n _).2 (h.rng y hy)
    rw [List.length_cons, List.length_map, placesN_len] at this
    omega
theorem PlayK.keep (h : PlayK all kept row most) {x : Pg} (hx : x ∈ all) (ho : x.old = false) (hm : 1 ≤ most) (st : PS) (e1 : st.kept = kept) (e2 : st.row = row) (e3 : st.most = most) : PlayK all (st.keep x.r x.s).kept (st.keep x.r x.s).row (st.keep x.r x.s).most := by
  subst e1 e2 e3
  have hput : ∀ r t, mget (mput st.kept x.r x.s) r = some t → (r = x.r ∧ t = x.s) ∨ mget st.kept r = some t := fun r t ht => by
    rw [mget_mput] at ht
    by_cases e : x.r = r
    · rw [if_pos e] at ht
      injection ht with ht
      exact .inl ⟨e.symm, ht.symm⟩
    · rw [if_neg e] at ht
      exact .inr ht
  have hp : ∀ r t, mget (mput st.kept x.r x.s) r = some t → (∃ y ∈ all, y.r = r ∧ y.s = t ∧ y.old = false) ∧ r ∈ st.row ++ [x.r] := fun r t ht => by
    rcases hput r t ht with ⟨e1, e2⟩ | h1
    · exact ⟨⟨x, hx, e1.symm, e2.symm, ho⟩, by rw [e1]; simp⟩
    · exact ⟨h.has r t h1, List.mem_append_left _ (h.krow r t h1)⟩
  unfold PS.keep
  split
  · exact h
  · split
    · next hl =>
      exact ⟨fun r t ht => (hp r t ht).1, fun r t ht => (hp r t ht).2, mput_keys h.kn, by show (st.row ++ [x.r]).length ≤ st.most; rw [List.length_append]; exact hl⟩
    · obtain ⟨a, tl, hrow⟩ : ∃ a tl, st.row ++ [x.r] = a :: tl := by
        cases st.row with
        | nil => exact ⟨_, [], rfl⟩
        | cons a l => exact ⟨a, l ++ [x.r], rfl⟩
      have hlen : tl.length = st.row.length := by
        have := congrArg List.length hrow
        simp at this
        omega
      have hd : ∀ r t, mget (mdel (mput st.kept x.r x.s) a) r = some t → a ≠ r ∧ mget (mput st.kept x.r x.s) r = some t := fun r t ht => by
        rw [mget_mdel _ (mput_keys h.kn)] at ht
        by_cases e : a = r
        · rw [if_pos e] at ht; cases ht
        · rw [if_neg e] at ht; exact ⟨e, ht⟩
      refine ⟨fun r t ht => ?_, fun r t ht => ?_, ?_, ?_⟩
      · change mget (mdel (mput st.kept x.r x.s) ((st.row ++ [x.r]).headD x.r)) r = some t at ht
        rw [hrow] at ht
        exact (hp r t (hd r t ht).2).1
      · change mget (mdel (mput st.kept x.r x.s) ((st.row ++ [x.r]).headD x.r)) r = some t at ht
        show r ∈ (st.row ++ [x.r]).tail
        rw [hrow] at ht ⊢
        obtain ⟨h1, h2⟩ := hd r t ht
        have h3 := (hp r t h2).2
        rw [hrow] at h3
        exact (List.mem_cons.1 h3).resolve_left (fun e => h1 e.symm)
      · exact (mput_keys h.kn).sublist (mdel_keys _ _)
      · show (st.row ++ [x.r]).tail.length ≤ st.most
        rw [hrow]
        show tl.length ≤ _
        rw [hlen]
        exact h.row
theorem keep_most (st : PS) (r : Ref) (t : ByteArray) : (st.keep r t).most = st.most ∧ (st.keep r t).d = st.d ∧ (st.keep r t).v = st.v ∧ (st.keep r t).s = st.s ∧ (st.keep r t).fresh = st.fresh ∧ (st.keep r t).old = st.old := by
  unfold PS.keep
  split
  · exact ⟨rfl, rfl, rfl, rfl, rfl, rfl⟩
  · split <;> exact ⟨rfl, rfl, rfl, rfl, rfl, rfl⟩
/-- What a page reads as. -/
theorem PlayI.read (h : PlayI n all st) (hm : 1 ≤ st.most) {x : Pg} (hx : x ∈ all) (ho : x.old = false) : (st.read x.r).2 = (x.s, 0) ∧ PlayI n all (st.read x.r).1 ∧ (st.read x.r).1.most = st.most := by
  obtain ⟨hA, hK⟩ := h
  obtain ⟨hd, hg, hsum⟩ := hA.txt x hx
  have hr := hA.rng x hx
  have h32 : ¬ x.r.sum.size ≠ 32 := by rw [hsum, sumB_size]; decide
  unfold PS.read
  rw [if_neg h32]
  cases hk : mget st.kept x.r with
  | some t =>
    obtain ⟨y, hy, e1, e2, _⟩ := hK.has _ _ hk
    have : y = x := nd_same hA.nd hy hx (by rw [e1])
    subst this
    subst e2
    exact ⟨rfl, ⟨hA, hK⟩, rfl⟩
  | none =>
    have hB : hasB x.r.place st.d.sure.length = true := by
      unfold hasB
      rw [hA.len]
      simp
      omega
    have hV : st.fetV x.r.place x.r.sum = (hd, x.s, st.d.get x.r.place.toNat, 0) := by
      unfold PS.fetV
      rw [if_pos hB]
      unfold PS.fetchV
      have hpn : ((x.r.place.toNat : Nat) : Int) = x.r.place := by omega
      have hgp : bgetF st.v.key ((x.r.place.toNat : Nat) : Int) (st.d.get x.r.place.toNat) = (hd, x.s, 0) := by
        rw [hpn, hg]
        exact bget_put _ _ _ _ (hA.small x hx)
      rw [hgp, if_neg (by rw [← hsum]; simp), if_neg (by simp)]
    have hS : st.fetS x.r.place x.r.sum = { st with reads := st.reads + 1, b := st.b.sum (st.d.get x.r.place.toNat) } := by
      unfold PS.fetS
      rw [if_pos hB]
      unfold PS.fetchS
      rw [if_neg (by rw [hsum]; exact sumB_full _)]
    dsimp only
    rw [hV, hS]
    dsimp only
    rw [if_pos rfl]
    obtain ⟨k1, k2, k3, k4, k5, k6⟩ := keep_most { st with reads := st.reads + 1, b := st.b.sum (st.d.get x.r.place.toNat) } x.r x.s
    refine ⟨rfl, ⟨?_, hK.keep hx ho hm _ rfl rfl rfl⟩, k1⟩
    dsimp only
    rw [k2, k3, k4, k5, k6]
    exact hA
/-- A new page. -/
theorem PlayI.write (h : PlayI n all st) (hm : 1 ≤ st.most) {K : Nat} (hf : st.s.free = some K) (t : ByteArray) (ht : t.size ≤ 462) : PlayI n (all ++ [⟨(st.write t).2.1, t, true, false⟩]) (st.write t).1 ∧ (st.write t).1.most = st.most := by
  obtain ⟨hA, hK⟩ := h
  obtain ⟨f1, f2, f3, _⟩ := SpS.free_some hf
  rw [hA.sf] at f1
  rw [hA.sl] at f2
  have hne : ∀ x ∈ all, x.r.place ≠ (K : Int) := fun x hx e => by
    have := (hA.tak K (by omega)).2 ⟨x, hx, e⟩
    rw [f3] at this
    cases this
  obtain ⟨X, hX⟩ : ∃ X, X = ({ st with s := st.s.take K } : PS).block (K : Int) t := ⟨_, rfl⟩
  obtain ⟨hd, hXd⟩ : ∃ hd, X = blockP st.v.key hd (K : Int) t := ⟨_, hX⟩
  obtain ⟨S, hS⟩ : ∃ S : PS, S = { ({ st with s := st.s.take K } : PS).lay (K : Int) t with fresh := mput st.fresh (K : Int) true } := ⟨_, rfl⟩
  have hw : st.write t = (S.keep ⟨(K : Int), sumB X⟩ t, ⟨(K : Int), sumB X⟩, 0) := by
    unfold PS.write
    rw [hf, hS, hX]
    rfl
  have hSd : S.d = st.d.write (K : Int) X := by rw [hS, hX]; rfl
  rw [hw]
  dsimp only
  obtain ⟨x0, hx0⟩ : ∃ x0 : Pg, x0 = ⟨⟨(K : Int), sumB X⟩, t, true, false⟩ := ⟨_, rfl⟩
  rw [← hx0]
  have hA' : PlayA n (all ++ [x0]) S.d S.v.key S.s S.fresh S.old := by
    rw [hSd, hS]
    show PlayA n (all ++ [x0]) (st.d.write (K : Int) X) st.v.key (st.s.take K) (mput st.fresh (K : Int) true) st.old
    have hgo : ∀ x ∈ all, (st.d.write (K : Int) X).get x.r.place.toNat = st.d.get x.r.place.toNat := fun x hx => DS.get_write_other _ _ _ (by have := hne x hx; have := hA.rng x hx; omega) _
    have hm0 : ∀ k, (∃ x ∈ all ++ [x0], x.r.place = k ∧ x.fresh = true) ↔ (∃ x ∈ all, x.r.place = k ∧ x.fresh = true) ∨ k = (K : Int) := fun k => by
      constructor
      · rintro ⟨x, hx, h1, h2⟩
        rcases List.mem_append.1 hx with hx | hx
        · exact .inl ⟨x, hx, h1, h2⟩
        · rw [List.mem_singleton] at hx
          subst hx
          rw [hx0] at h1
          exact .inr h1.symm
      · rintro (⟨x, hx, h⟩ | rfl)
        · exact ⟨x, List.mem_append_left _ hx, h⟩
        · exact ⟨x0, by simp, by rw [hx0], by rw [hx0]⟩
    refine ⟨hA.len, ?_, hA.sf, ?_, ?_, ?_, ?_, ?_, ?_, ?_, ?_, mput_keys hA.fn, ?_, hA.on, hA.cnt.take hf⟩
    · show (st.s.taken.set K true).length = n
      rw [List.length_set]
      exact hA.sl
    · show st.s.many + 1 = _
      rw [hA.many, List.length_append]
      simp
    · rw [List.map_append, List.nodup_append]
      refine ⟨hA.nd, by simp, ?_⟩
      intro a ha b hb e
      obtain ⟨y, hy, rfl⟩ := List.mem_map.1 ha
      rw [List.map_singleton, List.mem_singleton, hx0] at hb
      exact hne y hy (e.trans hb)
    · intro x hx
      rcases List.mem_append.1 hx with hx | hx
      · exact hA.rng x hx
      · rw [List.mem_singleton] at hx
        rw [hx, hx0]
        show (2 : Int) ≤ (K : Int) ∧ (K : Int) < (n : Int)
        omega
    · intro k hk
      show (st.s.taken.set K true).getD k false = true ↔ _
      rw [getD_set_bool, hA.sl]
      by_cases e : K = k
      · subst e
        rw [if_pos ⟨rfl, f2⟩]
        exact ⟨fun _ => ⟨x0, by simp, by rw [hx0]⟩, fun _ => rfl⟩
      · rw [if_neg (fun h => e h.1), hA.tak k hk]
        constructor
        · rintro ⟨x, hx, h⟩
          exact ⟨x, List.mem_append_left _ hx, h⟩
        · rintro ⟨x, hx, h⟩
          rcases List.mem_append.1 hx with hx | hx
          · exact ⟨x, hx, h⟩
          · rw [List.mem_singleton] at hx
            rw [hx, hx0] at h
            have : (K : Int) = (k : Int) := h
            omega
    · intro x hx
      rcases List.mem_append.1 hx with hx | hx
      · rw [hgo x hx]
        exact hA.txt x hx
      · rw [List.mem_singleton] at hx
        rw [hx, hx0]
        have hgk : (st.d.write (K : Int) X).get ((K : Int)).toNat = X := by
          rw [Int.toNat_natCast]
          exact DS.get_write _ K _
        show ∃ hd, (st.d.write (K : Int) X).get ((K : Int)).toNat = blockP st.v.key hd (K : Int) t ∧ sumB X = sumB ((st.d.write (K : Int) X).get ((K : Int)).toNat)
        rw [hgk]
        exact ⟨hd, hXd, rfl⟩
    · intro x hx
      rcases List.mem_append.1 hx with hx | hx
      · exact hA.small x hx
      · rw [List.mem_singleton] at hx
        rw [hx, hx0]
        exact ht
    · intro k
      rw [hm0, ← hA.fm]
      constructor
      · intro hk
        obtain ⟨p, hp, e⟩ := List.mem_map.1 hk
        rcases mput_mem hp with rfl | hp
        · exact .inr e.symm
        · exact .inl (List.mem_map.2 ⟨p, hp, e⟩)
      · intro hk
        have : mget (mput st.fresh (K : Int) true) k ≠ none := by
          rw [mget_mput]
          split
          · simp
          · next hne =>
            rcases hk with hk | hk
            · intro hm
              obtain ⟨p, hp, e⟩ := List.mem_map.1 hk
              exact mget_none_iff.1 hm p hp e
            · exact absurd hk.symm hne
        cases hq : mget (mput st.fresh (K : Int) true) k with
        | none => exact absurd hq this
        | some v => exact List.mem_map.2 ⟨_, mget_mem hq, rfl⟩
    · intro p hp
      rcases mput_mem hp with rfl | hp
      · rfl
      · exact hA.ft p hp
    · intro k
      rw [hA.om k]
      constructor
      · rintro ⟨x, hx, h⟩
        exact ⟨x, List.mem_append_left _ hx, h⟩
      · rintro ⟨x, hx, h1, h2⟩
        rcases List.mem_append.1 hx with hx | hx
        · exact ⟨x, hx, h1, h2⟩
        · rw [List.mem_singleton] at hx
          rw [hx, hx0] at h2
          cases h2
  have hK' : PlayK (all ++ [x0]) S.kept S.row S.most := by
    rw [hS]
    exact ⟨fun r u hu => by
      obtain ⟨x, hx, h⟩ := hK.has r u hu
      exact ⟨x, List.mem_append_left _ hx, h⟩, hK.krow, hK.kn, hK.row⟩
  have hSm : S.most = st.most := by rw [hS]; rfl
  have e1 : (⟨(K : Int), sumB X⟩ : Ref) = x0.r := by rw [hx0]
  have e2 : t = x0.s := by rw [hx0]
  obtain ⟨k1, k2, k3, k4, k5, k6⟩ := keep_most S ⟨(K : Int), sumB X⟩ t
  refine ⟨⟨?_, ?_⟩, k1.trans hSm⟩
  · rw [k2, k3, k4, k5, k6]
    exact hA'
  · rw [e1, e2]
    exact hK'.keep (by simp) (by rw [hx0]) (by rw [hSm]; exact hm) S rfl rfl rfl
end

end Go.Proofs.YtimpjlnbbdfehaaGreatDoor
namespace Go.Proofs.YtimpjlnbbdfehaaGreatDoor
open Go.RowKit Go.Shelf Go.Lib Go.Sort
set_option linter.unusedVariables false
attribute [local go_sem ↓] shr_32_1 shl_32_1 shr_32_2 shl_32_2 shr_32_3 shl_32_3 shr_32_4 shl_32_4 shr_32_5 shl_32_5 shr_32_6 shl_32_6 shr_32_7 shl_32_7 shr_32_8 shl_32_8 shr_32_9 shl_32_9 shr_32_10 shl_32_10 shr_32_11 shl_32_11 shr_32_12 shl_32_12 shr_32_13 shl_32_13 shr_32_14 shl_32_14 shr_32_15 shl_32_15 shr_32_16 shl_32_16 shr_32_17 shl_32_17 shr_32_18 shl_32_18 shr_32_19 shl_32_19 shr_32_20 shl_32_20 shr_32_21 shl_32_21 shr_32_22 shl_32_22 shr_32_23 shl_32_23 shr_32_24 shl_32_24 shr_32_25 shl_32_25 shr_32_26 shl_32_26 shr_32_27 shl_32_27 shr_32_28 shl_32_28 shr_32_29 shl_32_29 shr_32_30 shl_32_30 shr_32_31 shl_32_31 shr_64_3 shl_64_3 shr_64_7 shl_64_7 shr_64_8 shl_64_8 shr_64_16 shl_64_16 shr_64_24 shl_64_24 shr_64_32 shl_64_32 shr_64_40 shl_64_40 shr_64_48 shl_64_48 shr_64_56 shl_64_56
attribute [local go_sem] add_u32 add_u64 and_u8 or_u8 xor_u8 and_u32 or_u32 xor_u32 and_u64 or_u64 xor_u64 conv_32_8 conv_64_8 conv_64_32 conv_8_32 conv_8_64 conv_32_64

/-! ### Ranging over a map -/
section
variable {α : Type}
theorem filter_ne_erase (f : α → Nat) : ∀ {L : List α} {j : Nat} {x : α}, (L.map f).Nodup → L[j]? = some x → (L.filter fun y => !(f y == f x)) = L.eraseIdx j
  | [], j, x, _, h => by simp at h
  | a :: r, 0, x, hn, h => by
    simp only [List.getElem?_cons_zero, Option.some.injEq] at h
    subst h
    simp only [List.map_cons, List.nodup_cons] at hn
    rw [List.filter_cons_of_neg (by simp), List.eraseIdx_cons_zero, List.filter_eq_self]
    intro y hy
    have : f y ≠ f a := fun e => hn.1 (by rw [← e]; exact List.mem_map.2 ⟨y, hy, rfl⟩)
    simp [this]
  | a :: r, j + 1, x, hn, h => by
    simp only [List.getElem?_cons_succ] at h
    simp only [List.map_cons, List.nodup_cons] at hn
    have hne : f a ≠ f x := fun e => hn.1 (by rw [e]; exact List.mem_map.2 ⟨x, List.mem_of_getElem? h, rfl⟩)
    rw [List.filter_cons_of_pos (by simp [hne]), List.eraseIdx_cons_succ, filter_ne_erase f hn.2 h]
end
section
variable {κ β : Type}
/-- Block r ranges over the map in block b: the pairs l are still to come. -/
def RngR (ek : κ → Value) (ev : β → Value) (w : World) (r b : Nat) (l : List (κ × β)) : Prop :=
  ∃ es clock seen since c0, w.heap[b]? = some (.map es clock) ∧ (es.toList.map (·.born)).Nodup ∧ w.heap[r]? = some (.mapIter (some b) since seen c0) ∧ (∀ x ∈ es.toList, x.born < since) ∧ since ≤ c0 ∧ since ≤ clock ∧ (leftOf es seen).toList.map (fun e => (e.key, e.val)) = l.map fun p => (ek p.1, ev p.2)
variable {P : Program} {k t e : TypeId} {ek : κ → Value} {ev : β → Value} {w w' : World} {r b : Nat} {m l : List (κ × β)}
theorem RngR.kept (h : RngR ek ev w r b l) (e1 : w'.heap[b]? = w.heap[b]?) (e2 : w'.heap[r]? = w.heap[r]?) : RngR ek ev w' r b l := by
  obtain ⟨es, clock, seen, since, c0, h1, h2, h3, h4⟩ := h
  exact ⟨es, clock, seen, since, c0, e1.trans h1, h2, e2.trans h3, h4⟩
theorem RngR.ltr (h : RngR ek ev w r b l) : r < w.heap.size := by
  obtain ⟨es, clock, seen, since, c0, h1, h2, h3, h4⟩ := h
  exact (Array.getElem?_eq_some_iff.1 h3).1
theorem RngR.ltb (h : RngR ek ev w r b l) : b < w.heap.size := by
  obtain ⟨es, clock, seen, since, c0, h1, h2, h3, h4⟩ := h
  exact (Array.getElem?_eq_some_iff.1 h1).1
theorem RngR.only {S : List Nat} (h : RngR ek ev w r b l) (ho : Only w w' S) (hb : b ∉ S) (hr : r ∉ S) : RngR ek ev w' r b l :=
  h.kept (ho.block b h.ltb hb) (ho.block r h.ltr hr)
theorem MapR.range [DecidableEq κ] (ht : P.underlying t = some (.map k e)) (h : MapR P k ek ev w b m) :
    ∃ o, (Instr.range t (.map (some b))).run P w = .ok (.pointer (some ⟨w.heap.size, 0, none⟩)) (w.alloc o) ∧ RngR ek ev (w.alloc o) w.heap.size b m := by
  obtain ⟨es, c, hb, hs, hm⟩ := h.ex
  have hlt := h.lt
  refine ⟨_, run_range_map w t k e b es c ht hb, es, c, #[], c, c, by rw [heap_alloc_old w _ hlt, hb], hs.2.1, heap_alloc_new w _, hs.1, Nat.le_refl _, Nat.le_refl _, ?_⟩
  have : leftOf es #[] = es := by
    unfold leftOf
    rw [Array.filter_eq_self]
    intro x _
    simp
  rw [this, hm]
theorem leftOf_push (es : Array MapEntry) (seen : Array Nat) (x : Nat) : (leftOf es (seen.push x)).toList = (leftOf es seen).toList.filter fun y => !(y.born == x) := by
  unfold leftOf
  rw [Array.toList_filter, Array.toList_filter, List.filter_filter]
  congr 1
  funext y
  by_cases h : y.born = x
  · simp [h]
  · simp [h]
theorem only_setBlock {w w1 : World} (hw : w1 = w ∨ w1 = w.drew) {r : Nat} {o0 : Obj} (h : w.heap[r]? = some o0) (o : Obj) : Only w (ChangeMaps.setBlock w1 r o) [r] := by
  have h1 : w1.heap[r]? = some o0 := by rcases hw with rfl | rfl <;> exact h
  have ho : Only w1 (ChangeMaps.setBlock w1 r o) [r] := ⟨rfl, rfl, rfl, by simp [ChangeMaps.setBlock], fun i _ hi => (MapKept.heap_set h1).2 i (fun e => hi (by rw [e]; exact List.mem_singleton.2 rfl))⟩
  rcases hw with rfl | rfl
  · exact ho
  · exact ((Only.refl w [r]).drew).trans ho
theorem RngR.next (h : RngR ek ev w r b l) (ty : TypeId) :
    (l = [] ∧ (Instr.next (.pointer (some ⟨r, 0, none⟩)) false ty).run P w = .ok (.tuple #[.bool false]) w) ∨
    ∃ j p w', l[j]? = some p ∧ (Instr.next (.pointer (some ⟨r, 0, none⟩)) false ty).run P w = .ok (.tuple #[.bool true, ek p.1, ev p.2]) w' ∧ RngR ek ev w' r b (l.eraseIdx j) ∧ Only w w' [r] ∧
      (Instr.entry (.pointer (some ⟨r, 0, none⟩))).run P w' = .ok (.tuple #[ek p.1, ev p.2]) w' := by
  obtain ⟨es, clock, seen, since, c0, hb, hn, hr, hold, hsc, hsk, hm⟩ := h
  rcases run_next_at (P := P) w ty r b since c0 seen es clock hr hb hold hsc with ⟨h0, hrun⟩ | ⟨e0, he, w1, hw, hrun⟩
  · left
    refine ⟨?_, hrun⟩
    have := congrArg List.length hm
    simp [h0] at this
    exact List.eq_nil_of_length_eq_zero this.symm
  · right
    obtain ⟨j, hj⟩ := List.getElem?_of_mem he
    have hj' : (l.map fun p => (ek p.1, ev p.2))[j]? = some (e0.key, e0.val) := by rw [← hm, List.getElem?_map, hj]; rfl
    rw [List.getElem?_map] at hj'
    cases hp : l[j]? with
    | none => rw [hp] at hj'; cases hj'
    | some p =>
      rw [hp] at hj'
      simp only [Option.map_some, Option.some.injEq, Prod.mk.injEq] at hj'
      have hes : e0 ∈ es.toList := by
        unfold leftOf at he
        rw [Array.toList_filter] at he
        exact (List.mem_filter.1 he).1
      have hr1 : w1.heap[r]? = some (.mapIter (some b) since seen c0) := by rcases hw with rfl | rfl <;> exact hr
      have hb1 : w1.heap[b]? = some (.map es clock) := by rcases hw with rfl | rfl <;> exact hb
      have hne : b ≠ r := by
        rintro rfl
        rw [hb] at hr
        injection hr with hr
        cases hr
      have hrn : (ChangeMaps.setBlock w1 r (.mapIter (some b) since (seen.push e0.born) clock)).heap[r]? = some (.mapIter (some b) since (seen.push e0.born) clock) := (MapKept.heap_set hr1).1
      have hbn : (ChangeMaps.setBlock w1 r (.mapIter (some b) since (seen.push e0.born) clock)).heap[b]? = some (.map es clock) := ((MapKept.heap_set hr1).2 b hne).trans hb1
      refine ⟨j, p, _, hp, by rw [hj'.1, hj'.2]; exact hrun, ⟨es, clock, seen.push e0.born, since, clock, hbn, hn, hrn, hold, hsk, hsk, ?_⟩, only_setBlock hw hr _, ?_⟩
      · rw [leftOf_push, ChangeMaps.map_eraseIdx (fun p : κ × β => (ek p.1, ev p.2)), ← hm, ← ChangeMaps.map_eraseIdx]
        congr 1
        refine filter_ne_erase (·.born) ?_ hj
        have hsub : (leftOf es seen).toList.Sublist es.toList := by
          unfold leftOf
          rw [Array.toList_filter]
          exact List.filter_sublist
        exact hn.sublist (hsub.map _)
      · rw [hj'.1, hj'.2]
        exact run_entry_at _ r b since seen es clock e0 hrn hbn hes hn
end

end Go.Proofs.YtimpjlnbbdfehaaGreatDoor
namespace Go.Proofs.YtimpjlnbbdfehaaGreatDoor
open Go.RowKit Go.Shelf Go.Lib Go.Sort
set_option linter.unusedVariables false
attribute [local go_sem ↓] shr_32_1 shl_32_1 shr_32_2 shl_32_2 shr_32_3 shl_32_3 shr_32_4 shl_32_4 shr_32_5 shl_32_5 shr_32_6 shl_32_6 shr_32_7 shl_32_7 shr_32_8 shl_32_8 shr_32_9 shl_32_9 shr_32_10 shl_32_10 shr_32_11 shl_32_11 shr_32_12 shl_32_12 shr_32_13 shl_32_13 shr_32_14 shl_32_14 shr_32_15 shl_32_15 shr_32_16 shl_32_16 shr_32_17 shl_32_17 shr_32_18 shl_32_18 shr_32_19 shl_32_19 shr_32_20 shl_32_20 shr_32_21 shl_32_21 shr_32_22 shl_32_22 shr_32_23 shl_32_23 shr_32_24 shl_32_24 shr_32_25 shl_32_25 shr_32_26 shl_32_26 shr_32_27 shl_32_27 shr_32_28 shl_32_28 shr_32_29 shl_32_29 shr_32_30 shl_32_30 shr_32_31 shl_32_31 shr_64_3 shl_64_3 shr_64_7 shl_64_7 shr_64_8 shl_64_8 shr_64_16 shl_64_16 shr_64_24 shl_64_24 shr_64_32 shl_64_32 shr_64_40 shl_64_40 shr_64_48 shl_64_48 shr_64_56 shl_64_56
attribute [local go_sem] add_u32 add_u64 and_u8 or_u8 xor_u8 and_u32 or_u32 xor_u32 and_u64 or_u64 xor_u64 conv_32_8 conv_64_8 conv_64_32 conv_8_32 conv_8_64 conv_32_64

/-! ### Drop of a page that is not new -/
section
variable {w w1 w' : World} {i : Ids} {kb fb : Nat} {rv ov v : Value} {st : PS}
theorem PgC.freshLook (h : PgC w i kb fb rv ov st) (K : Int) (hK : I64 K) : (Instr.lookup 124 (.map (some fb)) (.int .i64 K) false).run Tryz.prog w = .ok (.bool ((mget st.fresh K).getD false)) w := by
  have := MapR.look K3 ki_inj Tryz.underlying124 (z := .bool false) (w := w) (by kernel_rfl) h.fresh K (key3 hK)
  have e : ((mget st.fresh K).map Value.bool).getD (.bool false) = .bool ((mget st.fresh K).getD false) := by cases mget st.fresh K <;> rfl
  rw [e] at this
  exact this
/-- The places let go behind an append (slot 11 is not written yet). -/
theorem PgC.pushO (h : PgC w i kb fb rv ov st) {k : Int} (hm : Mid w1 1 3 1 v (st.old.length + 1) (ints st.old ++ [.int .i64 k])) (hg : w.grownBy w1 ov.ownBlock) :
    ∃ A cap, v = .slice A (st.old.length + 1) cap ∧ w1.cell? ⟨i.p, 11, none⟩ = some ov ∧ w1.frozen? ⟨i.p, 11, none⟩ = false ∧
      PgC (w1.setCell ⟨i.p, 11, none⟩ v) i kb fb rv v { st with old := st.old ++ [k] } ∧ Only w (w1.setCell ⟨i.p, 11, none⟩ v) (pfp i.p kb fb rv ov) := by
  have hO : Only w w1 ov.ownBlock.toList := Only.of_grown hg (fun g e => by simp [e])
  have hbox : Blk w1 i.p 126 _ := hO.blk h.box (by simpa using fun e => h.po e)
  have hkept := h.kept.only hO (by simpa using fun e => h.ko e)
  have hfresh := h.fresh.only hO (by simpa using fun e => h.fo e)
  have hrow := h.row.only hO (fun g hg hx => by
    have : ov.ownBlock = some g := by simpa using hx
    exact h.ro g hg this)
  obtain ⟨A, cap, rfl, _, _, _⟩ := hm.form
  have hS : Only w1 (w1.setCell ⟨i.p, 11, none⟩ (.slice A (st.old.length + 1) cap)) [i.p] := (Only.refl w1 [i.p]).setCell (List.mem_singleton.2 rfl) _
  refine ⟨A, cap, rfl, hbox.cell 11, hbox.frozen 11, ⟨?_, hkept.only hS (by simpa using h.kp), hfresh.only hS (by simpa using h.fp), ?_, ?_, h.p1, h.p2, h.p3, h.ne⟩, ?_⟩
  · exact hbox.set_ 11 _
  · exact hrow.only hS (fun g hg e => by
      rw [List.mem_singleton] at e
      subst e
      exact h.pr hg)
  · have := hm.only hS (fun g hg e => by
      rw [List.mem_singleton] at e
      subst e
      exact hm.ne_blk hbox (by decide) hg)
    simpa [ints] using this
  · exact (hO.mono (by intro x hx; simp only [pfp, List.mem_cons, List.mem_append]; exact .inr (.inr (.inr (.inr hx))))).setCell (by simp [pfp]) _
theorem fresh_pfpO {p : Nat} (h : v.ownBlock = ov.ownBlock ∨ ∃ g, v.ownBlock = some g ∧ w.heap.size ≤ g) : Fresh w (pfp p kb fb rv ov) (pfp p kb fb rv v) := by
  intro x hx
  simp only [pfp, List.mem_cons, List.mem_append, Option.mem_toList] at hx ⊢
  rcases hx with rfl | rfl | rfl | hx | hx
  · exact .inl (.inl rfl)
  · exact .inl (.inr (.inl rfl))
  · exact .inl (.inr (.inr (.inl rfl)))
  · exact .inl (.inr (.inr (.inr (.inl hx))))
  · rcases h with h | ⟨g, hg, hl⟩
    · exact .inl (.inr (.inr (.inr (.inr (by rw [← h]; exact hx)))))
    · rw [hg] at hx
      injection hx with hx
      exact .inr (by rw [← hx]; exact hl)
end
set_option maxHeartbeats 4000000 in
set_option maxRecDepth 100000 in
theorem drop_old {w : World} {i : Ids} {st : PS} {own : Nat → Nat} {n : Nat} (h : SysC w i st own) (ok : st.okN n) (hn : n ≤ 900000) (r : Ref) (hr : RefOk r) (hp : 0 ≤ r.place) (hf : (mget (st.lose r).fresh r.place).getD false = false) :
    Calls Tryz.prog 32 #[.pointer (some ⟨i.p, 0, none⟩), .agg #[.int .i64 r.place, .string r.sum]] w (PT i w own (st.drop r) (.tuple #[])) := by
  have hL : st.drop r = { st.lose r with old := (st.lose r).old ++ [r.place] } := by unfold PS.drop; rw [if_neg (by omega), if_neg (by rw [hf]; decide)]
  rw [hL]
  obtain ⟨h0, k0⟩ := h.box0 (.cells #[.int .i64 r.place, .string r.sum] 54)
  have HB0 : Hid (Blk (w.alloc (.cells #[.int .i64 r.place, .string r.sum] 54)) w.heap.size 54 #[.int .i64 r.place, .string r.sum]) := Blk.new w 54 _
  have Z0 : Hid (mark w own 0 w.heap.size = 0) := mark_new (Nat.le_refl _)
  have H0 := Lib.hid h0
  have K0 := Lib.hid k0
  have HLO := Lib.hid (fun w1 own1 (h1 : SysC w1 i st own1) => lose_ok h1 r hr (by have := ok.row; omega))
  have HOL : Hid ((st.lose r).old.length ≤ 900000) := Nat.le_trans (PS.lose_okN ok r).old hn
  have HRO := Lib.hid hr
  have hpl : decide (r.place < 0) = false := by simp; omega
  have HF := Lib.hid hf
  have b0' := HB0.out.cell 0
  clear h h0 k0 hr hL ok hf
  generalize st.lose r = s1 at *
  generalize mark w own 0 = own0 at *
  obtain ⟨i0, hi0, hz0, hz1, hz2⟩ := info_parts info3
  go_enter Tryz.func32, Tryz.ntmps32
  go_wp2_with fail
  refine (HLO.out _ _ H0.out).mono ?_
  rintro e w1 ⟨rfl, own1, h1, k1⟩
  have HB1 := Lib.hid (k1.blk HB0.out Z0.out)
  have Z1 := Lib.hid ((k1.same _ HB0.out.lt).trans Z0.out)
  obtain ⟨kb, fb, rv, ov, hp1, hO1⟩ := h1.pg
  have HEND : Hid (∀ w' ov' st', st'.d = s1.d → st'.v = s1.v → st'.b = s1.b → st'.s = s1.s → PgC w' i kb fb rv ov' st' → Only w1 w' (pfp i.p kb fb rv ov) → Fresh w1 (pfp i.p kb fb rv ov) (pfp i.p kb fb rv ov') → ∃ own', SysC w' i st' own' ∧ Keeps w w' own own') := fun w' ov' st' e1 e2 e3 e4 hp' ho hf => by
    obtain ⟨a, b⟩ := h1.pg_step e1 e2 e3 e4 hO1 hp1.lt hp' ho hf
    exact ⟨_, a, (K0.out.trans k1).trans b⟩
  have HGN : Hid (w.heap.size ∉ ov.ownBlock.toList) := fun hx => by
    have := hO1 w.heap.size (by simp only [pfp, List.mem_cons, List.mem_append]; exact .inr (.inr (.inr (.inr hx))))
    rw [Z1.out] at this
    cases this
  have HP1 := Lib.hid hp1
  have hl0 := fun n => (hp1.drewN n).freshLook r.place HRO.out.1
  rw [HF.out] at hl0
  have hl1 := hl0 0
  have c10 := hp1.box.cell 10
  clear b0'
  have b0 := HB1.out.cell 0
  clear h1 k1 hp1 hO1 HLO HB0 H0 K0 Z0
  go_wp2_with fail
  go_quiet (fail)
  go_wp2_with fail
  have c11 : (w1.drewN nq).cell? ⟨i.p, 11, none⟩ = some ov := (HP1.out.drewN nq).box.cell 11
  have b0' : (w1.drewN nq).cell? ⟨w.heap.size, 0, none⟩ = some (.int .i64 r.place) := b0
  clear c10 b0 hl0 hl1
  refine wp_region_plan (fun w' => w'.cell? ⟨i.p, 11, none⟩ = some ov ∧ w'.cell? ⟨w.heap.size, 0, none⟩ = some (.int .i64 r.place)) 9 [(true, 0), (true, 1), (true, 2), (true, 3), (true, 4), (true, 5), (true, 6), (false, 7), (false, 8)] (by kernel_rfl) (by kernel_rfl) ⟨c11, b0'⟩ ?_
  simp only [List.map_cons, List.map_nil, List.getD_cons_zero, List.getD_cons_succ, List.drop_succ_cons, List.drop_zero]
  (refine plan_take (v := ?_) rfl ?_ ?_; rotate_left; (rintro wS ⟨hS1, hS2⟩; (try dsimp only at hS1 hS2); go_simp; try with_reducible rfl); simp only [Act.put, List.setIfInBounds_toArray, List.set_cons_zero, List.set_cons_succ])
  (refine plan_take (v := ?_) rfl ?_ ?_; rotate_left; (rintro wS ⟨hS1, hS2⟩; (try dsimp only at hS1 hS2); go_simp; try with_reducible rfl); simp only [Act.put, List.setIfInBounds_toArray, List.set_cons_zero, List.set_cons_succ])
  (refine plan_take (v := ?_) rfl ?_ ?_; rotate_left; (rintro wS ⟨hS1, hS2⟩; (try dsimp only at hS1 hS2); go_simp; try with_reducible rfl); simp only [Act.put, List.setIfInBounds_toArray, List.set_cons_zero, List.set_cons_succ])
  (refine plan_take (v := ?_) rfl ?_ ?_; rotate_left; (rintro wS ⟨hS1, hS2⟩; (try dsimp only at hS1 hS2); go_simp; try with_reducible rfl); simp only [Act.put, List.setIfInBounds_toArray, List.set_cons_zero, List.set_cons_succ])
  (refine plan_take (v := ?_) rfl ?_ ?_; rotate_left; (rintro wS ⟨hS1, hS2⟩; (try dsimp only at hS1 hS2); go_simp; try with_reducible rfl); simp only [Act.put, List.setIfInBounds_toArray, List.set_cons_zero, List.set_cons_succ])
  (refine plan_take (v := ?_) rfl ?_ ?_; rotate_left; (rintro wS ⟨hS1, hS2⟩; (try dsimp only at hS1 hS2); go_simp; try with_reducible rfl); simp only [Act.put, List.setIfInBounds_toArray, List.set_cons_zero, List.set_cons_succ])
  (refine plan_take (v := ?_) rfl ?_ ?_; rotate_left; (rintro wS ⟨hS1, hS2⟩; (try dsimp only at hS1 hS2); go_simp; try with_reducible rfl); simp only [Act.put, List.setIfInBounds_toArray, List.set_cons_zero, List.set_cons_succ])
  refine plan_run rfl (fun K hK => ?_)
  go_simp
  refine hK.out _ _ ⟨((HP1.out.drewN (nq + 1)).alloc _).box.cell 11, (HB1.out.drewN (nq + 1)).alloc _ |>.cell 0⟩ ?_
  clear hK K
  try simp only [Act.put, List.setIfInBounds_toArray, List.set_cons_zero, List.set_cons_succ]
  refine plan_run rfl (fun K hK => ?_)
  refine wp_append_mid _ (.tmp 38) (.tmp 41) 44 rfl 1 3 i0 (.int .i64 0) 1 8 Tryz.underlying44 hi0 hz0 hz1 hz2 rfl (by decide) _ _ _ rfl ((HP1.out.drewN (nq + 1)).old.alloc _) (some ⟨w1.heap.size, 0, none⟩) 1 1 [.int .i64 r.place] rfl rfl (row_one _ _ _) (by simp [Value.oneCell']) (by have := HOL.out; simp only [maxLen]; omega) (by have := HOL.out; show (s1.old.length + 1) * 8 ≤ _; omega) (by simp) ?_
  intro v4 w4 hm4 hg4 ho4
  obtain ⟨A, cap, rfl, e2, e3, hp5, ho5⟩ := ((HP1.out.drewN (nq + 1)).alloc (.cells #[.int .i64 r.place] 3)).pushO (k := r.place) hm4 hg4
  have hb4 : Blk w4 w.heap.size 54 #[.int .i64 r.place, .string r.sum] := (Only.of_grown hg4 (S := ov.ownBlock.toList) (fun g e => Option.mem_toList.2 e)).blk ((HB1.out.drewN (nq + 1)).alloc _) HGN.out
  have HF5 : Hid (Fresh w1 (pfp i.p kb fb rv ov) (pfp i.p kb fb rv (.slice A (s1.old.length + 1) cap))) := fresh_pfpO (ho4.imp id fun e => ⟨_, e, by simp⟩)
  have HP5 := Lib.hid hp5
  have HO5 := Lib.hid ((((Only.refl w1 _).drewN (nq + 1)).alloc _).trans ho5)
  have HE5 := Lib.hid (HEND.out _ _ { s1 with old := s1.old ++ [r.place] } rfl rfl rfl rfl HP5.out HO5.out HF5.out)
  refine hK.out _ _ ⟨e2, hb4.cell 0⟩ ?_
  clear hK K hm4 hg4 ho4 hp5 ho5 hb4 HEND HP5 HO5 HF5 HP1 HB1
  try simp only [Act.put, List.setIfInBounds_toArray, List.set_cons_zero, List.set_cons_succ]
  refine plan_nil ?_
  go_wp2_with fail
  refine NoPanic.normal ?_
  go_wp2_with fail
  go_end0
  exact ⟨rfl, HE5.out⟩
theorem drop_ok {w : World} {i : Ids} {st : PS} {own : Nat → Nat} {n : Nat} (h : SysC w i st own) (ok : st.okN n) (hn : n ≤ 900000) (r : Ref) (hr : RefOk r) :
    Calls Tryz.prog 32 #[.pointer (some ⟨i.p, 0, none⟩), .agg #[.int .i64 r.place, .string r.sum]] w (PT i w own (st.drop r) (.tuple #[])) := by
  by_cases hp : r.place < 0
  · exact drop_neg h r hp
  · cases hf : (mget (st.lose r).fresh r.place).getD false
    · exact drop_old h ok hn r hr (by omega) hf
    · exact drop_fresh h ok hn r hr (by omega) hf

end Go.Proofs.YtimpjlnbbdfehaaGreatDoor
namespace Go.Proofs.YtimpjlnbbdfehaaGreatDoor
open Go.RowKit Go.Shelf Go.Lib Go.Sort
set_option linter.unusedVariables false
attribute [local go_sem ↓] shr_32_1 shl_32_1 shr_32_2 shl_32_2 shr_32_3 shl_32_3 shr_32_4 shl_32_4 shr_32_5 shl_32_5 shr_32_6 shl_32_6 shr_32_7 shl_32_7 shr_32_8 shl_32_8 shr_32_9 shl_32_9 shr_32_10 shl_32_10 shr_32_11 shl_32_11 shr_32_12 shl_32_12 shr_32_13 shl_32_13 shr_32_14 shl_32_14 shr_32_15 shl_32_15 shr_32_16 shl_32_16 shr_32_17 shl_32_17 shr_32_18 shl_32_18 shr_32_19 shl_32_19 shr_32_20 shl_32_20 shr_32_21 shl_32_21 shr_32_22 shl_32_22 shr_32_23 shl_32_23 shr_32_24 shl_32_24 shr_32_25 shl_32_25 shr_32_26 shl_32_26 shr_32_27 shl_32_27 shr_32_28 shl_32_28 shr_32_29 shl_32_29 shr_32_30 shl_32_30 shr_32_31 shl_32_31 shr_64_3 shl_64_3 shr_64_7 shl_64_7 shr_64_8 shl_64_8 shr_64_16 shl_64_16 shr_64_24 shl_64_24 shr_64_32 shl_64_32 shr_64_40 shl_64_40 shr_64_48 shl_64_48 shr_64_56 shl_64_56
attribute [local go_sem] add_u32 add_u64 and_u8 or_u8 xor_u8 and_u32 or_u32 xor_u32 and_u64 or_u64 xor_u64 conv_32_8 conv_64_8 conv_64_32 conv_8_32 conv_8_64 conv_32_64

/-! ### PagerPlays: drop, done, undo -/
theorem filter_ne_erase' {α : Type} (f : α → Int) : ∀ {L : List α} {j : Nat} {x : α}, (L.map f).Nodup → L[j]? = some x → (L.filter fun y => !(f y == f x)) = L.eraseIdx j
  | [], j, x, _, h => by simp at h
  | a :: r, 0, x, hn, h => by
    simp only [List.getElem?_cons_zero, Option.some.injEq] at h
    subst h
    simp only [List.map_cons, List.nodup_cons] at hn
    rw [List.filter_cons_of_neg (by simp), List.eraseIdx_cons_zero, List.filter_eq_self]
    intro y hy
    have : f y ≠ f a := fun e => hn.1 (by rw [← e]; exact List.mem_map.2 ⟨y, hy, rfl⟩)
    simp [this]
  | a :: r, j + 1, x, hn, h => by
    simp only [List.getElem?_cons_succ] at h
    simp only [List.map_cons, List.nodup_cons] at hn
    have hne : f a ≠ f x := fun e => hn.1 (by rw [e]; exact List.mem_map.2 ⟨x, List.mem_of_getElem? h, rfl⟩)
    rw [List.filter_cons_of_pos (by simp [hne]), List.eraseIdx_cons_succ, filter_ne_erase' f hn.2 h]
theorem mem_mdel {m : List (Int × Bool)} (hn : (m.map (·.1)).Nodup) (x k : Int) : k ∈ (mdel m x).map (·.1) ↔ k ∈ m.map (·.1) ∧ k ≠ x := by
  have e : ∀ (l : List (Int × Bool)), k ∈ l.map (·.1) ↔ mget l k ≠ none := fun l => by
    constructor
    · intro h hm
      obtain ⟨p, hp, e⟩ := List.mem_map.1 h
      exact mget_none_iff.1 hm p hp e
    · intro h
      cases hm : mget l k with
      | none => exact absurd hm h
      | some v => exact List.mem_map.2 ⟨_, mget_mem hm, rfl⟩
  rw [e, e, mget_mdel _ hn]
  by_cases h : x = k
  · simp [h]
  · simp [h, Ne.symm h]
def PS.done (st : PS) : PS := { st with s := st.old.foldl SpS.dropI st.s, fresh := [], old := [] }
def PS.isFresh (st : PS) (k : Int) : Bool := (mget st.fresh k).getD false
def unkeep (f : Int → Bool) (kept : List (Ref × ByteArray)) (r : Ref) : List (Ref × ByteArray) := if f r.place = true then mdel kept r else kept
def PS.undo (st : PS) : PS := { st with s := (st.fresh.map (·.1)).foldl SpS.dropI st.s, kept := st.row.foldl (unkeep st.isFresh) st.kept, row := st.row.filter fun r => !st.isFresh r.place, fresh := [], old := [] }
section
variable {n : Nat} {all : List Pg} {d : DS} {key : ByteArray} {s : SpS} {fresh : List (Int × Bool)} {old : List Int} {kept : List (Ref × ByteArray)} {row : List Ref} {most : Nat} {st : PS}
theorem lose_kept (st : PS) (hn : (st.kept.map (·.1)).Nodup) (r q : Ref) : mget (st.lose r).kept q = if r = q then none else mget st.kept q := by
  unfold PS.lose
  split
  · exact mget_mdel _ hn r q
  · next h =>
    split
    · next e => subst e; simpa using h
    · rfl
theorem lose_rest (st : PS) (r : Ref) : (st.lose r).d = st.d ∧ (st.lose r).v = st.v ∧ (st.lose r).s = st.s ∧ (st.lose r).fresh = st.fresh ∧ (st.lose r).old = st.old ∧ (st.lose r).most = st.most := by
  unfold PS.lose
  split <;> exact ⟨rfl, rfl, rfl, rfl, rfl, rfl⟩
theorem PlayK.lose (h : PlayK all st.kept st.row st.most) (r : Ref) : (∀ q t, mget (st.lose r).kept q = some t → q ≠ r ∧ ∃ x ∈ all, x.r = q ∧ x.s = t ∧ x.old = false) ∧ (∀ q t, mget (st.lose r).kept q = some t → q ∈ (st.lose r).row) ∧ ((st.lose r).kept.map (·.1)).Nodup ∧ (st.lose r).row.length ≤ (st.lose r).most := by
  have hk := lose_kept st h.kn r
  refine ⟨fun q t hq => ?_, fun q t hq => ?_, ?_, ?_⟩
  · rw [hk] at hq
    split at hq
    · cases hq
    · next e => exact ⟨fun e' => e e'.symm, h.has q t hq⟩
  · rw [hk] at hq
    split at hq
    · cases hq
    · next e =>
      have := h.krow q t hq
      unfold PS.lose
      split
      · exact List.mem_filter.2 ⟨this, by simp [Ne.symm e]⟩
      · exact this
  · unfold PS.lose
    split
    · exact h.kn.sublist (mdel_keys _ _)
    · exact h.kn
  · unfold PS.lose
    split
    · exact Nat.le_trans (List.length_filter_le _ _) h.row
    · exact h.row
theorem erase_mem {l : List Pg} (hn : (l.map (·.r.place)).Nodup) {k : Nat} {x : Pg} (hx : l[k]? = some x) (y : Pg) : y ∈ l.eraseIdx k ↔ y ∈ l ∧ y.r.place ≠ x.r.place := by
  have hk := (List.getElem?_eq_some_iff.1 hx).1
  have e := filter_ne_erase' (fun p : Pg => p.r.place) hn hx
  rw [← e, List.mem_filter]
  simp
theorem PlayI.drop_fresh (h : PlayI n all st) {k : Nat} {x : Pg} (hx : all[k]? = some x) (ho : x.old = false) (hf : x.fresh = true) : PlayI n (all.eraseIdx k) (st.drop x.r) ∧ (st.drop x.r).most = st.most ∧ 0 ≤ x.r.place ∧ (mget (st.lose x.r).fresh x.r.place).getD false = true := by
  obtain ⟨hA, hK⟩ := h
  have hxm : x ∈ all := List.mem_of_getElem? hx
  have hr := hA.rng x hxm
  obtain ⟨l1, l2, l3, l4, l5, l6⟩ := lose_rest st x.r
  have hfr : (mget (st.lose x.r).fresh x.r.place).getD false = true := by
    rw [l4]
    exact (mget_true hA.ft _).2 ((hA.fm _).2 ⟨x, hxm, rfl, hf⟩)
  have hD : st.drop x.r = { st.lose x.r with fresh := mdel (st.lose x.r).fresh x.r.place, s := (st.lose x.r).s.dropI x.r.place } := by
    unfold PS.drop
    rw [if_neg (by omega), if_pos hfr]
  have hmem := erase_mem hA.nd hx
  have hsub : ∀ y ∈ all.eraseIdx k, y ∈ all := fun y hy => ((hmem y).1 hy).1
  have hkl : k < all.length := (List.getElem?_eq_some_iff.1 hx).1
  refine ⟨?_, by rw [hD]; exact l6, by omega, hfr⟩
  rw [hD]
  obtain ⟨q1, q2, q3, q4⟩ := hK.lose x.r
  refine ⟨?_, ⟨fun r t ht => ?_, q2, q3, q4⟩⟩
  · show PlayA n (all.eraseIdx k) (st.lose x.r).d (st.lose x.r).v.key ((st.lose x.r).s.dropI x.r.place) (mdel (st.lose x.r).fresh x.r.place) (st.lose x.r).old
    rw [l1, l2, l3, l4, l5]
    have hf0 : 0 ≤ st.s.first := by rw [hA.sf]; decide
    refine ⟨hA.len, by rw [SpS.dropI_len]; exact hA.sl, by rw [SpS.dropI_first]; exact hA.sf, ?_, ?_, fun y hy => hA.rng y (hsub y hy), fun j hj => ?_, fun y hy => hA.txt y (hsub y hy), fun y hy => hA.small y (hsub y hy), fun j => ?_, fun p hp => hA.ft p ((mdel_sub _ _).subset hp), hA.fn.sublist (mdel_keys _ _), fun j => ?_, hA.on, hA.cnt.dropI _⟩
    · have hg : st.s.gone x.r.place = true := by
        have e : x.r.place = ((x.r.place.toNat : Nat) : Int) := by omega
        rw [e, SpS.gone_iff, hA.sf]
        exact ⟨by omega, (hA.tak _ (by omega)).2 ⟨x, hxm, e⟩⟩
      have hd1 : (st.s.dropI x.r.place).many = st.s.many - 1 := by
        unfold SpS.dropI
        rw [if_pos hg]
        rfl
      rw [hd1, hA.many, List.length_eraseIdx_of_lt hkl]
      omega
    · exact hA.nd.sublist ((List.eraseIdx_sublist _ _).map _)
    · rw [SpS.dropI_get _ hf0 _ (by rw [hA.sf]; omega), Bool.and_eq_true, hA.tak j hj]
      constructor
      · rintro ⟨⟨y, hy, e⟩, h2⟩
        refine ⟨y, (hmem y).2 ⟨hy, fun e' => ?_⟩, e⟩
        rw [← e, e'] at h2
        simp at h2
      · rintro ⟨y, hy, e⟩
        obtain ⟨h1, h2⟩ := (hmem y).1 hy
        exact ⟨⟨y, h1, e⟩, by rw [← e]; simp [h2]⟩
    · rw [mem_mdel hA.fn, hA.fm j]
      constructor
      · rintro ⟨⟨y, hy, e, h2⟩, hne⟩
        exact ⟨y, (hmem y).2 ⟨hy, by rw [e]; exact hne⟩, e, h2⟩
      · rintro ⟨y, hy, e, h2⟩
        obtain ⟨h1, h3⟩ := (hmem y).1 hy
        exact ⟨⟨y, h1, e, h2⟩, by rw [← e]; exact h3⟩
    · rw [hA.om j]
      constructor
      · rintro ⟨y, hy, e, h2⟩
        refine ⟨y, (hmem y).2 ⟨hy, fun e' => ?_⟩, e, h2⟩
        have := nd_same hA.nd hy hxm e'
        rw [this, ho] at h2
        cases h2
      · rintro ⟨y, hy, h⟩
        exact ⟨y, hsub y hy, h⟩
  · obtain ⟨hne, y, hy, e1, e2⟩ := q1 r t ht
    refine ⟨y, (hmem y).2 ⟨hy, fun e' => hne ?_⟩, e1, e2⟩
    have := nd_same hA.nd hy hxm e'
    rw [← e1, this]
theorem PlayI.drop_old (h : PlayI n all st) {k : Nat} {x : Pg} (hx : all[k]? = some x) (ho : x.old = false) (hf : x.fresh = false) : PlayI n (all.set k ⟨x.r, x.s, false, true⟩) (st.drop x.r) ∧ (st.drop x.r).most = st.most ∧ 0 ≤ x.r.place ∧ (mget (st.lose x.r).fresh x.r.place).getD false = false := by
  obtain ⟨hA, hK⟩ := h
  have hxm : x ∈ all := List.mem_of_getElem? hx
  have hr := hA.rng x hxm
  obtain ⟨l1, l2, l3, l4, l5, l6⟩ := lose_rest st x.r
  have hfr : (mget (st.lose x.r).fresh x.r.place).getD false = false := by
    rw [l4, Bool.eq_false_iff]
    intro h
    obtain ⟨y, hy, e, h2⟩ := (hA.fm _).1 ((mget_true hA.ft _).1 h)
    have := nd_same hA.nd hy hxm e
    rw [this, hf] at h2
    cases h2
  have hD : st.drop x.r = { st.lose x.r with old := (st.lose x.r).old ++ [x.r.place] } := by
    unfold PS.drop
    rw [if_neg (by omega), if_neg (by rw [hfr]; decide)]
  obtain ⟨x1, hx1⟩ : ∃ x1 : Pg, x1 = ⟨x.r, x.s, false, true⟩ := ⟨_, rfl⟩
  have hkl : k < all.length := (List.getElem?_eq_some_iff.1 hx).1
  rw [← hx1]
  have hmap : (all.set k x1).map (·.r.place) = all.map (·.r.place) := by
    rw [List.map_set]
    apply List.ext_getElem?
    intro i
    rw [List.getElem?_set]
    split
    · next e =>
      subst e
      rw [List.getElem?_map, hx, hx1]
      simp [hkl]
    · rfl
  have hmem : ∀ y, y ∈ all.set k x1 ↔ y = x1 ∨ (y ∈ all ∧ y.r.place ≠ x.r.place) := fun y => by
    rw [← erase_mem hA.nd hx]
    constructor
    · intro hy
      obtain ⟨j, hj⟩ := List.getElem?_of_mem hy
      rw [List.getElem?_set] at hj
      split at hj
      · injection hj with hj
        exact .inl hj.symm
      · next e => 
        refine .inr ?_
        rw [List.mem_iff_getElem?]
        by_cases hjk : j < k
        · exact ⟨j, by rw [List.getElem?_eraseIdx_of_lt hjk]; exact hj⟩
        · refine ⟨j - 1, ?_⟩
          rw [List.getElem?_eraseIdx_of_ge (by omega)]
          rw [show j - 1 + 1 = j by omega]
          exact hj
    · rintro (rfl | hy)
      · exact List.mem_iff_getElem?.2 ⟨k, by simp [hkl]⟩
      · obtain ⟨j, hj⟩ := List.mem_iff_getElem?.1 hy
        rw [List.mem_iff_getElem?]
        by_cases hjk : j < k
        · rw [List.getElem?_eraseIdx_of_lt hjk] at hj
          exact ⟨j, by rw [List.getElem?_set_ne (by omega)]; exact hj⟩
        · rw [List.getElem?_eraseIdx_of_ge (by omega)] at hj
          exact ⟨j + 1, by rw [List.getElem?_set_ne (by omega)]; exact hj⟩
  have hq : ∀ (P : Pg → Prop), (P x1 ↔ P x) → ((∃ y ∈ all.set k x1, P y) ↔ ∃ y ∈ all, P y) := fun P hP => by
    constructor
    · rintro ⟨y, hy, h⟩
      rcases (hmem y).1 hy with rfl | hy
      · exact ⟨x, hxm, hP.1 h⟩
      · exact ⟨y, hy.1, h⟩
    · rintro ⟨y, hy, h⟩
      by_cases e : y.r.place = x.r.place
      · have := nd_same hA.nd hy hxm e
        subst this
        exact ⟨x1, (hmem _).2 (.inl rfl), hP.2 h⟩
      · exact ⟨y, (hmem y).2 (.inr ⟨hy, e⟩), h⟩
  have hall : ∀ (P : Pg → Prop), P x1 → (∀ y ∈ all, P y) → ∀ y ∈ all.set k x1, P y := fun P h1 h2 y hy => by
    rcases (hmem y).1 hy with rfl | hy
    · exact h1
    · exact h2 y hy.1
  have r1 : x1.r = x.r := by rw [hx1]
  have s1 : x1.s = x.s := by rw [hx1]
  refine ⟨?_, by rw [hD]; exact l6, by omega, hfr⟩
  rw [hD]
  obtain ⟨q1, q2, q3, q4⟩ := hK.lose x.r
  refine ⟨?_, ⟨fun r t ht => ?_, q2, q3, q4⟩⟩
  · show PlayA n (all.set k x1) (st.lose x.r).d (st.lose x.r).v.key (st.lose x.r).s (st.lose x.r).fresh ((st.lose x.r).old ++ [x.r.place])
    rw [l1, l2, l3, l4, l5]
    have hno : x.r.place ∉ st.old := fun hm => by
      obtain ⟨y, hy, e, h2⟩ := (hA.om _).1 hm
      have := nd_same hA.nd hy hxm e
      rw [this, ho] at h2
      cases h2
    refine ⟨hA.len, hA.sl, hA.sf, by rw [List.length_set]; exact hA.many, by rw [hmap]; exact hA.nd, hall _ (by rw [r1]; exact hr) hA.rng, fun j hj => ?_, hall _ (by rw [r1, s1]; exact hA.txt x hxm) hA.txt, hall _ (by rw [s1]; exact hA.small x hxm) hA.small, fun j => ?_, hA.ft, hA.fn, fun j => ?_, ?_, hA.cnt⟩
    · rw [hA.tak j hj, hq (fun y => y.r.place = (j : Int)) (by rw [r1])]
    · rw [hA.fm j, hq (fun y => y.r.place = j ∧ y.fresh = true) (by rw [r1, hx1, hf])]
    · rw [List.mem_append, List.mem_singleton, hA.om j]
      constructor
      · rintro (⟨y, hy, e, h2⟩ | rfl)
        · refine ⟨y, (hmem y).2 (.inr ⟨hy, fun e' => hno ?_⟩), e, h2⟩
          rw [← e']
          exact (hA.om _).2 ⟨y, hy, rfl, h2⟩
        · exact ⟨x1, (hmem _).2 (.inl rfl), by rw [r1], by rw [hx1]⟩
      · rintro ⟨y, hy, e, h2⟩
        rcases (hmem y).1 hy with rfl | hy
        · exact .inr (by rw [← e, r1])
        · exact .inl ⟨y, hy.1, e, h2⟩
    · rw [List.nodup_append]
      refine ⟨hA.on, by simp, ?_⟩
      intro a ha b hb e
      rw [List.mem_singleton] at hb
      exact hno (by rw [← hb, ← e]; exact ha)
  · obtain ⟨hne, y, hy, e1, e2, e3⟩ := q1 r t ht
    refine ⟨y, (hmem y).2 (.inr ⟨hy, fun e' => hne ?_⟩), e1, e2, e3⟩
    have := nd_same hA.nd hy hxm e'
    rw [← e1, this]
theorem reset_mem {l : List Pg} {p : Pg → Bool} {P : Pg → Prop} (hP : ∀ x, P x.reset ↔ P x) : (∃ y ∈ (l.filter p).map Pg.reset, P y) ↔ ∃ x ∈ l, p x = true ∧ P x := by
  constructor
  · rintro ⟨y, hy, h⟩
    obtain ⟨x, hx, rfl⟩ := List.mem_map.1 hy
    obtain ⟨h1, h2⟩ := List.mem_filter.1 hx
    exact ⟨x, h1, h2, (hP x).1 h⟩
  · rintro ⟨x, hx, h1, h2⟩
    exact ⟨x.reset, List.mem_map.2 ⟨x, List.mem_filter.2 ⟨hx, h1⟩, rfl⟩, (hP x).2 h2⟩
theorem reset_map (l : List Pg) : (l.map Pg.reset).map (·.r.place) = l.map (·.r.place) := by
  rw [List.map_map]
  rfl
/-- The pages of which p is not so are let go. -/
theorem PlayA.cut (h : PlayA n all d key s fresh old) (p : Pg → Bool) (l : List Int) (hl : ∀ k, k ∈ l ↔ ∃ x ∈ all, x.r.place = k ∧ p x = false) (hn : l.Nodup) : PlayA n ((all.filter p).map Pg.reset) d key (l.foldl SpS.dropI s) [] [] := by
  have hf0 : 0 ≤ s.first := by rw [h.sf]; decide
  have hl2 : ∀ k ∈ l, 2 ≤ k ∧ s.gone k = true := fun k hk => by
    obtain ⟨x, hx, e, _⟩ := (hl k).1 hk
    have hr := h.rng x hx
    have e2 : k = ((k.toNat : Nat) : Int) := by omega
    refine ⟨by omega, ?_⟩
    rw [e2, SpS.gone_iff, h.sf]
    exact ⟨by omega, (h.tak _ (by omega)).2 ⟨x, hx, by rw [e]; exact e2⟩⟩
  have hall : ∀ (P : Pg → Prop), (∀ x, P x.reset ↔ P x) → (∀ x ∈ all, P x) → ∀ y ∈ (all.filter p).map Pg.reset, P y := fun P hP h1 y hy => by
    obtain ⟨x, hx, rfl⟩ := List.mem_map.1 hy
    exact (hP x).2 (h1 x (List.mem_filter.1 hx).1)
  have hno : ∀ y ∈ (all.filter p).map Pg.reset, y.fresh = false ∧ y.old = false := fun y hy => by
    obtain ⟨x, _, rfl⟩ := List.mem_map.1 hy
    exact ⟨rfl, rfl⟩
  refine ⟨h.len, by rw [drops_len]; exact h.sl, by rw [drops_first]; exact h.sf, ?_, ?_, hall _ (fun _ => Iff.rfl) h.rng, fun k hk => ?_, hall _ (fun _ => Iff.rfl) h.txt, hall _ (fun _ => Iff.rfl) h.small, fun k => ?_, (fun p hp => by cases hp), List.nodup_nil, fun k => ?_, List.nodup_nil, drops_okC h.cnt⟩
  · rw [drops_many l s hf0 hn (fun k hk => (hl2 k hk).2), h.many, List.length_map]
    have h1 := filter_split p all
    have h2 : l.length = ((all.filter fun x => !p x).map (·.r.place)).length := nodup_same hn (h.nd.sublist (List.filter_sublist.map _)) fun k => by
      rw [hl k, List.mem_map]
      constructor
      · rintro ⟨x, hx, e, h3⟩
        exact ⟨x, List.mem_filter.2 ⟨hx, by simp [h3]⟩, e⟩
      · rintro ⟨x, hx, e⟩
        obtain ⟨h4, h5⟩ := List.mem_filter.1 hx
        exact ⟨x, h4, e, by simpa using h5⟩
    rw [List.length_map] at h2
    omega
  · rw [reset_map]
    exact h.nd.sublist (List.filter_sublist.map _)
  · rw [drops_get l s hf0 (fun m hm => by rw [h.sf]; exact (hl2 m hm).1), Bool.and_eq_true, h.tak k hk, reset_mem (P := fun y => y.r.place = (k : Int)) (fun _ => Iff.rfl)]
    constructor
    · rintro ⟨⟨x, hx, e⟩, h2⟩
      refine ⟨x, hx, ?_, e⟩
      cases hp : p x
      · have : (k : Int) ∈ l := (hl _).2 ⟨x, hx, e, hp⟩
        simp [this] at h2
      · rfl
    · rintro ⟨x, hx, hp, e⟩
      refine ⟨⟨x, hx, e⟩, ?_⟩
      have : ¬ (k : Int) ∈ l := fun hm => by
        obtain ⟨y, hy, e2, hp2⟩ := (hl _).1 hm
        have := nd_same h.nd hx hy (by rw [e, e2])
        rw [this, hp2] at hp
        cases hp
      simp [this]
  · constructor
    · intro hm; cases hm
    · rintro ⟨y, hy, _, h2⟩
      rw [(hno y hy).1] at h2
      cases h2
  · constructor
    · intro hm; cases hm
    · rintro ⟨y, hy, _, h2⟩
      rw [(hno y hy).2] at h2
      cases h2
theorem PlayI.done (h : PlayI n all st) : PlayI n ((all.filter fun x => !x.old).map Pg.reset) st.done ∧ st.done.most = st.most := by
  obtain ⟨hA, hK⟩ := h
  refine ⟨⟨hA.cut _ _ (fun k => by rw [hA.om k]; simp) hA.on, ⟨fun r t ht => ?_, hK.krow, hK.kn, hK.row⟩⟩, rfl⟩
  obtain ⟨x, hx, e1, e2, e3⟩ := hK.has r t ht
  exact ⟨x.reset, List.mem_map.2 ⟨x, List.mem_filter.2 ⟨hx, by simp [e3]⟩, rfl⟩, e1, e2, rfl⟩
theorem unkeeps (f : Int → Bool) (row : List Ref) (m : List (Ref × ByteArray)) (hn : (m.map (·.1)).Nodup) : ((row.foldl (unkeep f) m).map (·.1)).Nodup ∧ ∀ q, mget (row.foldl (unkeep f) m) q = if q ∈ row ∧ f q.place = true then none else mget m q := by
  induction row generalizing m with
  | nil => exact ⟨hn, fun q => by simp⟩
  | cons a row ih =>
    have hn2 : ((unkeep f m a).map (·.1)).Nodup := by
      unfold unkeep
      split
      · exact hn.sublist (mdel_keys _ _)
      · exact hn
    have hg : ∀ q, mget (unkeep f m a) q = if q = a ∧ f q.place = true then none else mget m q := fun q => by
      unfold unkeep
      split
      · next h =>
        rw [mget_mdel _ hn]
        by_cases e : a = q
        · subst e; simp [h]
        · simp [e, Ne.symm e]
      · next h =>
        by_cases e : q = a
        · subst e; simp [h]
        · simp [e]
    obtain ⟨h1, h2⟩ := ih _ hn2
    refine ⟨h1, fun q => ?_⟩
    rw [List.foldl_cons, h2, hg]
    by_cases e1 : q = a
    · subst e1
      by_cases e2 : q ∈ row <;> by_cases e3 : f q.place = true <;> simp [e2, e3]
    · by_cases e2 : q ∈ row <;> by_cases e3 : f q.place = true <;> simp [e1, e2, e3]
theorem PlayI.undo (h : PlayI n all st) : PlayI n ((all.filter fun x => !x.fresh).map Pg.reset) st.undo ∧ st.undo.most = st.most := by
  obtain ⟨hA, hK⟩ := h
  obtain ⟨u1, u2⟩ := unkeeps st.isFresh st.row st.kept hK.kn
  have hgot : ∀ r t, mget st.undo.kept r = some t → mget st.kept r = some t ∧ r ∈ st.row ∧ st.isFresh r.place = false := fun r t ht => by
    change mget (st.row.foldl (unkeep st.isFresh) st.kept) r = some t at ht
    rw [u2] at ht
    split at ht
    · cases ht
    · next hn =>
      have hr := hK.krow r t ht
      refine ⟨ht, hr, ?_⟩
      cases hf : st.isFresh r.place
      · rfl
      · exact absurd ⟨hr, hf⟩ hn
  refine ⟨⟨hA.cut _ _ (fun k => by rw [hA.fm k]; simp) hA.fn, ⟨fun r t ht => ?_, fun r t ht => ?_, u1, ?_⟩⟩, rfl⟩
  · obtain ⟨h1, _, h3⟩ := hgot r t ht
    obtain ⟨x, hx, e1, e2, e3⟩ := hK.has r t h1
    refine ⟨x.reset, List.mem_map.2 ⟨x, List.mem_filter.2 ⟨hx, ?_⟩, rfl⟩, e1, e2, rfl⟩
    cases hf : x.fresh
    · rfl
    · have : st.isFresh r.place = true := (mget_true hA.ft _).2 ((hA.fm _).2 ⟨x, hx, by rw [e1], hf⟩)
      rw [this] at h3
      cases h3
  · obtain ⟨_, h2, h3⟩ := hgot r t ht
    exact List.mem_filter.2 ⟨h2, by rw [h3]; rfl⟩
  · exact Nat.le_trans (List.length_filter_le _ _) hK.row
end

end Go.Proofs.YtimpjlnbbdfehaaGreatDoor
namespace Go.Proofs.YtimpjlnbbdfehaaGreatDoor
open Go.RowKit Go.Shelf Go.Lib Go.Sort
set_option linter.unusedVariables false
attribute [local go_sem ↓] shr_32_1 shl_32_1 shr_32_2 shl_32_2 shr_32_3 shl_32_3 shr_32_4 shl_32_4 shr_32_5 shl_32_5 shr_32_6 shl_32_6 shr_32_7 shl_32_7 shr_32_8 shl_32_8 shr_32_9 shl_32_9 shr_32_10 shl_32_10 shr_32_11 shl_32_11 shr_32_12 shl_32_12 shr_32_13 shl_32_13 shr_32_14 shl_32_14 shr_32_15 shl_32_15 shr_32_16 shl_32_16 shr_32_17 shl_32_17 shr_32_18 shl_32_18 shr_32_19 shl_32_19 shr_32_20 shl_32_20 shr_32_21 shl_32_21 shr_32_22 shl_32_22 shr_32_23 shl_32_23 shr_32_24 shl_32_24 shr_32_25 shl_32_25 shr_32_26 shl_32_26 shr_32_27 shl_32_27 shr_32_28 shl_32_28 shr_32_29 shl_32_29 shr_32_30 shl_32_30 shr_32_31 shl_32_31 shr_64_3 shl_64_3 shr_64_7 shl_64_7 shr_64_8 shl_64_8 shr_64_16 shl_64_16 shr_64_24 shl_64_24 shr_64_32 shl_64_32 shr_64_40 shl_64_40 shr_64_48 shl_64_48 shr_64_56 shl_64_56
attribute [local go_sem] add_u32 add_u64 and_u8 or_u8 xor_u8 and_u32 or_u32 xor_u32 and_u64 or_u64 xor_u64 conv_32_8 conv_64_8 conv_64_32 conv_8_32 conv_8_64 conv_32_64

/-! ### Done -/
theorem pdrop_far {w : World} {i : Ids} {st : PS} {own : Nat → Nat} {m : Nat} (h : SysC w i st own) (ok : st.okN m) (hm : m ≤ 900000) (n : Int) :
    Calls Tryz.prog 82 #[.pointer (some ⟨i.s, 0, none⟩), .int .i64 n] w fun e w' => e = .returned (.bool (st.s.gone n)) ∧ ∃ own' S, SysC w' i { st with s := st.s.dropI n } own' ∧ Keeps w w' own own' ∧ Only w w' S ∧ ∀ x ∈ S, own x = 4 := by
  obtain ⟨sb, hs, o1, o2, p1, p2⟩ := h.space
  have hS : ∀ x ∈ [i.s, sb], own x = 4 := fun x hx => by
    simp at hx
    rcases hx with rfl | rfl
    · exact o1
    · exact o2
  by_cases hin : st.s.first ≤ n ∧ n < (st.s.taken.length : Int)
  · obtain ⟨k, rfl⟩ : ∃ k : Nat, n = (k : Int) := ⟨n.toNat, by have := ok.sf; omega⟩
    have hk : k < st.s.taken.length := by omega
    have hg : st.s.gone (k : Int) = st.s.taken.getD k false := by
      unfold SpS.gone
      rw [Int.toNat_natCast]
      simp [hin.1, hk]
    have hd : st.s.dropI (k : Int) = if st.s.taken.getD k false = true then st.s.drop k else st.s := by
      unfold SpS.dropI
      rw [hg, Int.toNat_natCast]
    rw [hg, hd]
    cases ht : st.s.taken.getD k false
    · refine (sp_drop_free k hs hin.1 hk ht).mono fun e w' ⟨he, hw⟩ => ⟨he, own, [], ?_, ?_, ?_, fun _ hx => by cases hx⟩
      · subst hw; exact h
      · subst hw; exact Keeps.refl _ _
      · subst hw; exact Only.refl _ _
    · refine (sp_drop_yes k hs hin.1 hk ht ok.m0 (by have := ok.m1; omega)).mono fun e w' ⟨he, h1, h2⟩ => ?_
      obtain ⟨a, b⟩ := h.space_step hs o1 o2 p1 p2 (s' := st.s.drop k) h1 h2
      exact ⟨he, _, _, a, b, h2, hS⟩
  · have hg : st.s.gone n = false := by
      unfold SpS.gone
      have e : (decide (st.s.first ≤ n) && decide (n < (st.s.taken.length : Int))) = false := by simpa using hin
      rw [e, Bool.false_and]
    have hd : st.s.dropI n = st.s := if_neg (by rw [hg]; decide)
    rw [hg, hd]
    refine (sp_drop_no hs hin).mono fun e w' ⟨he, hw⟩ => ⟨he, own, [], ?_, ?_, ?_, fun _ hx => by cases hx⟩
    · subst hw; exact h
    · subst hw; exact Keeps.refl _ _
    · subst hw; exact Only.refl _ _
theorem PgC.space {w : World} {i : Ids} {kb fb : Nat} {rv ov : Value} {st : PS} (h : PgC w i kb fb rv ov st) (s : SpS) : PgC w i kb fb rv ov { st with s := s } :=
  ⟨h.box, h.kept, h.fresh, h.row, h.old, h.p1, h.p2, h.p3, h.ne⟩
theorem PS.drop_okN {st : PS} {m : Nat} (ok : st.okN m) (hc : st.s.okC) (n : Int) : ({ st with s := st.s.dropI n } : PS).okN m := by
  have hc' := hc.dropI n
  unfold SpS.okC at hc'
  refine ⟨ok.dl, ok.drow, ok.dall, ok.dnall, ok.acts, ok.key, ok.reads, ok.hits, ok.row, ok.rows, ok.old, (SpS.dropI_len _ _).trans ok.sl, by show 0 ≤ (st.s.dropI n).first; rw [SpS.dropI_first]; exact ok.sf, ?_, ?_⟩
  · show 0 ≤ (st.s.dropI n).many
    omega
  · have := SpS.dropI_le st.s n
    have := ok.m1
    show (st.s.dropI n).many ≤ _
    omega
theorem PS.drops_okN {m : Nat} (l : List Int) {st : PS} (ok : st.okN m) (hc : st.s.okC) : ({ st with s := l.foldl SpS.dropI st.s } : PS).okN m := by
  induction l generalizing st with
  | nil => exact ok
  | cons a l ih => exact ih (st := { st with s := st.s.dropI a }) (PS.drop_okN ok hc a) (hc.dropI a)
/-- All is forgotten that was new or let go. -/
theorem PgC.clear {w : World} {i : Ids} {kb fb : Nat} {rv ov : Value} {st : PS} (h : PgC w i kb fb rv ov st) :
    PgC (((w.alloc (.map #[] 0)).setCell ⟨i.p, 11, none⟩ (.slice none 0 0)).setCell ⟨i.p, 10, none⟩ (.map (some w.heap.size))) i kb w.heap.size rv (.slice none 0 0) { st with fresh := [], old := [] } ∧
      Only w (((w.alloc (.map #[] 0)).setCell ⟨i.p, 11, none⟩ (.slice none 0 0)).setCell ⟨i.p, 10, none⟩ (.map (some w.heap.size))) (pfp i.p kb fb rv ov) ∧ Fresh w (pfp i.p kb fb rv ov) (pfp i.p kb w.heap.size rv (.slice none 0 0)) := by
  have ho : Only w (((w.alloc (.map #[] 0)).setCell ⟨i.p, 11, none⟩ (.slice none 0 0)).setCell ⟨i.p, 10, none⟩ (.map (some w.heap.size))) [i.p] := (((Only.refl w _).alloc _).setCell (by simp) _).setCell (by simp) _
  have hs2 : Only (w.alloc (.map #[] 0)) (((w.alloc (.map #[] 0)).setCell ⟨i.p, 11, none⟩ (.slice none 0 0)).setCell ⟨i.p, 10, none⟩ (.map (some w.heap.size))) [i.p] := ((Only.refl _ _).setCell (by simp) _).setCell (by simp) _
  have hb : Blk (w.alloc (.map #[] 0)) i.p 126 _ := h.box.alloc _
  have hp : i.p < w.heap.size := h.box.lt
  have hk : kb < w.heap.size := h.kept.lt
  refine ⟨⟨(hb.set_ 11 _).set_ 10 _, h.kept.only ho (by simpa using h.kp), (MapR.new Tryz.prog 3 ki Value.bool w).only hs2 (by simp; omega), h.row.only ho (fun g hg e => by rw [List.mem_singleton] at e; subst e; exact h.pr hg), Mid.nil _ _ _ _, h.p1, h.p2, by omega, by omega⟩, ho.mono pfp_p, ?_⟩
  intro x hx
  simp only [pfp, List.mem_cons, List.mem_append, Option.mem_toList] at hx ⊢
  rcases hx with rfl | rfl | rfl | hx | hx
  · exact .inl (.inl rfl)
  · exact .inl (.inr (.inl rfl))
  · exact .inr (Nat.le_refl _)
  · exact .inl (.inr (.inr (.inr (.inl hx))))
  · cases hx
set_option maxHeartbeats 4000000 in
set_option maxRecDepth 100000 in
theorem done_ok {w : World} {i : Ids} {st : PS} {own : Nat → Nat} {n : Nat} (h : SysC w i st own) (ok : st.okN n) (hn : n ≤ 900000) (hc : st.s.okC) :
    Calls Tryz.prog 33 #[.pointer (some ⟨i.p, 0, none⟩)] w (PT i w own st.done (.tuple #[])) := by
  obtain ⟨kb, fb, rv, ov, hp, hO⟩ := h.pg
  obtain ⟨A, cap, hov, _, _, _⟩ := hp.old.form
  have c11 := hp.box.cell 11
  rw [hov] at c11
  have HD := Lib.hid (fun w1 own1 (k : Nat) (h1 : SysC w1 i { st with s := (st.old.take k).foldl SpS.dropI st.s } own1) (x : Int) => pdrop_far h1 (PS.drops_okN (st.old.take k) ok hc) hn x)
  have HLN : Hid (st.old.length ≤ 900000) := Nat.le_trans ok.old hn
  have HOV := Lib.hid hov
  have H0 : Hid (SysC w i { st with s := (st.old.take 0).foldl SpS.dropI st.s } own) := h
  have P0 : Hid (PgC w i kb fb rv ov { st with s := (st.old.take 0).foldl SpS.dropI st.s }) := hp
  have HO := Lib.hid hO
  have hmm := @run_makeMap Tryz.prog
  clear h ok hc hp hO hov
  go_enter Tryz.func33, Tryz.ntmps33
  go_wp2_with fail
  go_loopg [11, 3] (st.old.length : Nat) (fun q v11 v3 wr => ∃ (k : Nat) (own1 : Nat → Nat), q + k = st.old.length ∧ v11 = .int .i64 (k : Int) ∧ SysC wr i { st with s := (st.old.take k).foldl SpS.dropI st.s } own1 ∧ Keeps w wr own own1 ∧ PgC wr i kb fb rv ov { st with s := (st.old.take k).foldl SpS.dropI st.s } ∧ ∀ x ∈ pfp i.p kb fb rv ov, own1 x = 5)
  case atStart => exact ⟨0, own, rfl, rfl, H0.out, Keeps.refl _ _, P0.out, HO.out⟩
  case round =>
    obtain ⟨k, own1, hq, rfl, h1, k1, hp1, hO1⟩ := hrel
    have R := Lib.hid h1
    have RK := Lib.hid k1
    have RP := Lib.hid hp1
    have RO := Lib.hid hO1
    clear h1 k1 hp1 hO1 H0 P0 c11
    by_cases hlt : k < st.old.length
    · have hd : decide ((k : Int) < (st.old.length : Int)) = true := by simp; omega
      have hkb : k < 900000 := by have := HLN.out; omega
      obtain ⟨g7, o7, c7, hv7, hcs7⟩ := RP.out.old.open_ (by show 1 ≤ st.old.length; omega)
      have hv8 := HOV.out
      rw [hv7] at hv8
      injection hv8 with hA7 hn7 hc7
      clear hn7 hc7
      subst hA7
      have q1 := hcs7 k (.int .i64 st.old[k]) (by simp [ints, hlt])
      have c3 := R.out.c3
      have HC := Lib.hid (HD.out wr own1 k R.out st.old[k])
      have HS : Hid (((st.old.take k).foldl SpS.dropI st.s).dropI st.old[k] = (st.old.take (k + 1)).foldl SpS.dropI st.s) := by
        show _ = _
        rw [List.take_succ_eq_append_getElem hlt, List.foldl_append]
        rfl
      rw [HS.out] at HC
      generalize st.old[k] = x at *
      clear hcs7 hv7
      go_wp2_with fail
      refine HC.out.mono ?_
      rintro e w2 ⟨rfl, own2, S, h2, k2, ho2, hS2⟩
      have R2 := Lib.hid h2
      have RK2 := Lib.hid (RK.out.trans k2)
      have RP2 : Hid (PgC w2 i kb fb rv ov { st with s := (st.old.take (k + 1)).foldl SpS.dropI st.s }) := (RP.out.only ho2 (fun y hy hm => by have := RO.out y hy; have := hS2 y hm; omega)).space _
      have RO2 : Hid (∀ x ∈ pfp i.p kb fb rv ov, own2 x = 5) := fun y hy => (k2.same y (RP.out.lt y hy)).trans (RO.out y hy)
      clear h2 k2 ho2 hS2 HC R RP RO RK q1 c3
      go_wp2_with fail
      go_roundg (gk - 1)
      case measure => omega
      case rel => exact ⟨k + 1, own2, by omega, by go_num, R2.out, RK2.out, RP2.out, RO2.out⟩
    · obtain rfl : k = st.old.length := by omega
      have hd : decide ((st.old.length : Int) < (st.old.length : Int)) = false := by simp
      have f11 := (RP.out.alloc (.map #[] 0)).box.frozen 11
      have f10 := (RP.out.alloc (.map #[] 0)).box.frozen 10
      have c11 := (RP.out.alloc (.map #[] 0)).box.cell 11
      have c10 := (RP.out.alloc (.map #[] 0)).box.cell 10
      have HF := Lib.hid RP.out.clear
      have HT : Hid ((st.old.take st.old.length).foldl SpS.dropI st.s = st.old.foldl SpS.dropI st.s) := by
        show _ = _
        rw [List.take_length]
      rw [HT.out] at HF R RP
      clear HD
      go_wp2_with fail
      go_end0
      obtain ⟨a, b, c⟩ := HF.out
      obtain ⟨x, y⟩ := R.out.pg_step (st' := st.done) rfl rfl rfl rfl RO.out RP.out.lt a b c
      exact ⟨rfl, _, x, RK.out.trans y⟩

end Go.Proofs.YtimpjlnbbdfehaaGreatDoor
namespace Go.Proofs.YtimpjlnbbdfehaaGreatDoor
open Go.RowKit Go.Shelf Go.Lib Go.Sort
set_option linter.unusedVariables false
attribute [local go_sem ↓] shr_32_1 shl_32_1 shr_32_2 shl_32_2 shr_32_3 shl_32_3 shr_32_4 shl_32_4 shr_32_5 shl_32_5 shr_32_6 shl_32_6 shr_32_7 shl_32_7 shr_32_8 shl_32_8 shr_32_9 shl_32_9 shr_32_10 shl_32_10 shr_32_11 shl_32_11 shr_32_12 shl_32_12 shr_32_13 shl_32_13 shr_32_14 shl_32_14 shr_32_15 shl_32_15 shr_32_16 shl_32_16 shr_32_17 shl_32_17 shr_32_18 shl_32_18 shr_32_19 shl_32_19 shr_32_20 shl_32_20 shr_32_21 shl_32_21 shr_32_22 shl_32_22 shr_32_23 shl_32_23 shr_32_24 shl_32_24 shr_32_25 shl_32_25 shr_32_26 shl_32_26 shr_32_27 shl_32_27 shr_32_28 shl_32_28 shr_32_29 shl_32_29 shr_32_30 shl_32_30 shr_32_31 shl_32_31 shr_64_3 shl_64_3 shr_64_7 shl_64_7 shr_64_8 shl_64_8 shr_64_16 shl_64_16 shr_64_24 shl_64_24 shr_64_32 shl_64_32 shr_64_40 shl_64_40 shr_64_48 shl_64_48 shr_64_56 shl_64_56
attribute [local go_sem] add_u32 add_u64 and_u8 or_u8 xor_u8 and_u32 or_u32 xor_u32 and_u64 or_u64 xor_u64 conv_32_8 conv_64_8 conv_64_32 conv_8_32 conv_8_64 conv_32_64

/-! ### Undo -/
theorem eg87 (args : Array Value) (w : World) : (callFunc 87 args).run Tryz.prog w = .ok (.enter 87 args) w := by kernel_rfl
set_option maxHeartbeats 4000000 in
set_option maxRecDepth 100000 in
theorem unkeep_ok {w : World} {i : Ids} {kb fb : Nat} {rv ov : Value} {st : PS} (hp : PgC w i kb fb rv ov st) (g0 : Nat) (hg : Blk w g0 22 #[.pointer (some ⟨i.p, 0, none⟩)]) (hne : g0 ≠ kb) (r : Ref) (hr : RefOk r) :
    Calls Tryz.prog 87 #[.agg #[.int .i64 r.place, .string r.sum], .pointer (some ⟨g0, 0, none⟩)] w fun e w' => e = .returned (.bool (st.isFresh r.place)) ∧ PgC w' i kb fb rv ov { st with kept := unkeep st.isFresh st.kept r } ∧ Only w w' [kb] := by
  have HP0 := Lib.hid (hp.alloc (.cells #[.int .i64 r.place, .string r.sum] 54))
  have HB0 : Hid (Blk (w.alloc (.cells #[.int .i64 r.place, .string r.sum] 54)) w.heap.size 54 #[.int .i64 r.place, .string r.sum]) := Blk.new w 54 _
  have HG0 : Hid (Blk (w.alloc (.cells #[.int .i64 r.place, .string r.sum] 54)) g0 22 #[.pointer (some ⟨i.p, 0, none⟩)]) := hg.alloc _
  have HO0 : Hid (Only w (w.alloc (.cells #[.int .i64 r.place, .string r.sum] 54)) [kb]) := (Only.refl w _).alloc _
  have HKB : Hid (w.heap.size ≠ kb) := by have := hp.kept.lt; show _ ≠ _; omega
  have HNE := Lib.hid hne
  have HRO := Lib.hid hr
  have hl0 := fun n => (HP0.out.drewN n).freshLook r.place hr.1
  have hl1 := hl0 0
  have hU : Hid (unkeep st.isFresh st.kept r = if st.isFresh r.place = true then mdel st.kept r else st.kept) := rfl
  rw [show (mget st.fresh r.place).getD false = st.isFresh r.place from rfl] at hl0 hl1
  have g0c := HG0.out.cell 0
  have c10 := HP0.out.box.cell 10
  have b0 := HB0.out.cell 0
  clear hp hg hne hr
  rw [hU.out]
  cases hf : st.isFresh r.place
  · rw [hf] at hl0 hl1
    clear hU
    go_enter Tryz.func87, Tryz.ntmps87
    go_wp2_with fail
    go_quiet (fail)
    clear hl1
    have hl1 := hl0 nq
    have hl2 := fun m => hl0 (nq + m)
    go_wp2_with fail
    go_quiet (fail)
    go_wp2_with fail
    go_ret
    exact ⟨rfl, HP0.out.drewN _, HO0.out.drewN _⟩
  · rw [hf] at hl0 hl1
    clear hU
    have c5 := HP0.out.box.cell 5
    have b1 := HB0.out.cell 1
    go_enter Tryz.func87, Tryz.ntmps87
    go_wp2_with fail
    go_quiet (fail)
    clear hl1
    go_wp2_with fail
    obtain ⟨w1, hrun, hp1, ho1⟩ := (HP0.out.drewN (nq + 1)).cut 0 r HRO.out
    have HP1 := Lib.hid hp1
    have HO1 := Lib.hid ((HO0.out.drewN (nq + 1)).trans ho1)
    have HB1 : Hid (Blk w1 w.heap.size 54 #[.int .i64 r.place, .string r.sum]) := ho1.blk (t := 54) (show Blk ((w.alloc (.cells #[.int .i64 r.place, .string r.sum] 54)).drewN (nq + 1)) w.heap.size 54 #[.int .i64 r.place, .string r.sum] from HB0.out) (by simpa using HKB.out)
    have HG1 : Hid (Blk w1 g0 22 #[.pointer (some ⟨i.p, 0, none⟩)]) := ho1.blk (t := 22) (show Blk ((w.alloc (.cells #[.int .i64 r.place, .string r.sum] 54)).drewN (nq + 1)) g0 22 #[.pointer (some ⟨i.p, 0, none⟩)] from HG0.out) (by simpa using HNE.out)
    have gc' : ((w.alloc (.cells #[.int .i64 r.place, .string r.sum] 54)).drewN nq).cell? ⟨g0, 0, none⟩ = some (.pointer (some ⟨i.p, 0, none⟩)) := g0c
    have c5' : ((w.alloc (.cells #[.int .i64 r.place, .string r.sum] 54)).drewN nq).cell? ⟨i.p, 5, none⟩ = some (.map (some kb)) := c5
    have b0' : ((w.alloc (.cells #[.int .i64 r.place, .string r.sum] 54)).drewN nq).cell? ⟨w.heap.size, 0, none⟩ = some (.int .i64 r.place) := b0
    have b1' : ((w.alloc (.cells #[.int .i64 r.place, .string r.sum] 54)).drewN nq).cell? ⟨w.heap.size, 1, none⟩ = some (.string r.sum) := b1
    clear hp1 ho1 hl0 g0c c5 b0 b1 c10
    refine wp_region_plan (fun w' => w'.cell? ⟨g0, 0, none⟩ = some (.pointer (some ⟨i.p, 0, none⟩)) ∧ w'.cell? ⟨i.p, 5, none⟩ = some (.map (some kb)) ∧ w'.cell? ⟨w.heap.size, 0, none⟩ = some (.int .i64 r.place) ∧ w'.cell? ⟨w.heap.size, 1, none⟩ = some (.string r.sum)) 5 [(true, 0), (true, 1), (true, 2), (true, 3), (true, 4)] (by kernel_rfl) (by kernel_rfl) ⟨gc', c5', b0', b1'⟩ ?_
    simp only [List.map_cons, List.map_nil, List.getD_cons_zero, List.getD_cons_succ, List.drop_succ_cons, List.drop_zero]
    (refine plan_take (v := ?_) rfl ?_ ?_; rotate_left; (rintro wS ⟨hS1, hS2, hS3, hS4⟩; (try dsimp only at hS1 hS2 hS3 hS4); go_simp; try with_reducible rfl); simp only [Act.put, List.setIfInBounds_toArray, List.set_cons_zero, List.set_cons_succ])
    (refine plan_take (v := ?_) rfl ?_ ?_; rotate_left; (rintro wS ⟨hS1, hS2, hS3, hS4⟩; (try dsimp only at hS1 hS2 hS3 hS4); go_simp; try with_reducible rfl); simp only [Act.put, List.setIfInBounds_toArray, List.set_cons_zero, List.set_cons_succ])
    (refine plan_take (v := ?_) rfl ?_ ?_; rotate_left; (rintro wS ⟨hS1, hS2, hS3, hS4⟩; (try dsimp only at hS1 hS2 hS3 hS4); go_simp; try with_reducible rfl); simp only [Act.put, List.setIfInBounds_toArray, List.set_cons_zero, List.set_cons_succ])
    (refine plan_take (v := ?_) rfl ?_ ?_; rotate_left; (rintro wS ⟨hS1, hS2, hS3, hS4⟩; (try dsimp only at hS1 hS2 hS3 hS4); go_simp; try with_reducible rfl); simp only [Act.put, List.setIfInBounds_toArray, List.set_cons_zero, List.set_cons_succ])
    (refine plan_take (v := ?_) rfl ?_ ?_; rotate_left; (rintro wS ⟨hS1, hS2, hS3, hS4⟩; (try dsimp only at hS1 hS2 hS3 hS4); go_simp; try with_reducible rfl); simp only [Act.put, List.setIfInBounds_toArray, List.set_cons_zero, List.set_cons_succ])
    refine plan_nil ?_
    go_wp2_with fail
    refine NoPanic.normal ?_
    clear gc' c5' b0' b1' hrun HP0 HB0 HG0 HO0
    have hl0 := fun n => (HP1.out.drewN n).freshLook r.place HRO.out.1
    have hl1 := hl0 0
    rw [show ∀ k : List (Ref × ByteArray), (mget ({ st with kept := k } : PS).fresh r.place).getD false = st.isFresh r.place from fun _ => rfl, hf] at hl0 hl1
    have g0c := HG1.out.cell 0
    have c10 := HP1.out.box.cell 10
    have b0 := HB1.out.cell 0
    go_wp2_with fail
    go_quiet (fail)
    go_wp2_with fail
    go_ret
    exact ⟨rfl, HP1.out.drewN _, HO1.out.drewN _⟩

/-- Within the row's loop all is kept but the map of pages. -/
theorem undo_del {w w2 : World} {i : Ids} {st : PS} {kb fb : Nat} {rv ov : Value} (hp : PgC w2 i kb fb rv ov st) (ho : Only w w2 (pfp i.p kb fb rv ov)) (hlt : ∀ x ∈ pfp i.p kb fb rv ov, x < w.heap.size) (g0 : Nat) (hb : Blk w2 g0 22 #[.pointer (some ⟨i.p, 0, none⟩)]) (hne : g0 ≠ kb)
    (v2 : Value) (l : List Ref) (hm : Mid w2 1 54 2 v2 l.length (refs l)) (hf : ∀ g, v2.ownBlock = some g → w.heap.size ≤ g ∧ g ≠ g0) (hl : l.length ≤ 1000000) (hall : ∀ x ∈ l, RefOk x) :
    Calls Tryz.prog 85 #[v2, .func (.func 87) #[] #[.pointer (some ⟨g0, 0, none⟩)]] w2 fun e w3 => ∃ A c, e = .returned (.slice A (l.filter fun x => !st.isFresh x.place).length c) ∧ PgC w3 i kb fb rv ov { st with kept := l.foldl (unkeep st.isFresh) st.kept } ∧ Only w w3 (pfp i.p kb fb rv ov) ∧ Blk w3 g0 22 #[.pointer (some ⟨i.p, 0, none⟩)] ∧ Mid w3 1 54 2 (.slice A (l.filter fun x => !st.isFresh x.place).length c) (l.filter fun x => !st.isFresh x.place).length (refs (l.filter fun x => !st.isFresh x.place)) ∧ (∀ g, (Value.slice A (l.filter fun x => !st.isFresh x.place).length c).ownBlock = some g → w.heap.size ≤ g) := by
  rcases hm.split with ⟨rfl, rfl⟩ | ⟨G, cap, pre, suf, rfl, hG, hr, hc, hmx, hs⟩
  · refine (delete_nil 87 _ eg87 w2).mono fun e w3 ⟨he, h3⟩ => ⟨none, 0, he, hp.only h3 (fun _ _ hm => by cases hm), ho.trans (h3.mono (by simp)), h3.blk hb (by simp), Mid.nil _ _ _ _, fun g hg => by simp [Value.ownBlock] at hg⟩
  · obtain ⟨hGw, hGb⟩ := hf G rfl
    have hGp : ∀ x ∈ pfp i.p kb fb rv ov, x ∉ [G] := fun x hx hm => by
      rw [List.mem_singleton] at hm
      have := hlt x hx
      omega
    have hkG : G ∉ [kb] := fun hm => by
      rw [List.mem_singleton] at hm
      have := hlt kb (by simp [pfp])
      omega
    refine (delete_ok (S := List (Ref × ByteArray)) (fun s w' => PgC w' i kb fb rv ov { st with kept := s } ∧ Only w w' (pfp i.p kb fb rv ov) ∧ Blk w' g0 22 #[.pointer (some ⟨i.p, 0, none⟩)]) (unkeep st.isFresh) (fun x => st.isFresh x.place) 87 #[.pointer (some ⟨g0, 0, none⟩)] l [kb] G pre suf eg87
      (fun _ w' w'' h h2 => ⟨h.1.only h2 hGp, only_new h.2.1 h2 hGw, h2.blk h.2.2 (by simpa using Ne.symm hGb)⟩)
      (fun s x w' hx h => (unkeep_ok h.1 g0 h.2.2 hne x (hall x hx)).mono fun e w'' ⟨h1, h2, h3⟩ => ⟨h1, ⟨h2, h.2.1.trans (h3.mono (by simp [pfp])), h3.blk h.2.2 (by simpa using hne)⟩, h3⟩)
      hl cap hc hmx hs hG hkG st.kept w2 (fun x hx => by rw [List.mem_singleton] at hx; rw [hx]; exact Nat.lt_of_lt_of_le (hlt kb (by simp [pfp])) ho.size) ⟨hp, ho, hb⟩ hr).mono ?_
    rintro e w3 ⟨d, rfl, ⟨h1, h2, h3⟩, h4, h5, h6⟩
    have hn : (l.filter fun x => !st.isFresh x.place).length ≤ l.length := List.length_filter_le _ _
    have hm3 := h4.mid (B := 1) (n := (l.filter fun x => !st.isFresh x.place).length) (cap := cap) hG (by rw [h5]; exact hn) (by rw [h5]; exact hc) hmx (by have a := refs_len d; have b := refs_len l; simp only [List.length_append] at hs ⊢; omega)
    rw [h6] at hm3
    exact ⟨_, _, rfl, h1, h2, h3, hm3, fun g hg => by
      simp [Value.ownBlock] at hg
      subst hg
      exact hGw⟩

end Go.Proofs.YtimpjlnbbdfehaaGreatDoor
namespace Go.Proofs.YtimpjlnbbdfehaaGreatDoor
open Go.RowKit Go.Shelf Go.Lib Go.Sort
set_option linter.unusedVariables false
attribute [local go_sem ↓] shr_32_1 shl_32_1 shr_32_2 shl_32_2 shr_32_3 shl_32_3 shr_32_4 shl_32_4 shr_32_5 shl_32_5 shr_32_6 shl_32_6 shr_32_7 shl_32_7 shr_32_8 shl_32_8 shr_32_9 shl_32_9 shr_32_10 shl_32_10 shr_32_11 shl_32_11 shr_32_12 shl_32_12 shr_32_13 shl_32_13 shr_32_14 shl_32_14 shr_32_15 shl_32_15 shr_32_16 shl_32_16 shr_32_17 shl_32_17 shr_32_18 shl_32_18 shr_32_19 shl_32_19 shr_32_20 shl_32_20 shr_32_21 shl_32_21 shr_32_22 shl_32_22 shr_32_23 shl_32_23 shr_32_24 shl_32_24 shr_32_25 shl_32_25 shr_32_26 shl_32_26 shr_32_27 shl_32_27 shr_32_28 shl_32_28 shr_32_29 shl_32_29 shr_32_30 shl_32_30 shr_32_31 shl_32_31 shr_64_3 shl_64_3 shr_64_7 shl_64_7 shr_64_8 shl_64_8 shr_64_16 shl_64_16 shr_64_24 shl_64_24 shr_64_32 shl_64_32 shr_64_40 shl_64_40 shr_64_48 shl_64_48 shr_64_56 shl_64_56
attribute [local go_sem] add_u32 add_u64 and_u8 or_u8 xor_u8 and_u32 or_u32 xor_u32 and_u64 or_u64 xor_u64 conv_32_8 conv_64_8 conv_64_32 conv_8_32 conv_8_64 conv_32_64

/-! ### Undo, whole -/
structure UI (W wr : World) (i : Ids) (st : PS) (n : Nat) (own0 own1 : Nat → Nat) (kb fb : Nat) (rv ov : Value) (g0 r : Nat) (left : List (Int × Bool)) (s1 E : SpS) : Prop where
  sys : SysC wr i { st with s := s1 } own1
  kp : Keeps W wr own0 own1
  pg : PgC wr i kb fb rv ov { st with s := s1 }
  own : ∀ x ∈ pfp i.p kb fb rv ov, own1 x = 5
  rng : RngR ki Value.bool wr r fb left
  box : Blk wr g0 22 #[.pointer (some ⟨i.p, 0, none⟩)]
  z0 : own1 g0 = 0
  zr : own1 r = 0
  w0 : 0 < W.heap.size
  g0r : W.heap.size ≤ g0
  rr : W.heap.size ≤ r
  ne : g0 ≠ r
  fin : (left.map (·.1)).foldl SpS.dropI s1 = E
  okc : s1.okC
  okn : ({ st with s := s1 } : PS).okN n
theorem UI.turn {W wr w2 : World} {i : Ids} {st : PS} {n : Nat} {own0 own1 : Nat → Nat} {kb fb : Nat} {rv ov : Value} {g0 r : Nat} {left : List (Int × Bool)} {s1 E : SpS} (h : UI W wr i st n own0 own1 kb fb rv ov g0 r left s1 E) (ho : Only wr w2 [r]) :
    SysC w2 i { st with s := s1 } (mark wr own1 0) ∧ Keeps W w2 own0 (mark wr own1 0) ∧ PgC w2 i kb fb rv ov { st with s := s1 } ∧ (∀ x ∈ pfp i.p kb fb rv ov, mark wr own1 0 x = 5) ∧ Blk w2 g0 22 #[.pointer (some ⟨i.p, 0, none⟩)] ∧ mark wr own1 0 g0 = 0 ∧ mark wr own1 0 r = 0 := by
  obtain ⟨a, b⟩ := h.sys.off h.kp (S := [r]) ho (fun x hx => by
    rw [List.mem_singleton] at hx
    rw [hx]
    exact ⟨h.zr, by have := h.w0; have := h.rr; omega, h.rr⟩)
  refine ⟨a, b, h.pg.only ho (fun y hy hm => ?_), fun x hx => by rw [mark_old (h.pg.lt x hx)]; exact h.own x hx, ho.blk h.box (by simpa using h.ne), by rw [mark_old h.box.lt]; exact h.z0, by rw [mark_old h.rng.ltr]; exact h.zr⟩
  rw [List.mem_singleton] at hm
  have h1 := h.own y hy
  have h2 := h.zr
  rw [hm] at h1
  omega
theorem UI.next {W wr w2 w3 : World} {i : Ids} {st : PS} {n : Nat} {own0 own1 own3 : Nat → Nat} {kb fb : Nat} {rv ov : Value} {g0 r : Nat} {left : List (Int × Bool)} {s1 E : SpS} (h : UI W wr i st n own0 own1 kb fb rv ov g0 r left s1 E) (ho : Only wr w2 [r])
    {j : Nat} {x : Int} {b : Bool} (hj : left[j]? = some (x, b)) (hr : RngR ki Value.bool w2 r fb (left.eraseIdx j)) {S : List Nat} (h3 : SysC w3 i { st with s := s1.dropI x } own3) (k3 : Keeps w2 w3 (mark wr own1 0) own3) (ho3 : Only w2 w3 S) (hS : ∀ y ∈ S, mark wr own1 0 y = 4) :
    UI W w3 i st n own0 own3 kb fb rv ov g0 r (left.eraseIdx j) (s1.dropI x) E := by
  obtain ⟨a, b, c, d, e, f, g⟩ := h.turn ho
  have hn : ∀ y, mark wr own1 0 y ≠ 4 → y ∉ S := fun y hy hm => hy (hS y hm)
  refine ⟨h3, b.trans k3, (c.only ho3 (fun y hy => hn y (by rw [d y hy]; decide))).space _, fun y hy => (k3.same y (c.lt y hy)).trans (d y hy), hr.only ho3 (hn _ (by rw [d fb (by simp [pfp])]; decide)) (hn _ (by rw [g]; decide)), ho3.blk e (hn _ (by rw [f]; decide)), (k3.same _ e.lt).trans f, (k3.same _ hr.ltr).trans g, h.w0, h.g0r, h.rr, h.ne, ?_, h.okc.dropI x, PS.drop_okN h.okn h.okc x⟩
  rw [← h.fin, drops_any (left.map (·.1)) s1 h.okn.sf j x (by rw [List.getElem?_map, hj]; rfl), ChangeMaps.map_eraseIdx]
theorem UI.start {w : World} {i : Ids} {st : PS} {own : Nat → Nat} {n : Nat} (h : SysC w i st own) (ok : st.okN n) (hc : st.s.okC) :
    ∃ kb fb rv ov o own1, (Instr.range 124 (.map (some fb))).run Tryz.prog (w.alloc (.cells #[.pointer (some ⟨i.p, 0, none⟩)] 22)) = .ok (.pointer (some ⟨w.heap.size + 1, 0, none⟩)) ((w.alloc (.cells #[.pointer (some ⟨i.p, 0, none⟩)] 22)).alloc o) ∧
      UI w ((w.alloc (.cells #[.pointer (some ⟨i.p, 0, none⟩)] 22)).alloc o) i st n own own1 kb fb rv ov w.heap.size (w.heap.size + 1) st.fresh st.s ((st.fresh.map (·.1)).foldl SpS.dropI st.s) ∧ (w.alloc (.cells #[.pointer (some ⟨i.p, 0, none⟩)] 22)).cell? ⟨i.p, 10, none⟩ = some (.map (some fb)) := by
  obtain ⟨h0, k0⟩ := h.box0 (.cells #[.pointer (some ⟨i.p, 0, none⟩)] 22)
  have B0 : Blk (w.alloc (.cells #[.pointer (some ⟨i.p, 0, none⟩)] 22)) w.heap.size 22 #[.pointer (some ⟨i.p, 0, none⟩)] := Blk.new w 22 _
  have z0 : mark w own 0 w.heap.size = 0 := mark_new (Nat.le_refl _)
  obtain ⟨kb, fb, rv, ov, hp, hO⟩ := h0.pg
  obtain ⟨o, hrange, hrg⟩ := hp.fresh.range Tryz.underlying124
  obtain ⟨h1, k1⟩ := h0.box0 o
  have e1 : (w.alloc (.cells #[.pointer (some ⟨i.p, 0, none⟩)] 22)).heap.size = w.heap.size + 1 := by simp
  rw [e1] at hrange hrg
  refine ⟨kb, fb, rv, ov, o, _, hrange, ⟨h1, k0.trans k1, hp.alloc o, fun x hx => by rw [mark_old (hp.lt x hx)]; exact hO x hx, hrg, B0.alloc o, by rw [mark_old (by simp)]; exact z0, mark_new (by simp), h.salts.1, Nat.le_refl _, Nat.le_succ _, by omega, rfl, hc, ok⟩, hp.box.cell 10⟩
theorem PgC.clear2 {w : World} {i : Ids} {kb fb : Nat} {rv ov : Value} {st : PS} (h : PgC w i kb fb rv ov st) :
    PgC (((w.setCell ⟨i.p, 11, none⟩ (.slice none 0 0)).alloc (.map #[] 0)).setCell ⟨i.p, 10, none⟩ (.map (some w.heap.size))) i kb w.heap.size rv (.slice none 0 0) { st with fresh := [], old := [] } ∧
      Only w (((w.setCell ⟨i.p, 11, none⟩ (.slice none 0 0)).alloc (.map #[] 0)).setCell ⟨i.p, 10, none⟩ (.map (some w.heap.size))) [i.p] := by
  have e : (w.setCell ⟨i.p, 11, none⟩ (.slice none 0 0)).heap.size = w.heap.size := by simp
  have h0 : Only w (w.setCell ⟨i.p, 11, none⟩ (.slice none 0 0)) [i.p] := (Only.refl w _).setCell (by simp) _
  have ho : Only w (((w.setCell ⟨i.p, 11, none⟩ (.slice none 0 0)).alloc (.map #[] 0)).setCell ⟨i.p, 10, none⟩ (.map (some w.heap.size))) [i.p] := (h0.alloc _).setCell (by simp) _
  have hs2 : Only ((w.setCell ⟨i.p, 11, none⟩ (.slice none 0 0)).alloc (.map #[] 0)) (((w.setCell ⟨i.p, 11, none⟩ (.slice none 0 0)).alloc (.map #[] 0)).setCell ⟨i.p, 10, none⟩ (.map (some w.heap.size))) [i.p] := (Only.refl _ _).setCell (by simp) _
  have hp : i.p < w.heap.size := h.box.lt
  have hk : kb < w.heap.size := h.kept.lt
  have hm := (MapR.new Tryz.prog 3 ki Value.bool (w.setCell ⟨i.p, 11, none⟩ (.slice none 0 0))).only hs2 (by simp; omega)
  rw [e] at hm
  exact ⟨⟨((h.box.set_ 11 _).alloc _).set_ 10 _, h.kept.only ho (by simpa using h.kp), hm, h.row.only ho (fun g hg e => by rw [List.mem_singleton] at e; subst e; exact h.pr hg), Mid.nil _ _ _ _, h.p1, h.p2, by omega, by omega⟩, ho⟩
set_option maxHeartbeats 8000000 in
set_option maxRecDepth 100000 in
theorem undo_ok {w : World} {i : Ids} {st : PS} {own : Nat → Nat} {n : Nat} (h : SysC w i st own) (ok : st.okN n) (hn : n ≤ 900000) (hc : st.s.okC) :
    Calls Tryz.prog 34 #[.pointer (some ⟨i.p, 0, none⟩)] w (PT i w own st.undo (.tuple #[])) := by
  obtain ⟨kb, fb, rv, ov, o, own1, hrange, hU, c10⟩ := UI.start h ok hc
  have B0 : Blk (w.alloc (.cells #[.pointer (some ⟨i.p, 0, none⟩)] 22)) w.heap.size 22 #[.pointer (some ⟨i.p, 0, none⟩)] := Blk.new w 22 _
  have b0 := B0.cell 0
  have U0 := Lib.hid hU
  have HROW : Hid (st.row.length ≤ 900000) := Nat.le_trans ok.row hn
  have HRS : Hid (∀ x ∈ st.row, RefOk x) := ok.rows
  have HE : Hid ((st.fresh.map (·.1)).foldl SpS.dropI st.s = st.undo.s) := rfl
  rw [HE.out] at U0
  have hmm := @run_makeMap Tryz.prog
  clear h ok hc hU B0
  go_enter Tryz.func34, Tryz.ntmps34
  go_wp2_with fail
  go_loopg [2] (st.fresh.length : Nat) (fun q v2 wr => ∃ (left : List (Int × Bool)) (s1 : SpS) (own2 : Nat → Nat), q = left.length ∧ UI w wr i st n own own2 kb fb rv ov w.heap.size (w.heap.size + 1) left s1 st.undo.s)
  case atStart => exact ⟨st.fresh, st.s, own1, rfl, U0.out⟩
  case round =>
    obtain ⟨left, s1, own2, hq, hU⟩ := hrel
    have U := Lib.hid hU
    clear U0 c10 b0 hrange
    rcases hU.rng.next (P := Tryz.prog) 0 with ⟨hl, hnext⟩ | ⟨j, p, w2, hj, hnext, hrg2, ho2, hent⟩
    · subst hl
      have hE : s1 = st.undo.s := hU.fin
      subst hE
      clear hU
      have gc := U.out.box.cell 0
      have c6 : wr.cell? ⟨i.p, 6, none⟩ = some rv := U.out.pg.box.cell 6
      have HEND := Lib.hid (fun w' fb' rv' ov' (hp' : PgC w' i kb fb' rv' ov' st.undo) (ho : Only wr w' (pfp i.p kb fb rv ov)) (hf : Fresh wr (pfp i.p kb fb rv ov) (pfp i.p kb fb' rv' ov')) => U.out.sys.pg_step (st' := st.undo) rfl rfl rfl rfl U.out.own U.out.pg.lt hp' ho hf)
      have HLT := Lib.hid U.out.pg.lt
      have HW : Hid (0 < wr.heap.size) := Nat.lt_of_lt_of_le U.out.w0 U.out.kp.size
      have HGK : Hid (w.heap.size ≠ kb) := fun e => by
        have h1 := U.out.own kb (by simp [pfp])
        have h2 := U.out.z0
        rw [e, h1] at h2
        cases h2
      have HGW : Hid (w.heap.size < wr.heap.size) := U.out.box.lt
      have HGP : Hid (w.heap.size ≠ i.p) := fun e => by
        have h1 := U.out.own i.p (by simp [pfp])
        have h2 := U.out.z0
        rw [e, h1] at h2
        cases h2
      have HP := Lib.hid U.out.pg
      have HB := Lib.hid U.out.box
      have HK := Lib.hid U.out.kp
      clear U
      go_wp2_with fail
      refine wp_region_plan (fun w' => w'.cell? ⟨w.heap.size, 0, none⟩ = some (.pointer (some ⟨i.p, 0, none⟩)) ∧ w'.cell? ⟨i.p, 6, none⟩ = some rv) 8 [(true, 0), (true, 1), (true, 2), (true, 3), (true, 4), (true, 6), (false, 5), (false, 7)] (by kernel_rfl) (by kernel_rfl) ⟨gc, c6⟩ ?_
      simp only [List.map_cons, List.map_nil, List.getD_cons_zero, List.getD_cons_succ, List.drop_succ_cons, List.drop_zero]
      (refine plan_take (v := ?_) rfl ?_ ?_; rotate_left; (rintro wS ⟨hS1, hS2⟩; (try dsimp only at hS1 hS2); go_simp; try with_reducible rfl); simp only [Act.put, List.setIfInBounds_toArray, List.set_cons_zero, List.set_cons_succ])
      (refine plan_take (v := ?_) rfl ?_ ?_; rotate_left; (rintro wS ⟨hS1, hS2⟩; (try dsimp only at hS1 hS2); go_simp; try with_reducible rfl); simp only [Act.put, List.setIfInBounds_toArray, List.set_cons_zero, List.set_cons_succ])
      (refine plan_take (v := ?_) rfl ?_ ?_; rotate_left; (rintro wS ⟨hS1, hS2⟩; (try dsimp only at hS1 hS2); go_simp; try with_reducible rfl); simp only [Act.put, List.setIfInBounds_toArray, List.set_cons_zero, List.set_cons_succ])
      (refine plan_take (v := ?_) rfl ?_ ?_; rotate_left; (rintro wS ⟨hS1, hS2⟩; (try dsimp only at hS1 hS2); go_simp; try with_reducible rfl); simp only [Act.put, List.setIfInBounds_toArray, List.set_cons_zero, List.set_cons_succ])
      (refine plan_take (v := ?_) rfl ?_ ?_; rotate_left; (rintro wS ⟨hS1, hS2⟩; (try dsimp only at hS1 hS2); go_simp; try with_reducible rfl); simp only [Act.put, List.setIfInBounds_toArray, List.set_cons_zero, List.set_cons_succ])
      (refine plan_take (v := ?_) rfl ?_ ?_; rotate_left; (rintro wS ⟨hS1, hS2⟩; (try dsimp only at hS1 hS2); go_simp; try with_reducible rfl); simp only [Act.put, List.setIfInBounds_toArray, List.set_cons_zero, List.set_cons_succ])
      refine plan_run rfl (fun K hK => ?_)
      go_simp
      refine (clone_refs HP.out.drew.row (refs_one _) (Nat.le_trans HROW.out (by decide)) (show 0 < wr.drew.heap.size from HW.out)).mono ?_
      rintro e w2 ⟨v2, rfl, hm2, ho2, hf2⟩
      have hp2 := HP.out.drew.only ho2 (fun _ _ hm => by cases hm)
      have hb2 : Blk w2 w.heap.size 22 #[.pointer (some ⟨i.p, 0, none⟩)] := ho2.blk HB.out.drew (by simp)
      have HD := Lib.hid (undo_del (w := wr) hp2 (((Only.refl wr _).drew).trans (ho2.mono (by simp))) HLT.out w.heap.size hb2 HGK.out v2 st.row hm2 (fun g hg => by have a := hf2 g hg; have b := HGW.out; exact ⟨a, fun e => by rw [e] at a; simp at a; omega⟩) (Nat.le_trans HROW.out (by decide)) HRS.out)
      have HBB := Lib.hid hb2
      refine hK.out _ _ ⟨hb2.cell 0, hp2.box.cell 6⟩ ?_
      clear hK K hp2 hb2 hm2 ho2 hf2
      try simp only [Act.put, List.setIfInBounds_toArray, List.set_cons_zero, List.set_cons_succ]
      refine plan_run rfl (fun K hK => ?_)
      go_simp
      refine HD.out.mono ?_
      rintro e w3 ⟨A3, c3, rfl, hp3, ho3, hb3, hm3, hf3⟩
      have HP3 := Lib.hid hp3
      have HO3 := Lib.hid ho3
      have HB3 := Lib.hid hb3
      have HM3 := Lib.hid hm3
      have HF3 := Lib.hid hf3
      refine hK.out _ _ ⟨hb3.cell 0, hp3.box.cell 6⟩ ?_
      clear hK K hp3 ho3 hb3 hm3 hf3 HD HBB gc c6 HP HB
      try simp only [Act.put, List.setIfInBounds_toArray, List.set_cons_zero, List.set_cons_succ]
      refine plan_nil ?_
      have f6 := HP3.out.box.frozen 6
      have c6 : w3.cell? ⟨i.p, 6, none⟩ = some rv := HP3.out.box.cell 6
      go_wp2_with fail
      refine NoPanic.normal ?_
      obtain ⟨hp4, ho4⟩ := HP3.out.rerow HM3.out
      have HP4 := Lib.hid hp4
      have HO4 := Lib.hid (HO3.out.trans (ho4.mono pfp_p))
      have HB4 := Lib.hid (ho4.blk HB3.out (by simpa using HGP.out))
      clear hp4 ho4 f6 c6 HP3 HO3 HB3 HM3
      generalize w3.setCell ⟨i.p, 6, none⟩ (.slice A3 (st.row.filter fun x => !({ st with s := st.undo.s } : PS).isFresh x.place).length c3) = w4 at *
      have gc := HB4.out.drew.cell 0
      obtain ⟨hp5, ho5, hf5⟩ := HP4.out.drew.clear
      have HP5 := Lib.hid hp5
      have HO5 : Hid (Only wr (((w4.drew.alloc (.map #[] 0)).setCell ⟨i.p, 11, none⟩ (.slice none 0 0)).setCell ⟨i.p, 10, none⟩ (.map (some w4.drew.heap.size))) (pfp i.p kb fb rv ov)) := HO4.out.drew.trans ((((Only.refl w4.drew [i.p]).alloc _).setCell (by simp) _).setCell (by simp) _ |>.mono pfp_p)
      have HF5 : Hid (Fresh wr (pfp i.p kb fb rv ov) (pfp i.p kb w4.drew.heap.size (.slice A3 (st.row.filter fun x => !({ st with s := st.undo.s } : PS).isFresh x.place).length c3) (.slice none 0 0))) := by
        intro x hx
        simp only [pfp, List.mem_cons, List.mem_append, Option.mem_toList] at hx ⊢
        rcases hx with rfl | rfl | rfl | hx | hx
        · exact .inl (.inl rfl)
        · exact .inl (.inr (.inl rfl))
        · exact .inr HO4.out.size
        · exact .inr (HF3.out x hx)
        · cases hx
      have gcA := (HB4.out.alloc (.map #[] 0)).cell 0
      have gcB := (HB4.out.far (p := ⟨i.p, 11, none⟩) HGP.out (.slice none 0 0)).cell 0
      have gcC := ((HB4.out.far (p := ⟨i.p, 11, none⟩) HGP.out (.slice none 0 0)).alloc (.map #[] 0)).cell 0
      have gcD := ((HB4.out.alloc (.map #[] 0)).far (p := ⟨i.p, 11, none⟩) HGP.out (.slice none 0 0)).cell 0
      have c10B := ((HP4.out.box.set_ 11 (.slice none 0 0)).alloc (.map #[] 0)).cell 10
      have f10B := ((HP4.out.box.set_ 11 (.slice none 0 0)).alloc (.map #[] 0)).frozen 10
      have c11B := ((HP4.out.box.set_ 11 (.slice none 0 0)).alloc (.map #[] 0)).cell 11
      have f11a := HP4.out.box.frozen 11
      have f10a := HP4.out.box.frozen 10
      have c11a := HP4.out.box.cell 11
      have c10a := HP4.out.box.cell 10
      have f11 := (HP4.out.alloc (.map #[] 0)).box.frozen 11
      have f10 := (HP4.out.alloc (.map #[] 0)).box.frozen 10
      have c11 := (HP4.out.alloc (.map #[] 0)).box.cell 11
      have c10 := (HP4.out.alloc (.map #[] 0)).box.cell 10
      clear hp5 ho5 hf5
      go_wp2_with fail
      obtain ⟨hp6, ho6⟩ := HP4.out.clear2
      have HP6 := Lib.hid hp6
      have HO6 := Lib.hid (HO4.out.trans (ho6.mono pfp_p))
      clear hp6 ho6
      go_region
      · go_end0
        obtain ⟨x, y⟩ := HEND.out _ _ _ _ HP6.out.drew HO6.out.drew HF5.out
        exact ⟨rfl, _, x, HK.out.trans y⟩
      · go_end0
        obtain ⟨x, y⟩ := HEND.out _ _ _ _ HP5.out HO5.out HF5.out
        exact ⟨rfl, _, x, HK.out.trans y⟩
    · have HU := Lib.hid hU
      change (Instr.next (.pointer (some ⟨w.heap.size + 1, 0, none⟩)) false 0).run Tryz.prog wr = .ok (.tuple #[.bool true, .int .i64 p.1, .bool p.2]) w2 at hnext
      change (Instr.entry (.pointer (some ⟨w.heap.size + 1, 0, none⟩))).run Tryz.prog w2 = .ok (.tuple #[.int .i64 p.1, .bool p.2]) w2 at hent
      obtain ⟨h2, k2, p2, o2, b2, _⟩ := hU.turn ho2
      have c3 := h2.c3
      have g2 := b2.cell 0
      have HC := Lib.hid (pdrop_far h2 hU.okn hn p.1)
      have HJ : Hid (left[j]? = some (p.1, p.2)) := hj
      have HR2 := Lib.hid hrg2
      have HO2 := Lib.hid ho2
      have hjl : j < left.length := (List.getElem?_eq_some_iff.1 hj).1
      clear hU hj hrg2 ho2 h2 k2 p2 o2 b2 U
      generalize p.1 = x at *
      generalize p.2 = y at *
      go_wp2_with fail
      refine HC.out.mono ?_
      rintro e w3 ⟨rfl, own3, S, h3, k3, ho3, hS3⟩
      have U3 := Lib.hid (HU.out.next HO2.out HJ.out HR2.out h3 k3 ho3 hS3)
      clear h3 k3 ho3 hS3 HC HU HO2 HR2 HJ c3 g2 hnext hent
      go_wp2_with fail
      go_roundg (gk - 1)
      case measure => omega
      case rel => exact ⟨left.eraseIdx j, s1.dropI x, own3, by rw [List.length_eraseIdx_of_lt hjl]; omega, U3.out⟩

end Go.Proofs.YtimpjlnbbdfehaaGreatDoor
namespace Go.Proofs.YtimpjlnbbdfehaaGreatDoor
open Go.RowKit Go.Shelf Go.Lib Go.Sort
set_option linter.unusedVariables false
attribute [local go_sem ↓] shr_32_1 shl_32_1 shr_32_2 shl_32_2 shr_32_3 shl_32_3 shr_32_4 shl_32_4 shr_32_5 shl_32_5 shr_32_6 shl_32_6 shr_32_7 shl_32_7 shr_32_8 shl_32_8 shr_32_9 shl_32_9 shr_32_10 shl_32_10 shr_32_11 shl_32_11 shr_32_12 shl_32_12 shr_32_13 shl_32_13 shr_32_14 shl_32_14 shr_32_15 shl_32_15 shr_32_16 shl_32_16 shr_32_17 shl_32_17 shr_32_18 shl_32_18 shr_32_19 shl_32_19 shr_32_20 shl_32_20 shr_32_21 shl_32_21 shr_32_22 shl_32_22 shr_32_23 shl_32_23 shr_32_24 shl_32_24 shr_32_25 shl_32_25 shr_32_26 shl_32_26 shr_32_27 shl_32_27 shr_32_28 shl_32_28 shr_32_29 shl_32_29 shr_32_30 shl_32_30 shr_32_31 shl_32_31 shr_64_3 shl_64_3 shr_64_7 shl_64_7 shr_64_8 shl_64_8 shr_64_16 shl_64_16 shr_64_24 shl_64_24 shr_64_32 shl_64_32 shr_64_40 shl_64_40 shr_64_48 shl_64_48 shr_64_56 shl_64_56
attribute [local go_sem] add_u32 add_u64 and_u8 or_u8 xor_u8 and_u32 or_u32 xor_u32 and_u64 or_u64 xor_u64 conv_32_8 conv_64_8 conv_64_32 conv_8_32 conv_8_64 conv_32_64

/-! ### Loads of structs inside rows -/
theorem run_loadVar_at {P : Program} (w : World) (ad : Addr) (ty : TypeId) (cs : List Value) (d : TypeDesc) (hc : ∀ j u, cs[j]? = some u → w.cell? (ad.add j) = some u)
    (hu : P.underlying ty = some d) (hd : (match d with | .struct _ | .array _ _ => true | _ => false) = true) (hi : (P.info? ty).map (·.size) = some cs.length) :
    (loadVar ty ad).run P w = .ok (.agg cs.toArray) w := by
  have hl : (loadCells ad cs.length).run P w = .ok cs.toArray w := run_loadCells_list (P := P) w ad cs (fun j v hv => hc j v hv)
  cases hq : P.info? ty with
  | none => simp [hq] at hi
  | some i =>
    have hs : i.size = cs.length := by simpa [hq] using hi
    have hagg : (isAgg ty).run P w = .ok true w := by
      unfold isAgg
      rw [Sem.run_bind, run_underlying hu w]
      cases d <;> simp_all
    simp [loadVar, Sem.run_bind, hagg, sizeOf, typeInfo, hq, hs, hl]
theorem wpList_load_at {P : Program} {ops : Array Oper} {rest : List Oper} {o : Oper} {a : Act} {w : World} {Q : Exit → Act → World → Prop} (hgd : o.guard = none) (ty : TypeId) (x : Operand) (ho : o.op = .load ty x)
    (ad : Addr) (hx : a.eval x = .pointer (some ad)) (cs : List Value) (d : TypeDesc) (hc : ∀ j u, cs[j]? = some u → w.cell? (ad.add j) = some u)
    (hu : P.underlying ty = some d) (hd : (match d with | .struct _ | .array _ _ => true | _ => false) = true) (hi : (P.info? ty).map (·.size) = some cs.length)
    (h : wpList P ops Q rest (a.put o.dst (.agg cs.toArray)) w) : wpList P ops Q (o :: rest) a w :=
  wpList_plain hgd fun _ hK => by
    unfold Oper.wp execOp
    simp only [ho, hx, Instr.loadAt, Instr.sureAddr, Sem.run_bind, Sem.run_pure, Result.andThen_ok, run_loadVar_at w ad ty cs d hc hu hd hi]
    exact hK _ _ h
/-! ### Parts of a slice of the call's own -/
section
variable {w : World} {B : Nat} {e T : TypeId} {size : Nat} {v : Value} {n : Nat} {xs : List Value}
theorem Mid.take_ (hu : Tryz.prog.underlying T = some (.slice e)) (hs : (Tryz.prog.info? e).map (·.size) = some size) (h : Mid w B e size v n xs) {k : Nat} (hk : k ≤ n) (n' : Int) (hn' : n' = (k : Int)) :
    ∃ A c, (∀ w, (Instr.slice T v none (some (.int .i64 n')) none).run Tryz.prog w = .ok (.slice A k c) w) ∧ (∀ w', Mid w' B e size v n xs → Row w' A (xs.take (k * size))) := by
  subst hn'
  have hrow : ∀ w', Mid w' B e size v n xs → ∀ A c, v = .slice A n c → Row w' A (xs.take (k * size)) := fun w' hm A c hv => by
    obtain ⟨A', c', hv', _, _, hr⟩ := hm.form
    rw [hv] at hv'
    injection hv' with hA _ _
    subst hA
    intro hp
    obtain ⟨ad, e1, hc⟩ := hr (by rw [List.length_take] at hp; omega)
    exact ⟨ad, e1, fun j u hj => hc j u (by
      rw [List.getElem?_take] at hj
      split at hj
      · exact hj
      · cases hj)⟩
  rcases h.2 with ⟨rfl, hz⟩ | ⟨g, off, cap, cur, rfl, hb, hh, hnc, _⟩
  · obtain rfl : k = 0 := by omega
    refine ⟨none, 0, fun w => ?_, fun w' hm => ?_⟩
    · cases hi : Tryz.prog.info? e with
      | none => rw [hi] at hs; cases hs
      | some i =>
        rw [hi] at hs
        simp only [Option.map_some, Option.some.injEq] at hs
        simp [Instr.slice, run_underlying hu, Instr.sliceBounds, Instr.sliceBound, asIntOf, sizeOf, typeInfo, hi]
    · have := hrow w' hm none 0 (by rw [hz])
      exact this
  · refine ⟨some ⟨g, off, none⟩, cap, fun w => ?_, fun w' hm => hrow w' hm _ _ rfl⟩
    cases hi : Tryz.prog.info? e with
    | none => rw [hi] at hs; cases hs
    | some i =>
      rw [hi] at hs
      simp only [Option.map_some, Option.some.injEq] at hs
      have hkc : k ≤ cap := by omega
      by_cases hc0 : cap = 0
      · obtain rfl : k = 0 := by omega
        simp [Instr.slice, run_underlying hu, Instr.sliceBounds, Instr.sliceBound, asIntOf, sizeOf, typeInfo, hi, hc0]
      · simp [Instr.slice, run_underlying hu, Instr.sliceBounds, Instr.sliceBound, asIntOf, sizeOf, typeInfo, hi, hc0, hkc, add_at]
theorem Mid.drop_ (hu : Tryz.prog.underlying T = some (.slice e)) (hs : (Tryz.prog.info? e).map (·.size) = some size) (h : Mid w B e size v n xs) {k : Nat} (hk : k ≤ n) (n' : Int) (hn' : n' = (k : Int)) :
    ∃ A c, (∀ w, (Instr.slice T v (some (.int .i64 n')) none none).run Tryz.prog w = .ok (.slice A (n - k) c) w) ∧ (∀ w', Mid w' B e size v n xs → Row w' A (xs.drop (k * size))) := by
  subst hn'
  have hrow : ∀ w', Mid w' B e size v n xs → ∀ A c, v = .slice A n c → Row w' (if c = k then A else A.map (·.add (k * size))) (xs.drop (k * size)) := fun w' hm A c hv => by
    subst hv
    obtain ⟨A', c', hv', _, _, hr⟩ := (hm.drop hk).form
    injection hv' with hA _ _
    rw [hA]
    exact hr
  rcases h.2 with ⟨rfl, hz⟩ | ⟨g, off, cap, cur, rfl, hb, hh, hnc, _⟩
  · obtain rfl : k = 0 := by omega
    subst hz
    refine ⟨_, 0, fun w => ?_, fun w' hm => hrow w' hm none 0 rfl⟩
    cases hi : Tryz.prog.info? e with
    | none => rw [hi] at hs; cases hs
    | some i =>
      rw [hi] at hs
      simp only [Option.map_some, Option.some.injEq] at hs
      simp [Instr.slice, run_underlying hu, Instr.sliceBounds, Instr.sliceBound, asIntOf, sizeOf, typeInfo, hi, hs]
  · refine ⟨_, cap - k, fun w => ?_, fun w' hm => hrow w' hm _ _ rfl⟩
    cases hi : Tryz.prog.info? e with
    | none => rw [hi] at hs; cases hs
    | some i =>
      rw [hi] at hs
      simp only [Option.map_some, Option.some.injEq] at hs
      have h1 : (0 : Int) ≤ (k : Int) ∧ (k : Int) ≤ (n : Int) := ⟨by omega, by omega⟩
      simp [Instr.slice, run_underlying hu, Instr.sliceBounds, Instr.sliceBound, asIntOf, sizeOf, typeInfo, hi, hs, h1]
      try omega
/-- One cell of it is written. -/
theorem Mid.setC {g off cap : Nat} (h : Mid w B e size (.slice (some ⟨g, off, none⟩) n cap) n xs) {j : Nat} (hj : j < n * size) (x : Value) : Mid (w.setCell ⟨g, off + j, none⟩ x) B e size (.slice (some ⟨g, off, none⟩) n cap) n (xs.set j x) := by
  refine ⟨by rw [List.length_set]; exact h.1, ?_⟩
  rcases h.2 with ⟨hv, _⟩ | ⟨g', off', cap', cur, hv, hb, hh, hnc, hcm, hcs, ht⟩
  · cases hv
  · injection hv with h1 h2 h3
    injection h1 with h1
    injection h1 with h4 h5 _
    subst h4; subst h5; subst h3
    refine .inr ⟨g, off, cap, cur.setIfInBounds (off + j) x, rfl, hb, hh.set_ _ _, hnc, hcm, by simpa using hcs, ?_⟩
    rw [← ht]
    have hks : n * size ≤ cap * size := Nat.mul_le_mul_right _ hnc
    apply List.ext_getElem?
    intro i
    rw [List.getElem?_take, List.getElem?_set, List.getElem?_drop, List.getElem?_take, List.getElem?_drop]
    simp only [Array.getElem?_toList, Array.getElem?_setIfInBounds, List.length_take, List.length_drop, Array.length_toList]
    by_cases hi : i < n * size
    · by_cases e : j = i
      · subst e
        rw [if_pos hi, if_pos rfl, if_pos (by omega), if_pos rfl, if_pos (by omega)]
      · rw [if_pos hi, if_neg (by omega), if_neg e, if_pos hi]
    · rw [if_neg hi, if_neg (by omega), if_neg hi]
end
/-! ### The law's pages -/
def Pg.cells (x : Pg) : List Value := [.int .i64 x.r.place, .string x.r.sum, .string x.s, .bool x.fresh, .bool x.old]
def pgs (l : List Pg) : List Value := l.flatMap Pg.cells
theorem pgs_cons (x : Pg) (l : List Pg) : pgs (x :: l) = x.cells ++ pgs l := rfl
theorem pgs_app (a b : List Pg) : pgs (a ++ b) = pgs a ++ pgs b := by simp [pgs]
theorem pgs_len (l : List Pg) : (pgs l).length = l.length * 5 := by
  induction l with
  | nil => rfl
  | cons a l ih => rw [pgs_cons, List.length_append, ih, List.length_cons]; simp [Pg.cells]; omega
theorem pgs_one (l : List Pg) : ∀ u ∈ pgs l, u.oneCell' = true := by
  intro u hu
  obtain ⟨r, _, hr⟩ := List.mem_flatMap.1 hu
  simp [Pg.cells] at hr
  rcases hr with rfl | rfl | rfl | rfl | rfl <;> rfl
theorem pgs_get (l : List Pg) (k : Nat) (hk : k < l.length) (j : Nat) (hj : j < 5) : (pgs l)[k * 5 + j]? = l[k].cells[j]? := by
  induction l generalizing k with
  | nil => cases hk
  | cons x r ih =>
    rw [pgs_cons]
    cases k with
    | zero => rw [List.getElem?_append_left (by simp [Pg.cells]; omega), Nat.zero_mul, Nat.zero_add]; rfl
    | succ k =>
      rw [List.getElem?_append_right (by simp [Pg.cells]; omega)]
      have := ih k (by simpa using hk)
      rw [show (k + 1) * 5 + j - x.cells.length = k * 5 + j by simp [Pg.cells]; omega, this]
      rfl
theorem pgs_take (l : List Pg) (k : Nat) : (pgs l).take (k * 5) = pgs (l.take k) := by
  by_cases hk : k ≤ l.length
  · have e : pgs l = pgs (l.take k) ++ pgs (l.drop k) := by rw [← pgs_app, List.take_append_drop]
    rw [e, show k * 5 = (pgs (l.take k)).length by rw [pgs_len, List.length_take, Nat.min_eq_left hk]]
    exact List.take_left
  · rw [List.take_of_length_le (by rw [pgs_len]; omega), List.take_of_length_le (by omega)]
theorem pgs_drop (l : List Pg) (k : Nat) : (pgs l).drop (k * 5) = pgs (l.drop k) := by
  by_cases hk : k ≤ l.length
  · have e : pgs l = pgs (l.take k) ++ pgs (l.drop k) := by rw [← pgs_app, List.take_append_drop]
    rw [e, show k * 5 = (pgs (l.take k)).length by rw [pgs_len, List.length_take, Nat.min_eq_left hk]]
    exact List.drop_left
  · rw [List.drop_of_length_le (by rw [pgs_len]; omega), List.drop_of_length_le (by omega)]
    rfl
theorem pgs_erase (l : List Pg) (k : Nat) : (pgs l).take (k * 5) ++ (pgs l).drop ((k + 1) * 5) = pgs (l.eraseIdx k) := by
  rw [pgs_take, pgs_drop, ← pgs_app, List.eraseIdx_eq_take_drop_succ]
theorem pgs_old (l : List Pg) (k : Nat) (x : Pg) (hk : l[k]? = some x) (hf : x.fresh = false) : (pgs l).set (k * 5 + 4) (.bool true) = pgs (l.set k ⟨x.r, x.s, false, true⟩) := by
  induction l generalizing k with
  | nil => simp at hk
  | cons a l ih =>
    cases k with
    | zero =>
      simp only [List.getElem?_cons_zero, Option.some.injEq] at hk
      subst hk
      rw [List.set_cons_zero, pgs_cons, pgs_cons]
      simp [Pg.cells, hf]
    | succ k =>
      simp only [List.getElem?_cons_succ] at hk
      rw [List.set_cons_succ, pgs_cons, pgs_cons, ← ih k hk, List.set_append_right _ _ (by simp [Pg.cells]; omega)]
      rw [show (k + 1) * 5 + 4 - a.cells.length = k * 5 + 4 by simp [Pg.cells]; omega]
theorem info73 : (Tryz.prog.info? 73).map (·.size) = some 5 := by kernel_rfl
theorem info73f : (Tryz.prog.info? 73).map (fun i => (i.zero, i.size, i.bytes)) = some (some (.agg #[.int .i64 0, .string ⟨#[]⟩, .string ⟨#[]⟩, .bool false, .bool false]), 5, 48) := by kernel_rfl
theorem info71 : (Tryz.prog.info? 71).map (·.size) = some 3 := by kernel_rfl
/-! ### Numbers behind each call -/
section
variable {st : PS} {n : Nat}
theorem PS.reads_okN (ok : st.okN n) (b : BkS) : ({ st with reads := st.reads + 1, b := b } : PS).okN (n + 1) :=
  have k := ok.mono (Nat.le_succ n)
  ⟨k.dl, k.drow, k.dall, k.dnall, k.acts, k.key, Nat.succ_le_succ ok.reads, k.hits, k.row, k.rows, k.old, k.sl, k.sf, k.m0, k.m1⟩
theorem PS.hits_okN (ok : st.okN n) : ({ st with hits := st.hits + 1 } : PS).okN (n + 1) :=
  have k := ok.mono (Nat.le_succ n)
  ⟨k.dl, k.drow, k.dall, k.dnall, k.acts, k.key, k.reads, Nat.succ_le_succ ok.hits, k.row, k.rows, k.old, k.sl, k.sf, k.m0, k.m1⟩
theorem PS.fetS_okN (ok : st.okN n) (k : Int) (sum : ByteArray) : (st.fetS k sum).okN (n + 1) := by
  unfold PS.fetS PS.fetchS
  split
  · split
    · exact PS.reads_okN ok st.b
    · exact PS.reads_okN ok _
  · exact ok.mono (Nat.le_succ n)
theorem PS.read_okN (ok : st.okN n) (r : Ref) (hr : RefOk r) : (st.read r).1.okN (n + 2) := by
  unfold PS.read
  split
  · exact ok.mono (by omega)
  · split
    · exact (PS.hits_okN ok).mono (by omega)
    · split
      · exact PS.keep_okN (PS.fetS_okN ok _ _) r hr _
      · exact (PS.fetS_okN ok _ _).mono (by omega)
theorem PS.dropP_okN (ok : st.okN n) (hc : st.s.okC) (r : Ref) : (st.drop r).okN (n + 1) := by
  have k := (PS.lose_okN ok r).mono (Nat.le_succ n)
  have hls : (st.lose r).s = st.s := (lose_rest st r).2.2.1
  unfold PS.drop
  split
  · exact ok.mono (Nat.le_succ n)
  · split
    · have := PS.drop_okN (PS.fresh_okN (PS.lose_okN ok r) (mdel (st.lose r).fresh r.place)) (by show SpS.okC (st.lose r).s; rw [hls]; exact hc) r.place
      exact this.mono (Nat.le_succ n)
    · exact ⟨k.dl, k.drow, k.dall, k.dnall, k.acts, k.key, k.reads, k.hits, k.row, k.rows, by have := (PS.lose_okN ok r).old; show ((st.lose r).old ++ [r.place]).length ≤ n + 1; rw [List.length_append]; simp; omega, k.sl, k.sf, k.m0, k.m1⟩
theorem PS.cut_okN (ok : st.okN n) (hc : st.s.okC) (l : List Int) (kept : List (Ref × ByteArray)) (row : List Ref) (hr : row.length ≤ st.row.length) (hs : ∀ x ∈ row, x ∈ st.row) : ({ st with s := l.foldl SpS.dropI st.s, kept := kept, row := row, fresh := [], old := [] } : PS).okN n :=
  have k := PS.drops_okN l ok hc
  ⟨k.dl, k.drow, k.dall, k.dnall, k.acts, k.key, k.reads, k.hits, Nat.le_trans hr ok.row, fun x hx => ok.rows x (hs x hx), Nat.zero_le _, k.sl, k.sf, k.m0, k.m1⟩
theorem PS.done_okN (ok : st.okN n) (hc : st.s.okC) : st.done.okN n := PS.cut_okN ok hc st.old st.kept st.row (Nat.le_refl _) (fun _ h => h)
theorem PS.undo_okN (ok : st.okN n) (hc : st.s.okC) : st.undo.okN n := PS.cut_okN ok hc _ _ _ (List.length_filter_le _ _) (fun _ h => (List.mem_filter.1 h).1)
end
/-! ### Calls that are left -/
theorem pmany_ok {w : World} {i : Ids} {st : PS} {own : Nat → Nat} (h : SysC w i st own) : Calls Tryz.prog 37 #[.pointer (some ⟨i.s, 0, none⟩)] w fun e w' => e = .returned (.int .i64 st.s.many) ∧ w = w' := by
  obtain ⟨sb, hs, _⟩ := h.space
  exact sp_many_any hs
set_option maxHeartbeats 2000000 in
set_option maxRecDepth 100000 in
theorem write_long {w : World} {i : Ids} {st : PS} {own : Nat → Nat} (h : SysC w i st own) (t : ByteArray) (ht : 462 < t.size) :
    Calls Tryz.prog 28 #[.pointer (some ⟨i.p, 0, none⟩), .string t] w (PT i w own st (.tuple #[.agg #[.int .i64 (-1), .string ⟨#[]⟩], .int .i64 1])) := by
  have hA : Blk ((w.alloc (.cells #[.int .i64 0, .string ⟨#[]⟩] 54)).alloc (.cells #[.int .i64 0, .string ⟨#[]⟩] 54)) (w.heap.size + 1) 54 #[.int .i64 0, .string ⟨#[]⟩] := blk_new1 w _ 54 _
  obtain ⟨own1, h1⟩ := two_boxes h 54 #[.int .i64 0, .string ⟨#[]⟩] #[.int .i64 0, .string ⟨#[]⟩] #[.int .i64 (-1), .string ⟨#[]⟩]
  have hd : decide ((462 : Int) < (t.size : Int)) = true := by simp; omega
  have HF := Lib.hid (h1.fin (Nat.le_refl _) h.salts.1 #[.int .i64 (-1), .string ⟨#[]⟩])
  have H1 := Lib.hid h1
  have HA := Lib.hid hA
  clear h ht h1 hA
  go_enter Tryz.func28, Tryz.ntmps28
  go_wp2_with (first
    | (refine wpList_store_row rfl 54 (.tmp 6) (.tmp 12) (by rfl) (w.heap.size + 1) #[.int .i64 (-1), .string ⟨#[]⟩] (by rfl) (by rfl) 54 _ HA.out info54 (by rfl) (by simp [Value.oneCell']) ?_; generalize ((w.alloc (.cells #[.int .i64 0, .string ⟨#[]⟩] 54)).alloc (.cells #[.int .i64 0, .string ⟨#[]⟩] 54)).setRow (w.heap.size + 1) #[.int .i64 (-1), .string ⟨#[]⟩] = w1 at *)
    | (refine wpList_load_row rfl 54 (.tmp 6) (by rfl) (w.heap.size + 1) (by rfl) 54 #[.int .i64 (-1), .string ⟨#[]⟩] (0, 0) _ H1.out.b1 Tryz.underlying54 rfl info54 ?_)
    | (refine wpList_store_row rfl 54 (.tmp 4) (.tmp 20) (by rfl) w.heap.size #[.int .i64 (-1), .string ⟨#[]⟩] (by rfl) (by rfl) 54 _ H1.out.b0 info54 (by rfl) (by simp [Value.oneCell']) ?_)
    | fail)
  refine bodyPost_ret (results_cell_tmp (fn := Tryz.f28) rfl _ _ w.heap.size #[.int .i64 (-1), .string ⟨#[]⟩] (by rfl) (run_loadVar_row _ _ _ _ _ _ _ (H1.out.b0.row _) Tryz.underlying54 rfl info54)) rfl ?_
  exact ⟨rfl, HF.out⟩

end Go.Proofs.YtimpjlnbbdfehaaGreatDoor
