import Derived.Test.YtahhbgfibelfaaaDoorQE
namespace Go.Proofs.YtahhbgfibelfaaaDoor
open Go.RowKit Go.Lib
set_option linter.unusedVariables false

attribute [local go_sem] wfld0 wfld1 wfld2 wfld3
open Go.Sort
abbrev sv (l : List (List UInt8)) : List Value := l.map encStr
theorem put_take (cur : Array Value) (d : Array (List UInt8)) (off m : Nat) (h : off + d.size ≤ cur.size) (hm : m ≤ d.size) :
    ((putCells encStr off d cur).toList.drop off).take m = (d.toList.take m).map encStr := by
  apply List.ext_getElem?
  intro j
  rw [List.getElem?_take]
  by_cases hj : j < m
  · rw [if_pos hj, List.getElem?_drop, Array.getElem?_toList]
    simp only [putCells, Array.getElem?_mapIdx]
    rw [Array.getElem?_eq_getElem (by omega), Option.map_some, if_pos ⟨by omega, by omega⟩, show off + j - off = j by omega, getElem!_pos d j (by omega)]
    have hd : j < d.size := by omega
    simp [hj, hd]
  · rw [if_neg hj]
    simp
    omega

theorem put_size (cur : Array Value) (d : Array (List UInt8)) (off : Nat) : (putCells encStr off d cur).size = cur.size := by simp [putCells]

theorem putRow_blk {w : World} {g off : Nat} {t : TypeId} {cur : Array Value} (d : Array (List UInt8)) (q : Nat) (h : Blk w g t cur) : Blk (putRow encStr (Sort.ahead w q) g off d) g t (putCells encStr off d cur) := by
  unfold Blk at h ⊢
  simp [putRow, mapBlock, Sort.ahead, Array.getElem?_modify, h, onCells]
theorem putRow_only (w : World) (g off q : Nat) (d : Array (List UInt8)) : Only w (putRow encStr (Sort.ahead w q) g off d) [g] :=
  ⟨rfl, rfl, rfl, by simp [putRow, mapBlock, Sort.ahead], fun k hk hn => by
    have : g ≠ k := fun e => hn (by simp [e])
    simp [putRow, mapBlock, Sort.ahead, Array.getElem?_modify, this]⟩
theorem grow_only (w : World) (os : Array Obj) (S : List Nat) : Only w (grow w os) S :=
  ⟨rfl, rfl, rfl, by simp [grow], fun k hk _ => by simp [grow, Array.getElem?_append, hk]⟩

theorem holds_of_blk {w : World} {g off n : Nat} {t : TypeId} {cur : Array Value} {l : List (List UInt8)} (h : Blk w g t cur) (hl : l.length = n) (ht : (cur.toList.drop off).take n = sv l) :
    Holds encStr w g off l.toArray := by
  intro j hj
  have hj' : j < l.length := by simpa using hj
  refine ⟨?_, h.frozen _⟩
  rw [h.cell, ← Array.getElem?_toList]
  have e : ((cur.toList.drop off).take n)[j]? = (sv l)[j]? := by rw [ht]
  rw [List.getElem?_take, if_pos (by omega), List.getElem?_drop] at e
  rw [e]
  simp [sv, hj']

theorem compact_nil : Lib.compact ([] : List (List UInt8)) = [] := rfl
abbrev srt (l : List (List UInt8)) : List (List UInt8) := l.mergeSort fun x y => decide (x ≤ y)

theorem sort_mid {w : World} {B : Nat} {v : Value} {l : List (List UInt8)} (h : Mid w B 9 1 v l.length (sv l)) (hl : l.length ≤ 17592186044415) :
    Calls Tryd.prog 24 #[v] w fun e w' => e = .returned (.tuple #[]) ∧ Mid w' B 9 1 v l.length (sv (srt l)) ∧ ∃ S, Only w w' S ∧ ∀ x ∈ S, v.ownBlock = some x := by
  rcases h.2 with ⟨rfl, h0⟩ | ⟨g, off, cap, cur, rfl, hb, hh, hnc, hcm, hcs, ht⟩
  · rw [h0]
    refine (Tryd.slices_Sort_string_none none 0 w).mono ?_
    rintro e w' ⟨rfl, rfl⟩
    have : l = [] := List.eq_nil_of_length_eq_zero h0
    subst this
    exact ⟨rfl, by rw [show srt [] = [] from by simp [srt]]; exact Mid.nil _ _ _ _, [], Only.refl _ _, by simp⟩
  · rcases Nat.eq_zero_or_pos l.length with h0 | h0
    · have e : l = [] := List.eq_nil_of_length_eq_zero h0
      subst e
      refine (Tryd.slices_Sort_string_none (some ⟨g, off, none⟩) cap w).mono ?_
      rintro e w' ⟨rfl, rfl⟩
      exact ⟨rfl, by rw [show srt [] = [] from by simp [srt]]; exact h, [], Only.refl _ _, by simp⟩
    · rw [Nat.mul_one] at ht hcs
      refine (Tryd.slices_Sort_string g off cap l w (holds_of_blk hh rfl ht) hh.lt (by omega)).mono ?_
      rintro e w' ⟨rfl, q, os, rfl⟩
      have hsz : (srt l).length = l.length := List.length_mergeSort _
      have hg : Blk (grow (putRow encStr (Sort.ahead w q) g off (srt l).toArray) os) g 9 (putCells encStr off (srt l).toArray cur) := by
        have h1 := putRow_blk (off := off) (srt l).toArray q hh
        exact (grow_only _ os []).blk h1 (by simp)
      refine ⟨rfl, ⟨by simp [sv], .inr ⟨g, off, cap, _, rfl, hb, hg, hnc, hcm, by rw [put_size]; omega, ?_⟩⟩, [g], (putRow_only w g off q _).trans (grow_only _ os _), by simp [Value.ownBlock]⟩
      rw [Nat.mul_one]
      have h2 := put_take cur (srt l).toArray off l.length (by simp only [List.size_toArray, hsz]; omega) (by simp only [List.size_toArray, hsz]; omega)
      rw [h2]
      congr 1
      rw [List.take_of_length_le (by simp only [hsz]; omega)]

theorem compact_mid {w : World} {B : Nat} {v : Value} {l : List (List UInt8)} (h : Mid w B 9 1 v l.length (sv l)) (hl : l.length ≤ 17592186044415) :
    Calls Tryd.prog 25 #[v] w fun e w' => ∃ v', e = .returned v' ∧ Mid w' B 9 1 v' (Lib.compact l).length (sv (Lib.compact l)) ∧ v'.ownBlock = v.ownBlock ∧ ∃ S, Only w w' S ∧ ∀ x ∈ S, v.ownBlock = some x := by
  rcases h.2 with ⟨rfl, h0⟩ | ⟨g, off, cap, cur, rfl, hb, hh, hnc, hcm, hcs, ht⟩
  · refine (Tryd.slices_Compact_string_empty none 0 w).mono ?_
    rintro e w' ⟨rfl, rfl⟩
    have : l = [] := List.eq_nil_of_length_eq_zero h0
    subst this
    exact ⟨_, rfl, by rw [compact_nil]; exact Mid.nil _ _ _ _, rfl, [], Only.refl _ _, by simp⟩
  · rw [Nat.mul_one] at ht hcs
    refine (Tryd.slices_Compact_string g off cap l w (holds_of_blk hh rfl ht) (by omega) hnc).mono ?_
    rintro e w' ⟨rfl, q, rfl⟩
    have hc : (Lib.compact l).length ≤ l.length := by
      unfold Lib.compact Lib.compactUpTo
      rw [List.length_map]
      exact Nat.le_trans (List.length_filter_le _ _) (by simp)
    have hsz : (Lib.compact l ++ List.replicate (l.length - (Lib.compact l).length) []).length = l.length := by simp; omega
    refine ⟨_, rfl, ⟨by simp [sv], .inr ⟨g, off, cap, _, rfl, hb, putRow_blk _ q hh, by omega, hcm, by rw [put_size]; omega, ?_⟩⟩, rfl, [g], putRow_only w g off q _, by simp [Value.ownBlock]⟩
    rw [Nat.mul_one]
    have h2 := put_take cur (Lib.compact l ++ List.replicate (l.length - (Lib.compact l).length) []).toArray off (Lib.compact l).length (by simp only [List.size_toArray, hsz]; omega) (by simp only [List.size_toArray, hsz]; omega)
    rw [h2]
    congr 1
    simp


theorem srt_le (l : List (List UInt8)) : (srt l).Pairwise (· ≤ ·) := by
  have h := List.pairwise_mergeSort (le := fun x y : List UInt8 => decide (x ≤ y)) (fun a b c h1 h2 => by simp only [decide_eq_true_eq] at *; exact List.le_trans h1 h2) (fun a b => by simp only [Bool.or_eq_true, decide_eq_true_eq]; exact List.le_total a b) l
  exact h.imp (fun h => by simpa using h)
theorem toArr_get (l : List (List UInt8)) (k : Nat) (hk : k < l.length) : l.toArray[k]! = l[k] := by
  rw [getElem!_pos l.toArray k (by simpa using hk)]
  simp
/-- Sorted texts are no fewer without the neighbours that are alike just if no two are. -/
theorem compact_nodup (l : List (List UInt8)) (h : l.Pairwise (· ≤ ·)) : (Lib.compact l).length = l.length ↔ l.Nodup := by
  constructor
  · intro he
    have hk : ∀ j, j < l.length → Lib.keeps l.toArray j = true := by
      have hf : (List.filter (Lib.keeps l.toArray) (List.range l.length)).length = (List.range l.length).length := by
        have : (Lib.compact l).length = (List.filter (Lib.keeps l.toArray) (List.range l.length)).length := by
          unfold Lib.compact Lib.compactUpTo; rw [List.length_map]
        rw [← this, he]; simp
      have := List.length_filter_eq_length_iff.1 hf
      exact fun j hj => this j (by simpa using hj)
    rw [List.nodup_iff_pairwise_ne, List.pairwise_iff_getElem]
    intro i j hi hj hij e
    have hkj := hk j hj
    have hne : l[j] ≠ l[j - 1] := by
      simp only [Lib.keeps] at hkj
      simp at hkj
      rcases hkj with h0 | h0
      · omega
      · intro e2
        apply h0
        rw [← Option.some.injEq] at e2
        simpa [hj, show j - 1 < l.length by omega] using e2
    have hp := List.pairwise_iff_getElem.1 h
    have h1 : l[j - 1] ≤ l[j] := hp (j - 1) j (by omega) hj (by omega)
    have h2 : l[i] ≤ l[j - 1] := by
      by_cases e' : i = j - 1
      · subst e'; exact List.le_refl _
      · exact hp i (j - 1) (by omega) (by omega) (by omega)
    rw [e] at h2
    exact hne (List.le_antisymm h2 h1)
  · intro hn
    rw [Lib.compact_all l (fun j hj => ?_)]
    simp only [Lib.keeps]
    rcases Nat.eq_zero_or_pos j with h0 | h0
    · subst h0; simp
    · rw [List.nodup_iff_pairwise_ne, List.pairwise_iff_getElem] at hn
      have := hn (j - 1) j (by omega) hj (by omega)
      simp
      right
      intro e
      apply this
      have e2 := e
      simp [hj, show j - 1 < l.length by omega] at e2
      exact e2.symm
theorem srt_nodup (l : List (List UInt8)) : (Lib.compact (srt l)).length = (srt l).length ↔ l.Nodup := by
  rw [compact_nodup _ (srt_le l)]
  exact (List.mergeSort_perm l _).nodup_iff

end Go.Proofs.YtahhbgfibelfaaaDoor
