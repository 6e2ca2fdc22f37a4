import Derived.Test.YtmnakommidgmnaaW1
import Derived.Test.YtmnakommidgmnaaShelf
namespace Go.Proofs.Ytmnakommidgmnaa
open Go.RowKit Go.Sort
set_option linter.unusedVariables false

theorem put_take (cur : Array Value) (d : Array Int) (off m : Nat) (h : off + d.size ≤ cur.size) (hm : m ≤ d.size) :
    ((putCells (Value.int .i64) off d cur).toList.drop off).take m = (d.toList.take m).map (Value.int .i64) := by
  apply List.ext_getElem?
  intro j
  rw [List.getElem?_take]
  by_cases hj : j < m
  · rw [if_pos hj, List.getElem?_drop, Array.getElem?_toList]
    simp only [putCells, Array.getElem?_mapIdx]
    rw [Array.getElem?_eq_getElem (by omega), Option.map_some, if_pos ⟨by omega, by omega⟩, show off + j - off = j by omega, getElem!_pos d j (by omega)]
    have hd : j < d.size := by omega
    simp [hj, hd]
  · rw [if_neg hj]
    simp
    omega

theorem put_size (cur : Array Value) (d : Array Int) (off : Nat) : (putCells (Value.int .i64) off d cur).size = cur.size := by simp [putCells]

theorem putRow_blk {w : World} {g off : Nat} {t : TypeId} {cur : Array Value} (d : Array Int) (q : Nat) (h : Blk w g t cur) : Blk (putRow (Value.int .i64) (Sort.ahead w q) g off d) g t (putCells (Value.int .i64) off d cur) := by
  unfold Blk at h ⊢
  simp [putRow, mapBlock, Sort.ahead, Array.getElem?_modify, h, onCells]
theorem putRow_only (w : World) (g off q : Nat) (d : Array Int) : Only w (putRow (Value.int .i64) (Sort.ahead w q) g off d) [g] :=
  ⟨rfl, rfl, rfl, by simp [putRow, mapBlock, Sort.ahead], fun k hk hn => by
    have : g ≠ k := fun e => hn (by simp [e])
    simp [putRow, mapBlock, Sort.ahead, Array.getElem?_modify, this]⟩
theorem grow_only (w : World) (os : Array Obj) (S : List Nat) : Only w (grow w os) S :=
  ⟨rfl, rfl, rfl, by simp [grow], fun k hk _ => by simp [grow, Array.getElem?_append, hk]⟩

theorem holds_of_blk {w : World} {g off n : Nat} {t : TypeId} {cur : Array Value} {l : List Int} (h : Blk w g t cur) (hl : l.length = n) (ht : (cur.toList.drop off).take n = iv l) :
    Holds (Value.int .i64) w g off l.toArray := by
  intro j hj
  have hj' : j < l.length := by simpa using hj
  refine ⟨?_, h.frozen _⟩
  rw [h.cell, ← Array.getElem?_toList]
  have e : ((cur.toList.drop off).take n)[j]? = (iv l)[j]? := by rw [ht]
  rw [List.getElem?_take, if_pos (by omega), List.getElem?_drop] at e
  rw [e]
  simp [iv, hj']

theorem compact_nil : Lib.compact ([] : List Int) = [] := rfl
abbrev srt (l : List Int) : List Int := l.mergeSort fun x y => decide (x ≤ y)

theorem sort_mid {w : World} {B : Nat} {v : Value} {l : List Int} (h : Mid w B 3 1 v l.length (iv l)) (hl : l.length ≤ 17592186044415) :
    Calls Try.prog 14 #[v] w fun e w' => e = .returned (.tuple #[]) ∧ Mid w' B 3 1 v l.length (iv (srt l)) ∧ ∃ S, Only w w' S ∧ ∀ x ∈ S, v.ownBlock = some x := by
  rcases h.2 with ⟨rfl, h0⟩ | ⟨g, off, cap, cur, rfl, hb, hh, hnc, hcm, hcs, ht⟩
  · rw [h0]
    refine (Try.slices_Sort_int_none none 0 w).mono ?_
    rintro e w' ⟨rfl, rfl⟩
    have : l = [] := List.eq_nil_of_length_eq_zero h0
    subst this
    exact ⟨rfl, by rw [show srt [] = [] from by simp [srt]]; exact Mid.nil _ _ _ _, [], Only.refl _ _, by simp⟩
  · rcases Nat.eq_zero_or_pos l.length with h0 | h0
    · have e : l = [] := List.eq_nil_of_length_eq_zero h0
      subst e
      refine (Try.slices_Sort_int_none (some ⟨g, off, none⟩) cap w).mono ?_
      rintro e w' ⟨rfl, rfl⟩
      exact ⟨rfl, by rw [show srt [] = [] from by simp [srt]]; exact h, [], Only.refl _ _, by simp⟩
    · rw [Nat.mul_one] at ht hcs
      refine (Try.slices_Sort_int g off cap l w (holds_of_blk hh rfl ht) hh.lt (by omega)).mono ?_
      rintro e w' ⟨rfl, q, os, rfl⟩
      have hsz : (srt l).length = l.length := List.length_mergeSort _
      have hg : Blk (grow (putRow (Value.int .i64) (Sort.ahead w q) g off (srt l).toArray) os) g 3 (putCells (Value.int .i64) off (srt l).toArray cur) := by
        have h1 := putRow_blk (off := off) (srt l).toArray q hh
        exact (grow_only _ os []).blk h1 (by simp)
      refine ⟨rfl, ⟨by simp [iv], .inr ⟨g, off, cap, _, rfl, hb, hg, hnc, hcm, by rw [put_size]; omega, ?_⟩⟩, [g], (putRow_only w g off q _).trans (grow_only _ os _), by simp [Value.ownBlock]⟩
      rw [Nat.mul_one]
      have h2 := put_take cur (srt l).toArray off l.length (by simp only [List.size_toArray, hsz]; omega) (by simp only [List.size_toArray, hsz]; omega)
      rw [h2]
      congr 1
      rw [List.take_of_length_le (by simp only [hsz]; omega)]

theorem compact_mid {w : World} {B : Nat} {v : Value} {l : List Int} (h : Mid w B 3 1 v l.length (iv l)) (hl : l.length ≤ 17592186044415) :
    Calls Try.prog 15 #[v] w fun e w' => ∃ v', e = .returned v' ∧ Mid w' B 3 1 v' (Lib.compact l).length (iv (Lib.compact l)) ∧ v'.ownBlock = v.ownBlock ∧ ∃ S, Only w w' S ∧ ∀ x ∈ S, v.ownBlock = some x := by
  rcases h.2 with ⟨rfl, h0⟩ | ⟨g, off, cap, cur, rfl, hb, hh, hnc, hcm, hcs, ht⟩
  · refine (Try.slices_Compact_int_empty none 0 w).mono ?_
    rintro e w' ⟨rfl, rfl⟩
    have : l = [] := List.eq_nil_of_length_eq_zero h0
    subst this
    exact ⟨_, rfl, by rw [compact_nil]; exact Mid.nil _ _ _ _, rfl, [], Only.refl _ _, by simp⟩
  · rw [Nat.mul_one] at ht hcs
    refine (Try.slices_Compact_int g off cap l w (holds_of_blk hh rfl ht) (by omega) hnc).mono ?_
    rintro e w' ⟨rfl, q, rfl⟩
    have hc : (Lib.compact l).length ≤ l.length := by
      unfold Lib.compact Lib.compactUpTo
      rw [List.length_map]
      exact Nat.le_trans (List.length_filter_le _ _) (by simp)
    have hsz : (Lib.compact l ++ List.replicate (l.length - (Lib.compact l).length) 0).length = l.length := by simp; omega
    refine ⟨_, rfl, ⟨by simp [iv], .inr ⟨g, off, cap, _, rfl, hb, putRow_blk _ q hh, by omega, hcm, by rw [put_size]; omega, ?_⟩⟩, rfl, [g], putRow_only w g off q _, by simp [Value.ownBlock]⟩
    rw [Nat.mul_one]
    have h2 := put_take cur (Lib.compact l ++ List.replicate (l.length - (Lib.compact l).length) 0).toArray off (Lib.compact l).length (by simp only [List.size_toArray, hsz]; omega) (by simp only [List.size_toArray, hsz]; omega)
    rw [h2]
    congr 1
    simp

end Go.Proofs.Ytmnakommidgmnaa
