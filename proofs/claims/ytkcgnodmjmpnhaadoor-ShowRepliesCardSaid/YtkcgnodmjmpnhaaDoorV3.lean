import Derived.Test.YtkcgnodmjmpnhaaDoorV2
import Derived.OwnWalk
namespace Go.Proofs.YtkcgnodmjmpnhaaDoor
open Go.RowKit Go.Shelf Go.Lib Go.Sort
set_option linter.unusedVariables false

def joinOf (xs : List ByteArray) (sep : ByteArray) : ByteArray := ⟨(Lib.join (xs.map (·.data.toList)) sep.data.toList).toArray⟩
theorem join_len (sep : List UInt8) (M : Nat) : ∀ ls : List (List UInt8), (∀ l ∈ ls, l.length ≤ M) → (Lib.join ls sep).length ≤ ls.length * (M + sep.length)
  | [], _ => by simp [Lib.join_nil]
  | [x], h => by
    rw [Lib.join_one]
    have := h x (by simp)
    simp only [List.length_cons, List.length_nil]; omega
  | x :: y :: r, h => by
    have ih := join_len sep M (y :: r) (fun l hl => h l (List.mem_cons_of_mem _ hl))
    have hx := h x (by simp)
    have e : Lib.join (x :: y :: r) sep = x ++ sep ++ Lib.join (y :: r) sep := by simp [Lib.join, List.intercalate, List.intersperse]
    rw [e, List.length_append, List.length_append]
    simp only [List.length_cons, Nat.add_mul] at ih ⊢
    omega
theorem joinOf_size (xs : List ByteArray) (sep : ByteArray) (M : Nat) (h : ∀ x ∈ xs, x.size ≤ M) : (joinOf xs sep).size ≤ xs.length * (M + sep.size) := by
  have := join_len sep.data.toList M (xs.map (·.data.toList)) (fun l hl => by
    obtain ⟨x, hx, rfl⟩ := List.mem_map.1 hl
    rw [Array.length_toList]; exact h x hx)
  rw [List.length_map, Array.length_toList] at this
  show (List.toArray _).size ≤ _
  rw [List.size_toArray]
  exact this
theorem join_mid {w : World} {B : Nat} {v : Value} {xs : List ByteArray} (sep : ByteArray) (h : Mid w B 9 1 v xs.length (xs.map Value.string)) (hN : xs.length ≤ 1000000) (hlen : (joinOf xs sep).size ≤ 140737488355328) :
    Calls Tryd.prog 26 #[v, .string sep] w fun e w' => e = .returned (.string (joinOf xs sep)) ∧ Below w.heap.size w w' := by
  have hl : (Lib.join (xs.map (·.data.toList)) sep.data.toList).length ≤ 140737488355328 := by
    have e : (joinOf xs sep).size = (Lib.join (xs.map (·.data.toList)) sep.data.toList).length := by
      show (List.toArray _).size = _
      rw [List.size_toArray]
    omega
  rcases h.2 with ⟨rfl, h0⟩ | ⟨g, off, cap, cur, rfl, hb, hh, hnc, hcm, hcs, ht⟩
  · obtain rfl : xs = [] := List.eq_nil_of_length_eq_zero h0
    exact (Tryd.strings_Join_none none 0 sep w).mono fun e w' ⟨he, hw⟩ => ⟨he, by subst hw; exact Below.refl _ _⟩
  · refine Tryd.strings_Join g off cap xs sep w (fun j x hj => ?_) hh.lt (by omega) hnc hl
    rw [hh.cell, ← Array.getElem?_toList]
    have e : (xs.map Value.string)[j]? = some (.string x) := by rw [List.getElem?_map, hj]; rfl
    have hjl : j < xs.length := (List.getElem?_eq_some_iff.1 hj).1
    rw [← ht, List.getElem?_take, if_pos (by omega), List.getElem?_drop] at e
    exact e
theorem map_take {α β : Type} (f : α → β) (xs : List α) (j : Nat) (h : j < xs.length) : (xs.take (j + 1)).map f = (xs.take j).map f ++ [f xs[j]] := by
  rw [List.take_succ_eq_append_getElem h, List.map_append]; rfl
theorem info9 : (Tryd.prog.info? 9).map (fun i => (i.zero, i.size, i.bytes)) = some (some (.string ⟨#[]⟩), 1, 16) := by kernel_rfl
theorem row_one (w : World) (u : Value) (t : TypeId) : Row (w.alloc (.cells #[u] t)) (some ⟨w.heap.size, 0, none⟩) [u] := fun _ => ⟨_, rfl, fun j v hj => by
  rcases j with _ | j
  · simp at hj
    subst hj
    rw [add_at, (Blk.new w t #[u]).cell]
    rfl
  · simp at hj⟩

theorem num_size_u (u : Nat) (h : u < 18446744073709551616) : (num (u : Int)).size ≤ 21 := by
  rw [num_nat]
  show (List.toArray _).size ≤ 21
  rw [List.size_toArray, Lib.decDigits_length]
  rcases Nat.eq_zero_or_pos u with rfl | h1
  · decide +kernel
  · have := Lib.numDigits_eq u h1 h
    split at this <;> omega

/-- Numbers in brackets. -/
def idsT (xs : List Nat) : ByteArray := (⟨#[91]⟩ : ByteArray) ++ joinOf (xs.map fun x : Nat => num (x : Int)) ⟨#[32]⟩ ++ ⟨#[93]⟩
set_option maxHeartbeats 1000000 in
theorem ids_show (A : Option Addr) (n c : Nat) (xs : List Nat) (hx : ∀ x ∈ xs, x < 18446744073709551616) (hn : xs.length = n) (hN : n ≤ 1000) (w : World) (ht : Tab w) (hA : Row w A (xs.map fun x : Nat => Value.int .u64 (x : Int))) :
    Calls Tryd.prog 19 #[.slice A n c] w fun e w' => e = .returned (.string (idsT xs)) ∧ Below w.heap.size w w' := by
  obtain ⟨i0, hi0, hz0, hz1, hz2⟩ := info_parts info9
  have HA := Lib.hid hA
  have HT := Lib.hid ht
  have HX := Lib.hid hx
  have HNL := Lib.hid hn
  clear hA ht hx hn
  go_enter Tryd.func19, Tryd.ntmps19
  go_wp2_with fail
  go_loopg [3, 8] n (fun q v i wr => ∃ (j : Nat), q + j = n ∧ i = .int .i64 (j : Int) ∧ Mid wr w.heap.size 9 1 v j ((xs.take j).map fun x : Nat => Value.string (num (x : Int))) ∧ Below w.heap.size w wr)
  case atStart => exact ⟨0, rfl, rfl, Mid.nil _ _ _ _, Below.refl _ _⟩
  case round =>
    obtain ⟨j, hj, rfl, hm, hb⟩ := hrel
    have HM := Lib.hid hm
    have HBW := Lib.hid hb
    have hsz := hb.size
    clear hm hb
    by_cases hlt : j < n
    · have hjx : j < xs.length := by rw [HNL.out]; exact hlt
      obtain ⟨ad, rfl, hc⟩ := (HA.out.belowAll HBW.out).at_ (k := j) (u := .int .u64 (xs[j] : Int)) (by simp [hjx])
      have HS := Lib.hid (map_take (fun x : Nat => Value.string (num (x : Int))) xs j hjx)
      have HID := Lib.hid (id_ok xs[j] (HX.out _ (List.getElem_mem hjx)) wr (HT.out.below HBW.out))
      generalize xs[j] = x at *
      generalize num (x : Int) = S at *
      go_wp2_with (first
        | (go_at_call 22; refine HID.out.mono ?_; rintro e w1 ⟨rfl, hb1⟩; have HB1 := Lib.hid hb1; have hsz1 := hb1.size; clear hb1)
        | (at_builtin; refine wpList_append_mid _ rfl (.tmp 12) (.tmp 15) 40 rfl w.heap.size 9 i0 _ 1 16 Tryd.underlying40 hi0 hz0 hz1 hz2 rfl (by decide) _ _ _ rfl ((HM.out.only (Only.of_below HB1.out []) (by simp)).alloc _) (some ⟨w1.heap.size, 0, none⟩) 1 1 [.string S] rfl rfl (row_one _ _ _) (by simp [Value.oneCell']) (by simp only [maxLen]; omega) (by omega) (by simp; omega) ?_; intro v1 w2 hm1 hg1 ho1; have HM1 := Lib.hid hm1; have HG1 := Lib.hid hg1; clear hm1 hg1 ho1))
      go_roundg (gk - 1)
      case measure => omega
      case rel => exact ⟨j + 1, by omega, by go_num, by rw [HS.out]; exact HM1.out, ((HBW.out.trans (HB1.out.mono hsz)).alloc (by omega) _).grown HG1.out (by simp; omega) (fun j hj => (HM.out.block j hj).1)⟩
    · obtain rfl : j = n := by omega
      have hm2 := HM.out
      rw [List.take_of_length_le (by rw [HNL.out]; exact Nat.le_refl _)] at hm2
      have hl2 : (xs.map fun x : Nat => num (x : Int)).length = j := by rw [List.length_map, HNL.out]
      have hsz3 := joinOf_size (xs.map fun x : Nat => num (x : Int)) ⟨#[32]⟩ 21 (fun y hy => by
        obtain ⟨x, hx, rfl⟩ := List.mem_map.1 hy
        exact num_size_u x (HX.out x hx))
      rw [hl2, show (⟨#[32]⟩ : ByteArray).size = 1 from rfl] at hsz3
      have hm3 := hm2
      have e3 : (xs.map fun x : Nat => Value.string (num (x : Int))) = (xs.map fun x : Nat => num (x : Int)).map Value.string := by rw [List.map_map]; rfl
      rw [e3, ← hl2] at hm3
      have HJ := Lib.hid (join_mid ⟨#[32]⟩ hm3 (by rw [hl2]; omega) (by omega))
      have HI : Hid (idsT xs = (⟨#[91]⟩ : ByteArray) ++ joinOf (xs.map fun x : Nat => num (x : Int)) ⟨#[32]⟩ ++ ⟨#[93]⟩) := rfl
      generalize joinOf (xs.map fun x : Nat => num (x : Int)) ⟨#[32]⟩ = T at *
      have hT : T.size ≤ 1000000 := by omega
      clear hm2 hm3 hl2 hsz3 e3
      go_wp2_with (go_at_call 26; refine HJ.out.mono ?_; rintro e w1 ⟨rfl, hb1⟩; have HB1 := Lib.hid hb1; clear hb1)
      go_ret
      exact ⟨by rw [HI.out]; rfl, HBW.out.trans (HB1.out.mono hsz)⟩
end Go.Proofs.YtkcgnodmjmpnhaaDoor
