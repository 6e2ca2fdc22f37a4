import Derived.Test.YtmnakommidgmnaaW6
namespace Go.Proofs.Ytmnakommidgmnaa
open Go.RowKit
set_option linter.unusedVariables false

theorem compact_lt (l : List Int) (h : l.Pairwise (· ≤ ·)) : (Lib.compact l).Pairwise (· < ·) := by
  unfold Lib.compact Lib.compactUpTo
  rw [List.pairwise_map, List.pairwise_filter]
  refine List.Pairwise.imp_of_mem ?_ List.pairwise_lt_range
  intro i j hi hj hij _ hkj
  have hj' : j < l.length := by simpa using hj
  have hne : l.toArray[j]! ≠ l.toArray[j - 1]! := by
    simp only [Lib.keeps] at hkj
    simp at hkj
    rcases hkj with h0 | h0
    · omega
    · simpa using h0
  have e : ∀ k, k < l.length → l.toArray[k]! = l.getD k 0 := by
    intro k hk
    rw [getElem!_pos l.toArray k (by simpa using hk)]
    simp [hk]
  rw [e j hj', e (j - 1) (by omega)] at hne
  rw [e i (by omega), e j hj']
  have hp := List.pairwise_iff_getElem.1 h
  have h1 : l.getD (j - 1) 0 ≤ l.getD j 0 := by
    have := hp (j - 1) j (by omega) hj' (by omega)
    simpa [hj', show j - 1 < l.length by omega] using this
  have h2 : l.getD i 0 ≤ l.getD (j - 1) 0 := by
    by_cases e' : i = j - 1
    · rw [e']; exact Int.le_refl _
    · have := hp i (j - 1) (by omega) (by omega) (by omega)
      simpa [show i < l.length by omega, show j - 1 < l.length by omega] using this
  omega

theorem compact_mem (l : List Int) (x : Int) : x ∈ Lib.compact l ↔ x ∈ l := by
  unfold Lib.compact Lib.compactUpTo
  have e : ∀ k, k < l.length → l.toArray[k]! = l.getD k 0 := by
    intro k hk
    rw [getElem!_pos l.toArray k (by simpa using hk)]
    simp [hk]
  constructor
  · intro h
    obtain ⟨j, hj, rfl⟩ := List.mem_map.1 h
    have hj' : j < l.length := by simpa using (List.mem_filter.1 hj).1
    rw [e j hj']
    simp [hj']
  · intro h
    obtain ⟨j, hj, rfl⟩ := List.getElem_of_mem h
    have key : ∀ j (hj : j < l.length), l[j] ∈ List.map (fun x => l.toArray[x]!) (List.filter (Lib.keeps l.toArray) (List.range l.length)) := by
      intro j
      induction j with
      | zero =>
        intro hj
        refine List.mem_map.2 ⟨0, List.mem_filter.2 ⟨by simpa using hj, by simp [Lib.keeps]⟩, ?_⟩
        rw [e 0 hj]; simp [hj]
      | succ j ih =>
        intro hj
        by_cases hk : Lib.keeps l.toArray (j + 1) = true
        · refine List.mem_map.2 ⟨j + 1, List.mem_filter.2 ⟨by simpa using hj, hk⟩, ?_⟩
          rw [e (j + 1) hj]; simp [hj]
        · simp [Lib.keeps] at hk
          have : l[j + 1] = l[j] := by simpa [hj, show j < l.length by omega] using hk
          rw [this]
          exact ih (by omega)
    exact key j hj

theorem srt_le (l : List Int) : (srt l).Pairwise (· ≤ ·) := by
  have h := List.pairwise_mergeSort (le := fun x y : Int => decide (x ≤ y)) (fun a b c h1 h2 => by simp at *; omega) (fun a b => by simp; omega) l
  exact h.imp (fun h => by simpa using h)

theorem norm_mem (who : Int) (xs : List Int) (x : Int) : x ∈ norm who xs ↔ x ∈ xs ∧ okB who x = true := by
  unfold norm
  rw [compact_mem, List.mem_mergeSort, List.mem_filter]
theorem norm_lt (who : Int) (xs : List Int) : (norm who xs).Pairwise (· < ·) := compact_lt _ (srt_le _)
theorem norm_rng (who : Int) (xs : List Int) : ∀ x ∈ norm who xs, 0 ≤ x ∧ x < 16 := by
  intro x hx
  have := ((norm_mem who xs x).1 hx).2
  simp [okB] at this
  exact ⟨this.1.1, this.1.2⟩
theorem len_of_lt (l : List Int) : ∀ (a b : Int), l.Pairwise (· < ·) → (∀ x ∈ l, a ≤ x ∧ x < b) → (l.length : Int) ≤ max (b - a) 0 := by
  induction l with
  | nil => intro a b _ _; simp; omega
  | cons x t ih =>
    intro a b hp hr
    have hx := hr x (by simp)
    have := ih (x + 1) b (List.pairwise_cons.1 hp).2 (fun y hy => ⟨by have := (List.pairwise_cons.1 hp).1 y hy; omega, (hr y (by simp [hy])).2⟩)
    simp only [List.length_cons]
    omega
theorem norm_len (who : Int) (xs : List Int) : (norm who xs).length ≤ 16 := by
  have := len_of_lt _ 0 16 (norm_lt who xs) (norm_rng who xs)
  omega

theorem set_any (g who : Nat) (ws : Nat → List Int) (A : Option Addr) (n c : Nat) (xs : List Int) (w : World) (hg : Gr w g ws) (hw : who < 16) (hA : Row w A (iv xs)) (hn : xs.length = n) (hN : n ≤ 17592186044415) :
    Calls Try.prog 8 #[.pointer (some ⟨g, 0, none⟩), .int .i64 who, .slice A n c] w (SetPost w g who ws (norm who xs)) :=
  set_in g who ws A n c xs w hg hw hA hn hN (norm_len _ _) (norm_rng _ _)

theorem norm_one (who x : Int) (h : okB who x = true) : norm who [x] = [x] := by
  unfold norm
  simp [h, srt]
  rfl
def wsA : Nat → List Int := upd (upd (fun _ => []) 0 [1]) 1 [0]
theorem awake_victim : vict [5, 9] (circ wsA 0) = 1 := by decide +kernel
theorem awake_waits : waitsB wsA = true := by decide +kernel

theorem row_two (w : World) (u v : Value) (t : TypeId) : Row (w.alloc (.cells #[u, v] t)) (some ⟨w.heap.size, 0, none⟩) [u, v] := fun _ => ⟨_, rfl, fun j x hj => by
  rw [add_at, (Blk.new w t #[u, v]).cell]
  rcases j with _ | _ | j
  · exact hj
  · exact hj
  · simp at hj⟩

set_option maxHeartbeats 2000000 in
theorem awake_ok (w : World) : Calls Try.prog 7 #[] w fun e w' => e = .returned (.bool true) ∧ Below w.heap.size w w' := by
  go_enter Try.func7, Try.ntmps7
  go_wp2_with (go_at_call 6; refine (new_any _).mono ?_; rintro e w1 ⟨g, rfl, hgw, hg, hb⟩; have HG := Lib.hid hg; have HB := Lib.hid hb; clear hg hb)
  refine (set_any g 0 (fun _ => []) _ 1 1 [1] _ (HG.out.only ((Below.refl _ _).alloc (Nat.le_refl _) _)) (by omega) (row_one w1 _ 3) rfl (by omega)).mono ?_
  rintro e w2 ⟨rfl, hg2, ho2⟩
  rw [norm_one _ _ (by decide)] at hg2
  have HG2 := Lib.hid hg2
  have HB2 : Hid (Below w.heap.size w w2) := HB.out.trans (((Below.refl _ _).alloc HB.out.size _).trans (ho2.below (by simp; have := HB.out.size; omega) (by simp; omega)))
  clear hg2 ho2
  go_wp2_with fail
  refine (set_any g 1 (upd (fun _ => []) 0 [1]) _ 1 1 [0] _ (HG2.out.only ((Below.refl _ _).alloc (Nat.le_refl _) _)) (by omega) (row_one w2 _ 3) rfl (by omega)).mono ?_
  rintro e w3 ⟨rfl, hg3, ho3⟩
  rw [norm_one _ _ (by decide)] at hg3
  have HG3 : Hid (Gr w3 g wsA) := hg3
  have HB3 : Hid (Below w.heap.size w w3) := HB2.out.trans (((Below.refl _ _).alloc HB2.out.size _).trans (ho3.below (by simp; have := HB2.out.size; omega) (by simp; omega)))
  clear hg3 ho3
  go_wp2_with fail
  refine (victim_in g 0 wsA _ 2 2 [5, 9] _ (HG3.out.only ((Below.refl _ _).alloc (Nat.le_refl _) _)) (by omega) (row_two w3 _ _ 34) rfl (by omega)).mono ?_
  rintro e w4 ⟨rfl, hb4⟩
  rw [awake_victim]
  have HG4 := Lib.hid ((HG3.out.only ((Below.refl _ _).alloc (Nat.le_refl _) (.cells #[.int .u64 5, .int .u64 9] 34))).only hb4)
  have HB4 : Hid (Below w.heap.size w w4) := (HB3.out.alloc HB3.out.size _).trans (hb4.mono (by simp; have := HB3.out.size; omega))
  clear hb4
  go_wp2_with fail
  refine (waits_in g wsA _ HG4.out).mono ?_
  rintro e w5 ⟨rfl, rfl⟩
  rw [awake_waits]
  go_wp2_with fail
  go_ret
  exact ⟨rfl, HB4.out⟩

set_option maxHeartbeats 2000000 in
theorem none_walk (n : Int) (v : Value) (w : World) : Calls Try.prog 5 #[.int .i64 n, v] w fun e w' => e = .returned (.bool true) ∧ Below w.heap.size w w' := by
  have hci : ∀ (g : Nat) (w1 : World), Gr w1 g (fun _ => []) → Calls Try.prog 9 #[.pointer (some ⟨g, 0, none⟩), .int .i64 n] w1 fun e w' => ∃ A c, e = .returned (.slice A 0 c) ∧ Below w1.heap.size w1 w' := by
    intro g w1 hg
    by_cases hn : 0 ≤ n ∧ n < 16
    · obtain ⟨k, rfl⟩ := Int.eq_ofNat_of_zero_le hn.1
      refine (circle_in g k (fun _ => []) w1 hg (by omega)).mono ?_
      rintro e w2 ⟨v, rfl, hm, hb⟩
      have hc : circ (fun _ => []) k = [] := rfl
      rw [hc] at hm
      obtain ⟨A, c, rfl, _⟩ := hm.form
      exact ⟨A, c, rfl, hb⟩
    · refine (circle_out g n hn w1).mono ?_
      rintro e w2 ⟨rfl, rfl⟩
      exact ⟨_, _, rfl, Below.refl _ _⟩
  have HCI := Lib.hid hci
  clear hci
  go_enter Try.func5, Try.ntmps5
  go_wp2_with (first
    | (go_at_call 8; refine (set_nil _ _ _).mono ?_; rintro e w' ⟨rfl, rfl⟩)
    | (go_at_call 7; refine (awake_ok _).mono ?_; rintro e w1 ⟨rfl, hb⟩; have HB := Lib.hid hb; clear hb)
    | (go_at_call 11; refine (for_nil _ _).mono ?_; rintro e w' ⟨rfl, rfl⟩)
    | (go_at_call_of 9 (Value.pointer none); refine (circle_nil _ _).mono ?_; rintro e w' ⟨rfl, rfl⟩)
    | (go_at_call 10; refine (victim_nil _ _ _).mono ?_; rintro e w' ⟨rfl, rfl⟩)
    | (go_at_call 12; refine (waits_nil _).mono ?_; rintro e w' ⟨rfl, rfl⟩)
    | (go_at_call 6; refine (new_any _).mono ?_; rintro e w2 ⟨g, rfl, hgw, hg, hb⟩; have HG2 := Lib.hid hg; have HB2 := Lib.hid hb; clear hg hb))
  refine (HCI.out g w2 HG2.out).mono ?_
  rintro e w3 ⟨A, c, rfl, hb⟩
  have HB3 := Lib.hid hb
  clear hb
  go_wp2_with fail
  go_ret
  exact ⟨rfl, (HB.out.trans (HB2.out.mono HB.out.size)).trans (HB3.out.mono (Nat.le_trans HB.out.size HB2.out.size))⟩
end Go.Proofs.Ytmnakommidgmnaa
