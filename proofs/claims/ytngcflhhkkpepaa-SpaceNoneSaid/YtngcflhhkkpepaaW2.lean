import Derived.Test.YtngcflhhkkpepaaW1
import Derived.Outline
import Derived.Deep.RegionWith
namespace Go.Proofs.Ytngcflhhkkpepaa
open Go.RowKit

set_option maxHeartbeats 400000 in
theorem drop_no {p b : Nat} {bs : List Bool} {f m n : Int} {w : World} (h : Sp w p b bs f m) (hn : ¬ (f ≤ n ∧ n < (bs.length : Int))) :
    Calls Try.prog 8 #[.pointer (some ⟨p, 0, none⟩), .int .i64 n] w fun e w' => e = .returned (.bool false) ∧ w = w' := by
  have hb : (decide (f ≤ n) && decide (n < (bs.length : Int))) = false := by simpa using hn
  have hc := has_sp (n := n) h
  rw [hb] at hc
  have HC := Lib.hid hc
  clear hc hb h hn
  go_enter Try.func8, Try.ntmps8
  go_wp2_with (go_at_call 13; refine HC.out.mono ?_; rintro e w' ⟨rfl, rfl⟩)
  go_ret
  exact ⟨rfl, rfl⟩

set_option maxHeartbeats 400000 in
theorem drop_free {p b : Nat} {bs : List Bool} {f m : Int} {w : World} (n : Nat) (h : Sp w p b bs f m) (hf : f ≤ n) (hn : n < bs.length) (ht : bs.getD n false = false) :
    Calls Try.prog 8 #[.pointer (some ⟨p, 0, none⟩), .int .i64 n] w fun e w' => e = .returned (.bool false) ∧ w = w' := by
  have hb : (decide (f ≤ (n : Int)) && decide ((n : Int) < (bs.length : Int))) = true := by simp; omega
  have hc := has_sp (n := n) h
  rw [hb] at hc
  have HC := Lib.hid hc
  have h0 : w.cell? ⟨p, 0, none⟩ = some (.slice (some ⟨b, 0, none⟩) bs.length bs.length) := h.head.cell 0
  have h1 : w.cell? ⟨b, n, none⟩ = some (.bool false) := by rw [← ht, ← bv_get bs n hn]; exact h.row.cell n
  clear hc hb h ht
  go_enter Try.func8, Try.ntmps8
  go_wp2_with (go_at_call 13; refine HC.out.mono ?_; rintro e w' ⟨rfl, rfl⟩)
  go_ret
  exact ⟨rfl, rfl⟩

set_option maxHeartbeats 400000 in
theorem drop_yes {p b : Nat} {bs : List Bool} {f m : Int} {w : World} (n : Nat) (h : Sp w p b bs f m) (hf : f ≤ n) (hn : n < bs.length) (ht : bs.getD n false = true)
    (hm0 : 0 ≤ m) (hm : m < 1000000) :
    Calls Try.prog 8 #[.pointer (some ⟨p, 0, none⟩), .int .i64 n] w fun e w' => e = .returned (.bool true) ∧ Sp w' p b (bs.set n false) f (m - 1) ∧ Only w w' [p, b] := by
  have hb : (decide (f ≤ (n : Int)) && decide ((n : Int) < (bs.length : Int))) = true := by simp; omega
  have hc := has_sp (n := n) h
  rw [hb] at hc
  have HC := Lib.hid hc
  have h0 : w.cell? ⟨p, 0, none⟩ = some (.slice (some ⟨b, 0, none⟩) bs.length bs.length) := h.head.cell 0
  have h2 : w.cell? ⟨p, 2, none⟩ = some (.int .i64 m) := h.head.cell 2
  have h1 : w.cell? ⟨b, n, none⟩ = some (.bool true) := by rw [← ht, ← bv_get bs n hn]; exact h.row.cell n
  have f1 := h.row.frozen n
  have f2 := h.head.frozen 2
  have hne := h.ne
  have hs : Hid (Sp ((w.setCell ⟨b, n, none⟩ (.bool false)).setCell ⟨p, 2, none⟩ (.int .i64 (m - 1))) p b (bs.set n false) f (m - 1)) := by
    refine ⟨?_, ?_, hne⟩
    · have := (h.head.far (p := ⟨b, n, none⟩) hne (.bool false)).set_ 2 (.int .i64 (m - 1))
      simpa using this
    · have := (h.row.set_ n (.bool false)).far (p := ⟨p, 2, none⟩) (Ne.symm hne) (.int .i64 (m - 1))
      rw [bv_set] at this
      simpa using this
  clear hc hb h ht
  go_enter Try.func8, Try.ntmps8
  go_wp2_with (go_at_call 13; refine HC.out.mono ?_; rintro e w' ⟨rfl, rfl⟩)
  go_ret
  exact ⟨rfl, hs.out, ((Only.refl _ _).setCell (by simp) _).setCell (by simp) _⟩

set_option maxHeartbeats 400000 in
theorem taken_any {p b : Nat} {bs : List Bool} {f m n : Int} {w : World} (h : Sp w p b bs f m) (hf0 : 0 ≤ f) :
    Calls Try.prog 12 #[.pointer (some ⟨p, 0, none⟩), .int .i64 n] w fun e w' => e = .returned (.bool (decide (f ≤ n) && decide (n < (bs.length : Int)) && bs.getD n.toNat false)) ∧ w = w' := by
  have hc := has_sp (n := n) h
  by_cases hn : f ≤ n ∧ n < (bs.length : Int)
  · have hb : (decide (f ≤ n) && decide (n < (bs.length : Int))) = true := by simpa using hn
    obtain ⟨k, rfl⟩ := Int.eq_ofNat_of_zero_le (show 0 ≤ n by omega)
    rw [hb] at hc
    have HC := Lib.hid hc
    have h0 : w.cell? ⟨p, 0, none⟩ = some (.slice (some ⟨b, 0, none⟩) bs.length bs.length) := h.head.cell 0
    have h1 : w.cell? ⟨b, k, none⟩ = some (.bool (bs.getD k false)) := by rw [← bv_get bs k (by omega)]; exact h.row.cell k
    have hl : k < bs.length := by omega
    have HB := Lib.hid hb
    clear hc h hn hb
    go_enter Try.func12, Try.ntmps12
    go_wp2_with (go_at_call 13; refine HC.out.mono ?_; rintro e w' ⟨rfl, rfl⟩)
    go_ret
    refine ⟨?_, rfl⟩
    rw [HB.out]
    simp [hl]
  · have hb : (decide (f ≤ n) && decide (n < (bs.length : Int))) = false := by simpa using hn
    rw [hb] at hc
    have HC := Lib.hid hc
    have HB := Lib.hid hb
    clear hc h hn hb
    go_enter Try.func12, Try.ntmps12
    go_wp2_with (go_at_call 13; refine HC.out.mono ?_; rintro e w' ⟨rfl, rfl⟩)
    go_ret
    refine ⟨?_, rfl⟩
    rw [HB.out]
    rfl

set_option maxHeartbeats 400000 in
theorem many_any {p b : Nat} {bs : List Bool} {f m : Int} {w : World} (h : Sp w p b bs f m) :
    Calls Try.prog 10 #[.pointer (some ⟨p, 0, none⟩)] w fun e w' => e = .returned (.int .i64 m) ∧ w = w' := by
  have h2 : w.cell? ⟨p, 2, none⟩ = some (.int .i64 m) := h.head.cell 2
  clear h
  go_enter Try.func10, Try.ntmps10
  go_wp2
  go_ret
  exact ⟨rfl, rfl⟩

set_option maxHeartbeats 400000 in
theorem free_any {p b : Nat} {bs : List Bool} {f m : Int} {w : World} (h : Sp w p b bs f m) (hf0 : 0 ≤ f) (hf1 : f ≤ bs.length) (hm0 : 0 ≤ m) (hm : m < 1000000) (hl : bs.length < 1000000) :
    Calls Try.prog 11 #[.pointer (some ⟨p, 0, none⟩)] w fun e w' => e = .returned (.int .i64 (bs.length - f - m)) ∧ ∃ q, w' = w.drewN q := by
  have h0 : w.cell? ⟨p, 0, none⟩ = some (.slice (some ⟨b, 0, none⟩) bs.length bs.length) := h.head.cell 0
  have h1 : w.cell? ⟨p, 1, none⟩ = some (.int .i64 f) := h.head.cell 1
  have h2 : w.cell? ⟨p, 2, none⟩ = some (.int .i64 m) := h.head.cell 2
  clear h
  go_enter Try.func11, Try.ntmps11
  go_wp2
  go_quiet (fail)
  go_wp2
  go_ret
  exact ⟨rfl, _, rfl⟩

set_option maxHeartbeats 400000 in
theorem take_none {p b : Nat} {bs : List Bool} {m : Int} {w : World} (F : Nat) (h : Sp w p b bs F m) (hF : F ≤ bs.length) (hl : bs.length < 1000000) (hall : ∀ i, F ≤ i → i < bs.length → bs.getD i false = true) :
    Calls Try.prog 9 #[.pointer (some ⟨p, 0, none⟩)] w fun e w' => e = .returned (.int .i64 (-1)) ∧ w = w' := by
  have h0 : w.cell? ⟨p, 0, none⟩ = some (.slice (some ⟨b, 0, none⟩) bs.length bs.length) := h.head.cell 0
  have h1 : w.cell? ⟨p, 1, none⟩ = some (.int .i64 F) := h.head.cell 1
  have H := Lib.hid h
  have HA := Lib.hid hall
  clear h hall
  go_enter Try.func9, Try.ntmps9
  go_wp2
  go_loop [3] (fun i => ∃ k : Nat, F ≤ k ∧ k ≤ bs.length ∧ i = .int .i64 k) (fun i => bs.length - (intOf i).toNat)
  case atStart => exact ⟨F, Nat.le_refl _, hF, rfl⟩
  case round =>
    obtain ⟨k, hk0, hk1, rfl⟩ := hrel
    by_cases hlt : k < bs.length
    · go_wp2_with (go_at_call 7; refine (use_taken k H.out (by omega) hlt (HA.out k hk0 hlt)).mono ?_; rintro e w' ⟨rfl, rfl⟩)
      go_round
      case rel => exact ⟨k + 1, by omega, by omega, by go_num⟩
      case measure => simp [intOf]; omega
    · go_wp2
      go_ret
      exact ⟨rfl, rfl⟩

set_option maxHeartbeats 400000 in
theorem take_some {p b : Nat} {bs : List Bool} {m : Int} {w : World} (F K : Nat) (h : Sp w p b bs F m) (hF : F ≤ K) (hK : K < bs.length) (hl : bs.length < 1000000) (hall : ∀ i, F ≤ i → i < K → bs.getD i false = true)
    (hf : bs.getD K false = false) (hm0 : 0 ≤ m) (hm : m < 1000000) :
    Calls Try.prog 9 #[.pointer (some ⟨p, 0, none⟩)] w fun e w' => e = .returned (.int .i64 K) ∧ Sp w' p b (bs.set K true) F (m + 1) ∧ Only w w' [p, b] := by
  have h0 : w.cell? ⟨p, 0, none⟩ = some (.slice (some ⟨b, 0, none⟩) bs.length bs.length) := h.head.cell 0
  have h1 : w.cell? ⟨p, 1, none⟩ = some (.int .i64 F) := h.head.cell 1
  have H := Lib.hid h
  have HA := Lib.hid hall
  have HF := Lib.hid hf
  clear h hall hf
  go_enter Try.func9, Try.ntmps9
  go_wp2
  go_loop [3] (fun i => ∃ k : Nat, F ≤ k ∧ k ≤ K ∧ i = .int .i64 k) (fun i => K - (intOf i).toNat)
  case atStart => exact ⟨F, Nat.le_refl _, hF, rfl⟩
  case round =>
    obtain ⟨k, hk0, hk1, rfl⟩ := hrel
    by_cases hlt : k < K
    · have hlt' : k < bs.length := by omega
      go_wp2_with (go_at_call 7; refine (use_taken k H.out (by omega) hlt' (HA.out k hk0 hlt)).mono ?_; rintro e w' ⟨rfl, rfl⟩)
      go_round
      case rel => exact ⟨k + 1, by omega, by omega, by go_num⟩
      case measure => simp [intOf]; omega
    · obtain rfl : k = K := by omega
      go_wp2_with (go_at_call 7; refine (use_yes k H.out (by omega) hK HF.out hm0 hm).mono ?_; rintro e w' ⟨rfl, hs, ho⟩; have HS := Lib.hid hs; have HO := Lib.hid ho; clear hs ho)
      go_ret
      exact ⟨rfl, HS.out, HO.out⟩

/-! The nil space -/
theorem use_nil (n : Int) (w : World) : Calls Try.prog 7 #[.pointer none, .int .i64 n] w fun e w' => e = .returned (.bool false) ∧ w = w' := by
  go_enter Try.func7, Try.ntmps7
  go_wp2_with (go_at_call 13; refine (has_nil _ _).mono ?_; rintro e w' ⟨rfl, rfl⟩)
  go_ret
  exact ⟨rfl, rfl⟩
theorem drop_nil (n : Int) (w : World) : Calls Try.prog 8 #[.pointer none, .int .i64 n] w fun e w' => e = .returned (.bool false) ∧ w = w' := by
  go_enter Try.func8, Try.ntmps8
  go_wp2_with (go_at_call 13; refine (has_nil _ _).mono ?_; rintro e w' ⟨rfl, rfl⟩)
  go_ret
  exact ⟨rfl, rfl⟩
theorem taken_nil (n : Int) (w : World) : Calls Try.prog 12 #[.pointer none, .int .i64 n] w fun e w' => e = .returned (.bool false) ∧ w = w' := by
  go_enter Try.func12, Try.ntmps12
  go_wp2_with (go_at_call 13; refine (has_nil _ _).mono ?_; rintro e w' ⟨rfl, rfl⟩)
  go_ret
  exact ⟨rfl, rfl⟩
theorem take_nil (w : World) : Calls Try.prog 9 #[.pointer none] w fun e w' => e = .returned (.int .i64 (-1)) ∧ w = w' := by
  go_enter Try.func9, Try.ntmps9
  go_wp2
  go_ret
  exact ⟨rfl, rfl⟩
theorem many_nil (w : World) : Calls Try.prog 10 #[.pointer none] w fun e w' => e = .returned (.int .i64 0) ∧ w = w' := by
  go_enter Try.func10, Try.ntmps10
  go_wp2
  go_ret
  exact ⟨rfl, rfl⟩
theorem free_nil (w : World) : Calls Try.prog 11 #[.pointer none] w fun e w' => e = .returned (.int .i64 0) ∧ w = w' := by
  go_enter Try.func11, Try.ntmps11
  go_wp2
  go_ret
  exact ⟨rfl, rfl⟩

theorem info4 : (Try.prog.info? 4).map (fun i => (i.zero, i.size, i.bytes)) = some (some (.bool false), 1, 1) := by kernel_rfl

theorem made_false (k : Nat) : madeCells #[.bool false] k = bv (List.replicate k false) := by
  apply Array.ext
  · simp [madeCells, bv]
  · intro i h1 h2
    simp [madeCells, bv, Nat.mod_one]

/-- What New leaves: so many places, all free. -/
def NewPost (n f : Int) (w : World) (e : Ending) (w' : World) : Prop :=
  ∃ p b, e = .returned (.pointer (some ⟨p, 0, none⟩)) ∧ w.heap.size ≤ p ∧ w.heap.size ≤ b ∧ Sp w' p b (List.replicate n.toNat false) (min (max f 0) (max n 0)) 0 ∧ Only w w' []

theorem new_post (n f x : Int) (w : World) (hx : x = min (max f 0) (max n 0)) : NewPost n f w (.returned (.pointer (some ⟨w.heap.size + 1, 0, none⟩)))
    ((w.alloc (.cells (bv (List.replicate n.toNat false)) 4)).alloc (.cells #[.slice (some ⟨w.heap.size, 0, none⟩) n.toNat n.toNat, .int .i64 x, .int .i64 0] 34)) := by
  refine ⟨_, w.heap.size, rfl, by omega, by omega, ⟨?_, ?_, by omega⟩, ((Only.refl _ _).alloc _).alloc _⟩
  · subst hx
    have := Blk.new (w.alloc (.cells (bv (List.replicate n.toNat false)) 4)) 34 #[.slice (some ⟨w.heap.size, 0, none⟩) n.toNat n.toNat, .int .i64 (min (max f 0) (max n 0)), .int .i64 0]
    simpa using this
  · exact (Blk.new w 4 _).alloc _

set_option maxHeartbeats 800000 in
theorem new_any (n f : Int) (w : World) (hn : n ≤ 1000000) : Calls Try.prog 5 #[.int .i64 n, .int .i64 f] w (NewPost n f w) := by
  obtain ⟨i0, hi0, hz0, hz1, hz2⟩ := info_parts info4
  by_cases h : 0 ≤ n
  · have hmk := run_make (P := Try.prog) w 25 4 i0 (.bool false) Try.underlying25 hi0 hz0 .i64 .i64 n n (by omega) (Int.le_refl _) (by rw [hz2]; omega) (by omega)
    simp only [hz1, Nat.mul_one, Value.cells, made_false] at hmk
    have hk : 0 ≤ (n.toNat : Int) := by omega
    have hk2 : (n.toNat : Int) ≤ 1000000 := by omega
    have hN : Hid ((n.toNat : Int) = n) := by show (n.toNat : Int) = n; omega
    go_enter Try.func5, Try.ntmps5
    go_wp2
    all_goals go_ret
    all_goals refine new_post n f _ w ?_
    all_goals (have := hN.out; omega)
  · have hmk := run_make (P := Try.prog) w 25 4 i0 (.bool false) Try.underlying25 hi0 hz0 .i64 .i64 0 0 (by omega) (Int.le_refl _) (by rw [hz2]; omega) (by omega)
    simp only [hz1, Nat.mul_one, Value.cells, made_false] at hmk
    have hN : Hid (n.toNat = 0) := by show n.toNat = 0; omega
    go_enter Try.func5, Try.ntmps5
    go_wp2
    all_goals go_ret
    all_goals (have hp := fun x hx => new_post n f x w hx; rw [hN.out] at hp; refine hp _ ?_)
    all_goals omega

theorem awake_ok (w : World) : Calls Try.prog 6 #[] w fun e w' => e = .returned (.bool true) ∧ Only w w' [] := by
  have HN := Lib.hid (new_any 5 2)
  go_enter Try.func6, Try.ntmps6
  go_wp2_with (go_at_call 5; refine (HN.out w (by omega)).mono ?_; rintro e w1 ⟨p, b, rfl, hp, hb, hs, ho⟩; have HS := Lib.hid hs; have HO := Lib.hid ho; clear hs ho)
  have hs1 : Sp w1 p b (List.replicate 5 false) (2 : Nat) 0 := HS.out
  have HT := Lib.hid (take_some 2 2 hs1 (by omega) (by simp) (by simp) (by omega) (by simp) (by omega) (by omega))
  clear hs1
  go_wp2_with (go_at_call 9; refine HT.out.mono ?_; rintro e w2 ⟨rfl, hs2, ho2⟩; have HS2 := Lib.hid hs2; have HO2 := Lib.hid ho2; clear hs2 ho2)
  have hs2 : Sp w2 p b [false, false, true, false, false] (2 : Nat) 1 := HS2.out
  have HF := Lib.hid (free_any hs2 (by omega) (by simp) (by omega) (by omega) (by simp))
  have HA := Lib.hid (fun n => taken_any (n := n) hs2 (by omega))
  clear hs2
  go_wp2_with (go_at_call 11; refine HF.out.mono ?_; rintro e w3 ⟨rfl, q, rfl⟩)
  have hs2 : Sp (w2.drewN q) p b [false, false, true, false, false] (2 : Nat) 1 := HS2.out.only ((Only.refl w2 []).drewN q) (by simp) (by simp)
  have HA := Lib.hid (fun n => taken_any (n := n) hs2 (by omega))
  clear hs2
  go_wp2_with (go_at_call 12; refine (HA.out _).mono ?_; rintro e w4 ⟨rfl, rfl⟩)
  go_ret
  refine ⟨rfl, ?_⟩
  have h2 : Only w1 w2 [p, b] := HO2.out
  have h1 : Only w w1 [] := HO.out
  refine ⟨h2.os.trans h1.os, h2.tape.trans h1.tape, h2.output.trans h1.output, Nat.le_trans h1.size h2.size, fun k hk _ => ?_⟩
  have a := h2.block k (Nat.lt_of_lt_of_le hk h1.size) (by simp; omega)
  exact a.trans (h1.block k hk (by simp))

theorem i64_mask (n : Int) (k : Nat) (m : Int) (hm : (BitVec.ofInt 64 m).toNat = 2 ^ k - 1) (hk : k ≤ 62) : bits .and .i64 n m = n % (2 ^ k : Nat) := by
  have hp : (2 : Nat) ^ k ≤ 2 ^ 62 := Nat.pow_le_pow_right (by omega) hk
  have hd : (2 : Nat) ^ k ∣ 2 ^ 64 := Nat.pow_dvd_pow 2 (by omega)
  have hq : 0 < 2 ^ k := Nat.two_pow_pos k
  have key : (BitVec.ofInt 64 n &&& BitVec.ofInt 64 m).toNat = (n % ((2 ^ 64 : Nat) : Int)).toNat % 2 ^ k := by
    rw [BitVec.toNat_and, BitVec.toNat_ofInt, hm, Nat.and_two_pow_sub_one_eq_mod]
  show IntKind.i64.wrap ((BitVec.ofInt 64 n &&& BitVec.ofInt 64 m).toNat : Nat) = n % (2 ^ k : Nat)
  rw [key, IntKind.wrap_i64]
  have h0 : 0 ≤ n % ((2 ^ 64 : Nat) : Int) := Int.emod_nonneg _ (by decide)
  have e : (((n % ((2 ^ 64 : Nat) : Int)).toNat % 2 ^ k : Nat) : Int) = n % ((2 ^ k : Nat) : Int) := by
    rw [Int.natCast_emod, Int.toNat_of_nonneg h0]
    exact Int.emod_emod_of_dvd n (Int.natCast_dvd_natCast.2 hd)
  rw [e]
  have h1 : 0 ≤ n % ((2 ^ k : Nat) : Int) := Int.emod_nonneg _ (by omega)
  have h2 : n % ((2 ^ k : Nat) : Int) < ((2 ^ k : Nat) : Int) := Int.emod_lt_of_pos _ (by omega)
  have h3 : ((2 ^ k : Nat) : Int) ≤ ((2 ^ 62 : Nat) : Int) := by omega
  have h4 : ((2 ^ 62 : Nat) : Int) = 4611686018427387904 := by decide
  omega
theorem and1023 (n : Int) : bits .and .i64 n 1023 = n % 1024 := i64_mask n 10 1023 (by decide) (by omega)
theorem and31 (n : Int) : bits .and .i64 n 31 = n % 32 := i64_mask n 5 31 (by decide) (by omega)
theorem and15 (n : Int) : bits .and .i64 n 15 = n % 16 := i64_mask n 4 15 (by decide) (by omega)
theorem and3 (n : Int) : bits .and .i64 n 3 = n % 4 := i64_mask n 2 3 (by decide) (by omega)

set_option maxHeartbeats 800000 in
theorem none_walk (n f : Int) (w : World) : Calls Try.prog 4 #[.int .i64 n, .int .i64 f] w fun e w' => e = .returned (.bool true) ∧ Only w w' [] := by
  have HN := Lib.hid new_any
  have HA := Lib.hid awake_ok
  have hb := and1023 n
  have q0 : 0 ≤ n % 1024 := by omega
  have q1 : n % 1024 < 1024 := by omega
  go_enter Try.func4, Try.ntmps4
  go_wp2_with (go_at_call 5; refine (HN.out _ _ w (by omega)).mono ?_; rintro e w1 ⟨p, b, rfl, hp, hb, hs, ho⟩; have HS := Lib.hid hs; have HO := Lib.hid ho; clear hs ho)
  have hs1 : Sp w1 p b [] (0 : Nat) 0 := by
    have h := HS.out
    rw [show (-1 - n % 1024).toNat = 0 by omega, show min (max f 0) (max (-1 - n % 1024) 0) = 0 by omega] at h
    exact h
  have HT := Lib.hid (fun w2 (ho : Only w1 w2 []) => take_none 0 (hs1.only ho (by simp) (by simp)) (by simp) (by simp) (by simp))
  have HU := Lib.hid (fun w2 (ho : Only w1 w2 []) => use_no (n := n) (hs1.only ho (by simp) (by simp)) (by simp))
  have HF := Lib.hid (fun w2 (ho : Only w1 w2 []) => free_any (hs1.only ho (by simp) (by simp)) (by omega) (by simp) (by omega) (by omega) (by simp))
  clear hs1
  go_wp2_with (first
    | (go_at_call 6; refine (HA.out _).mono ?_; rintro e w2 ⟨rfl, ho2⟩; have HO2 := Lib.hid ho2; clear ho2)
    | (go_at_call_of 7 (Value.pointer none); refine (use_nil _ _).mono ?_; rintro e w' ⟨rfl, rfl⟩)
    | (go_at_call_of 9 (Value.pointer none); refine (take_nil _).mono ?_; rintro e w' ⟨rfl, rfl⟩)
    | (go_at_call 8; refine (drop_nil _ _).mono ?_; rintro e w' ⟨rfl, rfl⟩)
    | (go_at_call 12; refine (taken_nil _ _).mono ?_; rintro e w' ⟨rfl, rfl⟩)
    | (go_at_call 10; refine (many_nil _).mono ?_; rintro e w' ⟨rfl, rfl⟩)
    | (go_at_call_of 11 (Value.pointer none); refine (free_nil _).mono ?_; rintro e w' ⟨rfl, rfl⟩))
  go_wp2_with (first
    | (go_at_call 9; refine (HT.out _ HO2.out).mono ?_; rintro e w' ⟨rfl, rfl⟩)
    | (go_at_call 11; refine (HF.out _ HO2.out).mono ?_; rintro e w3 ⟨rfl, q, rfl⟩))
  go_wp2_with (go_at_call 7; refine (HU.out _ (HO2.out.drewN q)).mono ?_; rintro e w' ⟨rfl, rfl⟩)
  go_ret
  exact ⟨rfl, (HO.out.trans HO2.out).drewN _⟩

end Go.Proofs.Ytngcflhhkkpepaa
