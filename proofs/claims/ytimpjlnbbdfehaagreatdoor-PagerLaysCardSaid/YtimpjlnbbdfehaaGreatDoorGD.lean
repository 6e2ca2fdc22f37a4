import Derived.Test.YtimpjlnbbdfehaaGreatDoorGC
namespace Go.Proofs.YtimpjlnbbdfehaaGreatDoor
open Go.RowKit Go.Shelf Go.Lib Go.Sort
set_option linter.unusedVariables false
attribute [local go_sem ↓] shr_32_1 shl_32_1 shr_32_2 shl_32_2 shr_32_3 shl_32_3 shr_32_4 shl_32_4 shr_32_5 shl_32_5 shr_32_6 shl_32_6 shr_32_7 shl_32_7 shr_32_8 shl_32_8 shr_32_9 shl_32_9 shr_32_10 shl_32_10 shr_32_11 shl_32_11 shr_32_12 shl_32_12 shr_32_13 shl_32_13 shr_32_14 shl_32_14 shr_32_15 shl_32_15 shr_32_16 shl_32_16 shr_32_17 shl_32_17 shr_32_18 shl_32_18 shr_32_19 shl_32_19 shr_32_20 shl_32_20 shr_32_21 shl_32_21 shr_32_22 shl_32_22 shr_32_23 shl_32_23 shr_32_24 shl_32_24 shr_32_25 shl_32_25 shr_32_26 shl_32_26 shr_32_27 shl_32_27 shr_32_28 shl_32_28 shr_32_29 shl_32_29 shr_32_30 shl_32_30 shr_32_31 shl_32_31 shr_64_3 shl_64_3 shr_64_7 shl_64_7 shr_64_8 shl_64_8 shr_64_16 shl_64_16 shr_64_24 shl_64_24 shr_64_32 shl_64_32 shr_64_40 shl_64_40 shr_64_48 shl_64_48 shr_64_56 shl_64_56
attribute [local go_sem] add_u32 add_u64 and_u8 or_u8 xor_u8 and_u32 or_u32 xor_u32 and_u64 or_u64 xor_u64 conv_32_8 conv_64_8 conv_64_32 conv_8_32 conv_8_64 conv_32_64

/-! ### A reader of bytes: a box of what is left and an error -/
def Rd (w : World) (g : Nat) (s : ByteArray) (e : Int) : Prop := Blk w g 203 #[.string s, .int .i64 e]
def rdP (g : Nat) : Value := .pointer (some ⟨g, 0, none⟩)
theorem Rd.c0 {w : World} {g : Nat} {s : ByteArray} {e : Int} (h : Rd w g s e) : w.cell? ⟨g, 0, none⟩ = some (.string s) := Blk.cell h 0
theorem Rd.c1 {w : World} {g : Nat} {s : ByteArray} {e : Int} (h : Rd w g s e) : w.cell? ⟨g, 1, none⟩ = some (.int .i64 e) := Blk.cell h 1
theorem Rd.fr {w : World} {g : Nat} {s : ByteArray} {e : Int} (h : Rd w g s e) (j : Nat) : w.frozen? ⟨g, j, none⟩ = false := Blk.frozen h j
theorem Rd.set0 {w : World} {g : Nat} {s : ByteArray} {e : Int} (h : Rd w g s e) (s' : ByteArray) : Rd (w.setCell ⟨g, 0, none⟩ (.string s')) g s' e := Blk.set_ h 0 _
theorem Rd.set1 {w : World} {g : Nat} {s : ByteArray} {e : Int} (h : Rd w g s e) (e' : Int) : Rd (w.setCell ⟨g, 1, none⟩ (.int .i64 e')) g s e' := Blk.set_ h 1 _
set_option maxRecDepth 100000 in
theorem read_ok (s : ByteArray) (w : World) :
    Calls Tryz.prog 78 #[.string s] w fun e w' => e = .returned (rdP w.heap.size) ∧ Rd w' w.heap.size s 0 ∧ Below w.heap.size w w' := by
  have HA : Hid (Rd (w.alloc (.cells #[.string s, .int .i64 0] 203)) w.heap.size s 0) := Blk.new w 203 _
  have HB : Hid (Below w.heap.size w (w.alloc (.cells #[.string s, .int .i64 0] 203))) := (Below.refl _ _).alloc (Nat.le_refl _) _
  go_enter Tryz.func78, Tryz.ntmps78
  go_wp2_with fail
  go_ret
  exact ⟨rfl, HA.out, HB.out⟩
set_option maxRecDepth 100000 in
theorem left_ok (g : Nat) (s : ByteArray) (e : Int) (w : World) (h : Rd w g s e) :
    Calls Tryz.prog 132 #[rdP g] w fun x w' => x = .returned (.int .i64 (s.size : Int)) ∧ w = w' := by
  have c0 := h.c0
  unfold rdP
  go_enter Tryz.func132, Tryz.ntmps132
  go_wp2_with fail
  go_ret
  exact ⟨rfl, rfl⟩
set_option maxRecDepth 100000 in
theorem err_ok (g : Nat) (s : ByteArray) (e : Int) (w : World) (h : Rd w g s e) :
    Calls Tryz.prog 133 #[rdP g] w fun x w' => x = .returned (.int .i64 e) ∧ w = w' := by
  have c1 := h.c1
  unfold rdP
  go_enter Tryz.func133, Tryz.ntmps133
  go_wp2_with fail
  go_ret
  exact ⟨rfl, rfl⟩
def failS (s : ByteArray) (e : Int) : ByteArray := if e = 0 then ⟨#[]⟩ else s
def failE (e f : Int) : Int := if e = 0 then f else e
set_option maxHeartbeats 1000000 in
set_option maxRecDepth 100000 in
theorem fail_ok (g : Nat) (s : ByteArray) (e f : Int) (hf : f ≠ 0) (w : World) (h : Rd w g s e) :
    Calls Tryz.prog 94 #[rdP g, .int .i64 f] w fun x w' => x = .returned (.tuple #[]) ∧ Rd w' g (failS s e) (failE e f) ∧ Only w w' [g] := by
  have HE := Lib.hid (err_ok g s e w h)
  have c0 := h.c0
  have c1 := h.c1
  have f0 := h.fr 0
  have f1 := h.fr 1
  have HR := Lib.hid h
  clear h
  unfold rdP at *
  have hf1 : (f != 0) = true := by simp [hf]
  by_cases he : e = 0
  · have he1 : (e == 0) = true := by simp [he]
    have H1 : Hid (Rd ((w.setCell ⟨g, 0, none⟩ (.string ⟨#[]⟩)).setCell ⟨g, 1, none⟩ (.int .i64 f)) g (failS s e) (failE e f)) := by
      show Rd _ _ _ _; unfold failS failE; rw [if_pos he, if_pos he]; exact (HR.out.set0 _).set1 _
    have H2 : Hid (Only w ((w.setCell ⟨g, 0, none⟩ (.string ⟨#[]⟩)).setCell ⟨g, 1, none⟩ (.int .i64 f)) [g]) := ((Only.refl w [g]).setCell (p := ⟨g, 0, none⟩) (by simp) _).setCell (p := ⟨g, 1, none⟩) (by simp) _
    clear he hf
    go_enter Tryz.func94, Tryz.ntmps94
    go_wp2_with fail
    refine HE.out.mono ?_
    rintro x w1 ⟨rfl, rfl⟩
    go_wp2_with fail
    go_end0
    exact ⟨rfl, H1.out, H2.out⟩
  · have he1 : (e == 0) = false := by simp [he]
    have H1 : Hid (Rd w g (failS s e) (failE e f)) := by
      show Rd _ _ _ _; unfold failS failE; rw [if_neg he, if_neg he]; exact HR.out
    clear he hf
    go_enter Tryz.func94, Tryz.ntmps94
    go_wp2_with fail
    refine HE.out.mono ?_
    rintro x w1 ⟨rfl, rfl⟩
    go_wp2_with fail
    go_end0
    exact ⟨rfl, H1.out, Only.refl _ _⟩

end Go.Proofs.YtimpjlnbbdfehaaGreatDoor
namespace Go.Proofs.YtimpjlnbbdfehaaGreatDoor
open Go.RowKit Go.Shelf Go.Lib Go.Sort
set_option linter.unusedVariables false
attribute [local go_sem ↓] shr_32_1 shl_32_1 shr_32_2 shl_32_2 shr_32_3 shl_32_3 shr_32_4 shl_32_4 shr_32_5 shl_32_5 shr_32_6 shl_32_6 shr_32_7 shl_32_7 shr_32_8 shl_32_8 shr_32_9 shl_32_9 shr_32_10 shl_32_10 shr_32_11 shl_32_11 shr_32_12 shl_32_12 shr_32_13 shl_32_13 shr_32_14 shl_32_14 shr_32_15 shl_32_15 shr_32_16 shl_32_16 shr_32_17 shl_32_17 shr_32_18 shl_32_18 shr_32_19 shl_32_19 shr_32_20 shl_32_20 shr_32_21 shl_32_21 shr_32_22 shl_32_22 shr_32_23 shl_32_23 shr_32_24 shl_32_24 shr_32_25 shl_32_25 shr_32_26 shl_32_26 shr_32_27 shl_32_27 shr_32_28 shl_32_28 shr_32_29 shl_32_29 shr_32_30 shl_32_30 shr_32_31 shl_32_31 shr_64_3 shl_64_3 shr_64_7 shl_64_7 shr_64_8 shl_64_8 shr_64_16 shl_64_16 shr_64_24 shl_64_24 shr_64_32 shl_64_32 shr_64_40 shl_64_40 shr_64_48 shl_64_48 shr_64_56 shl_64_56
attribute [local go_sem] add_u32 add_u64 and_u8 or_u8 xor_u8 and_u32 or_u32 xor_u32 and_u64 or_u64 xor_u64 conv_32_8 conv_64_8 conv_64_32 conv_8_32 conv_8_64 conv_32_64

/-- What is taken of a reader: the bytes, what is left, the error. -/
def takeB (s : ByteArray) (e : Int) (n : Nat) : ByteArray := if n ≤ s.size then s.extract 0 n else ⟨#[]⟩
def takeS (s : ByteArray) (e : Int) (n : Nat) : ByteArray := if n ≤ s.size then s.extract n s.size else failS s e
def takeE (s : ByteArray) (e : Int) (n : Nat) : Int := if n ≤ s.size then e else failE e 2
set_option maxHeartbeats 1000000 in
set_option maxRecDepth 100000 in
theorem bytes_ok (g : Nat) (s : ByteArray) (e : Int) (n : Nat) (hs : s.size ≤ 1000000) (hn0 : 0 < n) (hn : n ≤ 1000000) (w : World) (h : Rd w g s e) :
    Calls Tryz.prog 91 #[rdP g, .int .i64 (n : Int)] w fun x w' => x = .returned (.string (takeB s e n)) ∧ Rd w' g (takeS s e n) (takeE s e n) ∧ Only w w' [g] := by
  have HL := Lib.hid (left_ok g s e w h)
  have HR := Lib.hid h
  have hd0 : decide ((n : Int) < 0) = false := by simp
  have hd1 : decide (0 < n) = true := by simp; omega
  by_cases hle : n ≤ s.size
  · have hd : decide (s.size < n) = false := by simp; omega
    have H1 : Hid (takeB s e n = s.extract 0 n) := if_pos hle
    have H2 : Hid (takeS s e n = s.extract n s.size) := if_pos hle
    have H3 : Hid (takeE s e n = e) := if_pos hle
    have hsl1 := fun w => slice_to s (n : Int) n rfl hle w
    have hsl2 := fun w => slice_from s n (n : Int) rfl hle w
    have HRX : Hid (Rd (w.drew.setCell ⟨g, 0, none⟩ (.string (s.extract n s.size))) g (s.extract n s.size) e) := Rd.set0 (Blk.drewN h 1) _
    have HOX : Hid (Only w (w.drew.setCell ⟨g, 0, none⟩ (.string (s.extract n s.size))) [g]) := (Only.refl w [g]).drew.setCell (p := ⟨g, 0, none⟩) (by simp) _
    have c0 := h.c0
    have f0 := h.fr 0
    rw [H1.out, H2.out, H3.out]
    clear hle h hs hn0 hn
    generalize s.extract 0 n = s1 at *
    generalize s.extract n s.size = s2 at *
    unfold rdP at *
    go_enter Tryz.func91, Tryz.ntmps91
    go_wp2_with fail
    refine HL.out.mono ?_
    rintro x w1 ⟨rfl, rfl⟩
    go_wp2_with fail
    refine wp_region_plan (fun w' => w'.cell? ⟨g, 0, none⟩ = some (.string s)) 14 [(true, 0), (true, 1), (true, 2), (true, 3), (true, 4), (true, 5), (true, 6), (true, 7), (true, 8), (true, 9), (true, 10), (true, 11), (true, 12), (true, 13)] (by kernel_rfl) (by kernel_rfl) c0 ?_
    simp only [List.map_cons, List.map_nil, List.getD_cons_zero, List.getD_cons_succ, List.drop_succ_cons, List.drop_zero]
    (refine plan_take (v := ?_) rfl ?_ ?_; rotate_left; (intro wS hSw; (try dsimp only at hSw); go_simp; try with_reducible rfl); simp only [Act.put, List.setIfInBounds_toArray, List.set_cons_zero, List.set_cons_succ])
    (refine plan_take (v := ?_) rfl ?_ ?_; rotate_left; (intro wS hSw; (try dsimp only at hSw); go_simp; try with_reducible rfl); simp only [Act.put, List.setIfInBounds_toArray, List.set_cons_zero, List.set_cons_succ])
    (refine plan_take (v := ?_) rfl ?_ ?_; rotate_left; (intro wS hSw; (try dsimp only at hSw); go_simp; try with_reducible rfl); simp only [Act.put, List.setIfInBounds_toArray, List.set_cons_zero, List.set_cons_succ])
    (refine plan_take (v := ?_) rfl ?_ ?_; rotate_left; (intro wS hSw; (try dsimp only at hSw); go_simp; try with_reducible rfl); simp only [Act.put, List.setIfInBounds_toArray, List.set_cons_zero, List.set_cons_succ])
    (refine plan_take (v := ?_) rfl ?_ ?_; rotate_left; (intro wS hSw; (try dsimp only at hSw); go_simp; try with_reducible rfl); simp only [Act.put, List.setIfInBounds_toArray, List.set_cons_zero, List.set_cons_succ])
    (refine plan_take (v := ?_) rfl ?_ ?_; rotate_left; (intro wS hSw; (try dsimp only at hSw); go_simp; try with_reducible rfl); simp only [Act.put, List.setIfInBounds_toArray, List.set_cons_zero, List.set_cons_succ])
    (refine plan_take (v := ?_) rfl ?_ ?_; rotate_left; (intro wS hSw; (try dsimp only at hSw); go_simp; try with_reducible rfl); simp only [Act.put, List.setIfInBounds_toArray, List.set_cons_zero, List.set_cons_succ])
    (refine plan_take (v := ?_) rfl ?_ ?_; rotate_left; (intro wS hSw; (try dsimp only at hSw); go_simp; try with_reducible rfl); simp only [Act.put, List.setIfInBounds_toArray, List.set_cons_zero, List.set_cons_succ])
    (refine plan_take (v := ?_) rfl ?_ ?_; rotate_left; (intro wS hSw; (try dsimp only at hSw); go_simp; try with_reducible rfl); simp only [Act.put, List.setIfInBounds_toArray, List.set_cons_zero, List.set_cons_succ])
    (refine plan_take (v := ?_) rfl ?_ ?_; rotate_left; (intro wS hSw; (try dsimp only at hSw); go_simp; try with_reducible rfl); simp only [Act.put, List.setIfInBounds_toArray, List.set_cons_zero, List.set_cons_succ])
    (refine plan_take (v := ?_) rfl ?_ ?_; rotate_left; (intro wS hSw; (try dsimp only at hSw); go_simp; try with_reducible rfl); simp only [Act.put, List.setIfInBounds_toArray, List.set_cons_zero, List.set_cons_succ])
    (refine plan_take (v := ?_) rfl ?_ ?_; rotate_left; (intro wS hSw; (try dsimp only at hSw); go_simp; try with_reducible rfl); simp only [Act.put, List.setIfInBounds_toArray, List.set_cons_zero, List.set_cons_succ])
    (refine plan_take (v := ?_) rfl ?_ ?_; rotate_left; (intro wS hSw; (try dsimp only at hSw); go_simp; try with_reducible rfl); simp only [Act.put, List.setIfInBounds_toArray, List.set_cons_zero, List.set_cons_succ])
    (refine plan_take (v := ?_) rfl ?_ ?_; rotate_left; (intro wS hSw; (try dsimp only at hSw); go_simp; try with_reducible rfl); simp only [Act.put, List.setIfInBounds_toArray, List.set_cons_zero, List.set_cons_succ])
    refine plan_nil ?_
    go_wp2_with fail
    refine NoPanic.normal ?_
    go_wp2_with fail
    go_ret
    exact ⟨rfl, HRX.out, HOX.out⟩
  · have hd : decide (s.size < n) = true := by simp; omega
    have H1 : Hid (takeB s e n = ⟨#[]⟩) := if_neg hle
    have H2 : Hid (takeS s e n = failS s e) := if_neg hle
    have H3 : Hid (takeE s e n = failE e 2) := if_neg hle
    have HF := Lib.hid (fail_ok g s e 2 (by omega) w h)
    rw [H1.out, H2.out, H3.out]
    clear hle h hs hn0 hn
    unfold rdP at *
    go_enter Tryz.func91, Tryz.ntmps91
    go_wp2_with fail
    refine HL.out.mono ?_
    rintro x w1 ⟨rfl, rfl⟩
    go_wp2_with fail
    refine HF.out.mono ?_
    rintro x w2 ⟨rfl, h2, h3⟩
    have HF2 := Lib.hid h2
    have HF3 := Lib.hid h3
    clear h2 h3
    go_wp2_with fail
    go_ret
    exact ⟨rfl, HF2.out, HF3.out⟩
def hi64 (b : ByteArray) : Nat → UInt64
  | 0 => 0
  | k + 1 => hi64 b k <<< 8 ||| up64 (gb b k)
def numOf (b : ByteArray) : UInt64 := hi64 b b.size
theorem Rd.below {w w' : World} {g : Nat} {s : ByteArray} {e : Int} (h : Rd w g s e) (hb : Below w.heap.size w w') : Rd w' g s e := (hb.block _ (Blk.lt h)).trans h
theorem Only.ofBelow {w w' : World} {S : List Nat} (h : Below w.heap.size w w') : Only w w' S := ⟨h.os, h.tape, h.output, h.size, fun k hk _ => h.block k hk⟩
theorem takeB_size (s : ByteArray) (e : Int) (n : Nat) : (takeB s e n).size ≤ n := by
  unfold takeB
  split
  · rw [ByteArray.size_extract]; omega
  · exact Nat.zero_le _
set_option maxHeartbeats 1000000 in
set_option maxRecDepth 100000 in
theorem high_ok (g : Nat) (s : ByteArray) (e : Int) (n : Nat) (hs : s.size ≤ 1000000) (hn0 : 0 < n) (hn : n ≤ 1000000) (w : World) (h : Rd w g s e) :
    Calls Tryz.prog 121 #[rdP g, .int .i64 (n : Int)] w fun x w' => x = .returned (.int .u64 (n64 (numOf (takeB s e n)))) ∧ Rd w' g (takeS s e n) (takeE s e n) ∧ Only w w' [g] := by
  have HB := Lib.hid (bytes_ok g s e n hs hn0 hn w h)
  have HN : Hid (numOf (takeB s e n) = hi64 (takeB s e n) (takeB s e n).size) := rfl
  have HBS : Hid ((takeB s e n).size ≤ 1000000) := Nat.le_trans (takeB_size s e n) hn
  clear h hs hn hn0
  rw [HN.out]
  generalize takeB s e n = b at *
  generalize takeS s e n = s' at *
  generalize takeE s e n = e' at *
  unfold rdP at *
  go_enter Tryz.func121, Tryz.ntmps121
  go_wp2_with fail
  refine HB.out.mono ?_
  rintro x w1 ⟨rfl, hr, ho⟩
  have HR1 := Lib.hid hr
  have HO1 := Lib.hid ho
  clear hr ho HB
  go_wp2_with (refine wpList_toBytes rfl (.tmp 10) (by rfl) b (by rfl) ?_; intro cap w2 hob hb hz; have HO := Lib.hid hob; have HB2 := Lib.hid hb; clear hob hb hz)
  go_loopg [13, 5] b.size (fun q i v wr => ∃ (j : Nat), q + j = b.size ∧ i = .int .i64 (j : Int) ∧ v = .int .u64 (n64 (hi64 b j)) ∧ wr = w2)
  case atStart => exact ⟨0, rfl, rfl, rfl, rfl⟩
  case round =>
    obtain ⟨j, hj, rfl, rfl, rfl⟩ := hrel
    by_cases hlt : j < b.size
    · have hd : decide ((j : Int) < (b.size : Int)) = true := by simp; omega
      have c1 := (HO.out.at_).2.2.2.2.1 j (by show j < b.size; exact hlt)
      rw [gb_at, Nat.zero_add] at c1
      have HI : Hid (hi64 b (j + 1) = hi64 b j <<< 8 ||| up64 (gb b j)) := rfl
      have hj1 : (j : Int) < (b.size : Int) := by omega
      have hj2 : (j : Int) < 1000000 := by have := HBS.out; omega
      have hcp : (b.size : Int) ≤ cap := by have := HO.out.at_; omega
      generalize gb b j = x at *
      generalize hi64 b j = y at *
      go_wp2_with fail
      go_roundg (gk - 1)
      case measure => omega
      case rel => exact ⟨j + 1, by omega, by go_num, by rw [HI.out], rfl⟩
    · obtain rfl : j = b.size := by omega
      go_wp2_with fail
      go_ret
      exact ⟨rfl, HR1.out.below HB2.out, HO1.out.trans (Only.ofBelow HB2.out)⟩

end Go.Proofs.YtimpjlnbbdfehaaGreatDoor
namespace Go.Proofs.YtimpjlnbbdfehaaGreatDoor
open Go.RowKit Go.Shelf Go.Lib Go.Sort
set_option linter.unusedVariables false
attribute [local go_sem ↓] shr_32_1 shl_32_1 shr_32_2 shl_32_2 shr_32_3 shl_32_3 shr_32_4 shl_32_4 shr_32_5 shl_32_5 shr_32_6 shl_32_6 shr_32_7 shl_32_7 shr_32_8 shl_32_8 shr_32_9 shl_32_9 shr_32_10 shl_32_10 shr_32_11 shl_32_11 shr_32_12 shl_32_12 shr_32_13 shl_32_13 shr_32_14 shl_32_14 shr_32_15 shl_32_15 shr_32_16 shl_32_16 shr_32_17 shl_32_17 shr_32_18 shl_32_18 shr_32_19 shl_32_19 shr_32_20 shl_32_20 shr_32_21 shl_32_21 shr_32_22 shl_32_22 shr_32_23 shl_32_23 shr_32_24 shl_32_24 shr_32_25 shl_32_25 shr_32_26 shl_32_26 shr_32_27 shl_32_27 shr_32_28 shl_32_28 shr_32_29 shl_32_29 shr_32_30 shl_32_30 shr_32_31 shl_32_31 shr_64_3 shl_64_3 shr_64_7 shl_64_7 shr_64_8 shl_64_8 shr_64_16 shl_64_16 shr_64_24 shl_64_24 shr_64_32 shl_64_32 shr_64_40 shl_64_40 shr_64_48 shl_64_48 shr_64_56 shl_64_56
attribute [local go_sem] add_u32 add_u64 and_u8 or_u8 xor_u8 and_u32 or_u32 xor_u32 and_u64 or_u64 xor_u64 conv_32_8 conv_64_8 conv_64_32 conv_8_32 conv_8_64 conv_32_64

set_option maxRecDepth 100000 in
theorem rsmall_ok (g : Nat) (s : ByteArray) (e : Int) (hs : s.size ≤ 1000000) (w : World) (h : Rd w g s e) :
    Calls Tryz.prog 79 #[rdP g] w fun x w' => x = .returned (.int .u32 (n32 (lo32 (numOf (takeB s e 4))))) ∧ Rd w' g (takeS s e 4) (takeE s e 4) ∧ Only w w' [g] := by
  have HB := Lib.hid (high_ok g s e 4 hs (by omega) (by omega) w h)
  clear h hs
  generalize numOf (takeB s e 4) = b at *
  generalize takeS s e 4 = s' at *
  generalize takeE s e 4 = e' at *
  unfold rdP at *
  go_enter Tryz.func79, Tryz.ntmps79
  go_wp2_with fail
  refine HB.out.mono ?_
  rintro x w1 ⟨rfl, hr, ho⟩
  have HR1 := Lib.hid hr
  have HO1 := Lib.hid ho
  clear hr ho HB
  go_wp2_with fail
  go_ret
  exact ⟨rfl, HR1.out, HO1.out⟩
set_option maxRecDepth 100000 in
theorem rbig_ok (g : Nat) (s : ByteArray) (e : Int) (hs : s.size ≤ 1000000) (w : World) (h : Rd w g s e) :
    Calls Tryz.prog 80 #[rdP g] w fun x w' => x = .returned (.int .u64 (n64 (numOf (takeB s e 8)))) ∧ Rd w' g (takeS s e 8) (takeE s e 8) ∧ Only w w' [g] := by
  have HB := Lib.hid (high_ok g s e 8 hs (by omega) (by omega) w h)
  clear h hs
  generalize numOf (takeB s e 8) = b at *
  generalize takeS s e 8 = s' at *
  generalize takeE s e 8 = e' at *
  unfold rdP at *
  go_enter Tryz.func80, Tryz.ntmps80
  go_wp2_with fail
  refine HB.out.mono ?_
  rintro x w1 ⟨rfl, hr, ho⟩
  have HR1 := Lib.hid hr
  have HO1 := Lib.hid ho
  clear hr ho HB
  go_wp2_with fail
  go_ret
  exact ⟨rfl, HR1.out, HO1.out⟩
theorem info36 : (Tryz.prog.info? 36).map (·.size) = some 3 := by kernel_rfl
/-- The head of a block: epoch, the device's number, the number in its epoch. -/
structure Hd where
  ep : UInt32
  dev : UInt64
  num : UInt32
def Hd.cells (h : Hd) : Array Value := #[.int .u32 (n32 h.ep), .int .u64 (n64 h.dev), .int .u32 (n32 h.num)]
def Hd.v (h : Hd) : Value := .agg h.cells
def nonB (h : Hd) : ByteArray := be8 h.dev ++ be4 h.num
theorem be8_size (x : UInt64) : (be8 x).size = 8 := by unfold be8; rw [size_app, be4_size, be4_size]
theorem nonB_size (h : Hd) : (nonB h).size = 12 := by unfold nonB; rw [size_app, be8_size, be4_size]
set_option maxHeartbeats 1000000 in
set_option maxRecDepth 100000 in
theorem nonce_ok (h : Hd) (w : World) :
    Calls Tryz.prog 109 #[h.v] w fun x w' => x = .returned (.string (nonB h)) ∧ Below w.heap.size w w' := by
  obtain ⟨ep, dev, num⟩ := h
  have HBG := Lib.hid (fun w => big_ok dev w)
  have HSM := Lib.hid (fun w => small_ok num w)
  have hz := be8_size dev
  have hz2 := be4_size num
  have HR : Hid (nonB ⟨ep, dev, num⟩ = be8 dev ++ be4 num) := rfl
  have HA0 : Hid (Blk (w.alloc (.cells #[.int .u32 (n32 ep), .int .u64 (n64 dev), .int .u32 (n32 num)] 36)) w.heap.size 36 #[.int .u32 (n32 ep), .int .u64 (n64 dev), .int .u32 (n32 num)]) := Blk.new w 36 _
  have HB0 : Hid (Below w.heap.size w (w.alloc (.cells #[.int .u32 (n32 ep), .int .u64 (n64 dev), .int .u32 (n32 num)] 36))) := (Below.refl _ _).alloc (Nat.le_refl _) _
  have c1 : (w.alloc (.cells #[.int .u32 (n32 ep), .int .u64 (n64 dev), .int .u32 (n32 num)] 36)).cell? ⟨w.heap.size, 1, none⟩ = some (.int .u64 (n64 dev)) := HA0.out.cell 1
  have c2 : (w.alloc (.cells #[.int .u32 (n32 ep), .int .u64 (n64 dev), .int .u32 (n32 num)] 36)).cell? ⟨w.heap.size, 2, none⟩ = some (.int .u32 (n32 num)) := HA0.out.cell 2
  have HL : Hid (w.heap.size < (w.alloc (.cells #[.int .u32 (n32 ep), .int .u64 (n64 dev), .int .u32 (n32 num)] 36)).heap.size) := HA0.out.lt
  clear HA0
  generalize be8 dev = s1 at *
  generalize be4 num = s2 at *
  rw [HR.out]
  unfold Hd.v Hd.cells
  dsimp only
  go_enter Tryz.func109, Tryz.ntmps109
  go_wp2_with fail
  generalize w.alloc (.cells #[.int .u32 (n32 ep), .int .u64 (n64 dev), .int .u32 (n32 num)] 36) = w0 at *
  refine wp_region_plan (fun w' => w'.cell? ⟨w.heap.size, 1, none⟩ = some (.int .u64 (n64 dev)) ∧ w'.cell? ⟨w.heap.size, 2, none⟩ = some (.int .u32 (n32 num))) 7 [(true, 0), (true, 1), (true, 3), (true, 4), (false, 2), (false, 5), (true, 6)] (by kernel_rfl) (by kernel_rfl) ⟨c1, c2⟩ ?_
  simp only [List.map_cons, List.map_nil, List.getD_cons_zero, List.getD_cons_succ, List.drop_succ_cons, List.drop_zero]
  (refine plan_take (v := ?_) rfl ?_ ?_; rotate_left; (intro wS hSw; (try dsimp only at hSw); go_simp; try with_reducible rfl); simp only [Act.put, List.setIfInBounds_toArray, List.set_cons_zero, List.set_cons_succ])
  (refine plan_take (v := ?_) rfl ?_ ?_; rotate_left; (intro wS hSw; (try dsimp only at hSw); go_simp; try with_reducible rfl); simp only [Act.put, List.setIfInBounds_toArray, List.set_cons_zero, List.set_cons_succ])
  (refine plan_take (v := ?_) rfl ?_ ?_; rotate_left; (intro wS hSw; (try dsimp only at hSw); go_simp; try with_reducible rfl); simp only [Act.put, List.setIfInBounds_toArray, List.set_cons_zero, List.set_cons_succ])
  (refine plan_take (v := ?_) rfl ?_ ?_; rotate_left; (intro wS hSw; (try dsimp only at hSw); go_simp; try with_reducible rfl); simp only [Act.put, List.setIfInBounds_toArray, List.set_cons_zero, List.set_cons_succ])
  refine plan_run rfl (fun K hK => ?_)
  go_simp
  refine (HBG.out _).mono ?_
  rintro x w1 ⟨rfl, hb⟩
  have HB1 : Hid (Below w.heap.size w w1) := (below_drewN HB0.out 1).trans (hb.mono HB0.out.size)
  have d1 : w1.cell? ⟨w.heap.size, 1, none⟩ = some (.int .u64 (n64 dev)) := (hb.cell (p := ⟨w.heap.size, 1, none⟩) HL.out).trans c1
  have d2 : w1.cell? ⟨w.heap.size, 2, none⟩ = some (.int .u32 (n32 num)) := (hb.cell (p := ⟨w.heap.size, 2, none⟩) HL.out).trans c2
  have HL1 : Hid (w.heap.size < w1.heap.size) := Nat.lt_of_lt_of_le HL.out hb.size
  clear hb
  refine hK.out _ _ ⟨d1,d2⟩ ?_
  clear hK K
  try simp only [Act.put, List.setIfInBounds_toArray, List.set_cons_zero, List.set_cons_succ]
  refine plan_run rfl (fun K hK => ?_)
  go_simp
  refine (HSM.out _).mono ?_
  rintro x w2 ⟨rfl, hb⟩
  have HB2 : Hid (Below w.heap.size w w2) := HB1.out.trans (hb.mono HB1.out.size)
  have e1 : w2.cell? ⟨w.heap.size, 1, none⟩ = some (.int .u64 (n64 dev)) := (hb.cell (p := ⟨w.heap.size, 1, none⟩) HL1.out).trans d1
  have e2 : w2.cell? ⟨w.heap.size, 2, none⟩ = some (.int .u32 (n32 num)) := (hb.cell (p := ⟨w.heap.size, 2, none⟩) HL1.out).trans d2
  clear hb
  refine hK.out _ _ ⟨e1,e2⟩ ?_
  clear hK K
  try simp only [Act.put, List.setIfInBounds_toArray, List.set_cons_zero, List.set_cons_succ]
  (refine plan_take (v := ?_) rfl ?_ ?_; rotate_left; (intro wS hSw; (try dsimp only at hSw); go_simp; try with_reducible rfl); simp only [Act.put, List.setIfInBounds_toArray, List.set_cons_zero, List.set_cons_succ])
  refine plan_nil ?_
  go_wp2_with fail
  refine NoPanic.normal ?_
  go_wp2_with fail
  go_ret
  exact ⟨rfl, HB2.out⟩

end Go.Proofs.YtimpjlnbbdfehaaGreatDoor
namespace Go.Proofs.YtimpjlnbbdfehaaGreatDoor
open Go.RowKit Go.Shelf Go.Lib Go.Sort
set_option linter.unusedVariables false
attribute [local go_sem ↓] shr_32_1 shl_32_1 shr_32_2 shl_32_2 shr_32_3 shl_32_3 shr_32_4 shl_32_4 shr_32_5 shl_32_5 shr_32_6 shl_32_6 shr_32_7 shl_32_7 shr_32_8 shl_32_8 shr_32_9 shl_32_9 shr_32_10 shl_32_10 shr_32_11 shl_32_11 shr_32_12 shl_32_12 shr_32_13 shl_32_13 shr_32_14 shl_32_14 shr_32_15 shl_32_15 shr_32_16 shl_32_16 shr_32_17 shl_32_17 shr_32_18 shl_32_18 shr_32_19 shl_32_19 shr_32_20 shl_32_20 shr_32_21 shl_32_21 shr_32_22 shl_32_22 shr_32_23 shl_32_23 shr_32_24 shl_32_24 shr_32_25 shl_32_25 shr_32_26 shl_32_26 shr_32_27 shl_32_27 shr_32_28 shl_32_28 shr_32_29 shl_32_29 shr_32_30 shl_32_30 shr_32_31 shl_32_31 shr_64_3 shl_64_3 shr_64_7 shl_64_7 shr_64_8 shl_64_8 shr_64_16 shl_64_16 shr_64_24 shl_64_24 shr_64_32 shl_64_32 shr_64_40 shl_64_40 shr_64_48 shl_64_48 shr_64_56 shl_64_56
attribute [local go_sem] add_u32 add_u64 and_u8 or_u8 xor_u8 and_u32 or_u32 xor_u32 and_u64 or_u64 xor_u64 conv_32_8 conv_64_8 conv_64_32 conv_8_32 conv_8_64 conv_32_64

theorem results_cell_tmp {fn : Func} {p t : Tmp} {ty : TypeId} {P : Program} (h : fn.results = #[.cell p ty, .tmp t]) (tmps : Array Value) (w : World) (g : Nat) (cs : Array Value)
    (hp : tmps.getD p undef = .pointer (some ⟨g, 0, none⟩)) (hl : (loadVar ty ⟨g, 0, none⟩).run P w = .ok (.agg cs) w) :
    (results fn tmps).run P w = .ok (.tuple #[.agg cs, tmps.getD t undef]) w := by
  have hp' : tmps[p]?.getD undef = .pointer (some ⟨g, 0, none⟩) := by simpa using hp
  simp [results, h, hp', asAddr, hl]
theorem hd_one (h : Hd) : h.cells.all (·.oneCell') = true := by simp [Hd.cells, Value.oneCell']
def hdZ : Hd := ⟨0, 0, 0⟩
/-- What a reader of three numbers makes of a text. -/
def hdOf (s : ByteArray) : Hd :=
  ⟨lo32 (numOf (s.extract 0 4)), numOf ((s.extract 4 512).extract 0 8), lo32 (numOf (((s.extract 4 512).extract 8 508).extract 0 4))⟩
def headF (s : ByteArray) : Hd × Int := if s.size = 512 then (hdOf s, 0) else (hdZ, 2)
set_option maxHeartbeats 1000000 in
set_option maxRecDepth 100000 in
theorem head_ok (s : ByteArray) (w : World) :
    Calls Tryz.prog 26 #[.string s] w fun x w' => x = .returned (.tuple #[(headF s).1.v, .int .i64 (headF s).2]) ∧ Below w.heap.size w w' := by
  have HA0 : Hid (Blk (w.alloc (.cells #[.int .u32 0, .int .u64 0, .int .u32 0] 36)) w.heap.size 36 #[.int .u32 0, .int .u64 0, .int .u32 0]) := Blk.new w 36 _
  have HB0 : Hid (Below w.heap.size w (w.alloc (.cells #[.int .u32 0, .int .u64 0, .int .u32 0] 36))) := (Below.refl _ _).alloc (Nat.le_refl _) _
  by_cases hs : s.size = 512
  · have hne : ((s.size : Int) != 512) = false := by simp [hs]
    have HR : Hid (headF s = (hdOf s, 0)) := if_pos hs
    rw [HR.out]
    have z1 : (s.extract 4 512).size = 508 := by rw [ByteArray.size_extract]; omega
    have z2 : ((s.extract 4 512).extract 8 508).size = 500 := by rw [ByteArray.size_extract]; omega
    have HD := Lib.hid (fun w => read_ok s w)
    have H1 := Lib.hid (fun g w h => rsmall_ok g s 0 (by omega) w h)
    have e1 : takeB s 0 4 = s.extract 0 4 := if_pos (by omega)
    have e2 : takeS s 0 4 = s.extract 4 512 := by unfold takeS; rw [if_pos (by omega), hs]
    have e3 : takeE s 0 4 = 0 := if_pos (by omega)
    rw [e1, e2, e3] at H1
    have H2 := Lib.hid (fun g w h => rbig_ok g (s.extract 4 512) 0 (by omega) w h)
    have e4 : takeB (s.extract 4 512) 0 8 = (s.extract 4 512).extract 0 8 := if_pos (by omega)
    have e5 : takeS (s.extract 4 512) 0 8 = (s.extract 4 512).extract 8 508 := by unfold takeS; rw [if_pos (by omega), z1]
    have e6 : takeE (s.extract 4 512) 0 8 = 0 := if_pos (by omega)
    rw [e4, e5, e6] at H2
    have H3 := Lib.hid (fun g w h => rsmall_ok g ((s.extract 4 512).extract 8 508) 0 (by omega) w h)
    have e7 : takeB ((s.extract 4 512).extract 8 508) 0 4 = ((s.extract 4 512).extract 8 508).extract 0 4 := if_pos (by omega)
    rw [e7] at H3
    have HV : Hid ((hdOf s).cells = #[.int .u32 (n32 (lo32 (numOf (s.extract 0 4)))), .int .u64 (n64 (numOf ((s.extract 4 512).extract 0 8))), .int .u32 (n32 (lo32 (numOf (((s.extract 4 512).extract 8 508).extract 0 4))))]) := by show (hdOf s).cells = _; simp only [hdOf, Hd.cells]
    have HVV : Hid ((hdOf s).v = .agg (hdOf s).cells) := rfl
    have HONE := Lib.hid (hd_one (hdOf s))
    dsimp only
    rw [HVV.out]
    clear e1 e2 e3 e4 e5 e6 e7 z1 z2 hs
    generalize lo32 (numOf (((s.extract 4 512).extract 8 508).extract 0 4)) = num at *
    generalize numOf ((s.extract 4 512).extract 0 8) = dev at *
    generalize lo32 (numOf (s.extract 0 4)) = ep at *
    generalize (hdOf s).cells = CS at *
    go_enter Tryz.func26, Tryz.ntmps26
    go_wp2_with fail
    refine (HD.out _).mono ?_
    rintro x w1 ⟨rfl, hr, hb⟩
    have HR1 := Lib.hid hr
    have HA1 : Hid (Blk w1 w.heap.size 36 #[.int .u32 0, .int .u64 0, .int .u32 0]) := (hb.block _ HA0.out.lt).trans HA0.out
    have HB1 : Hid (Below w.heap.size w w1) := HB0.out.trans (hb.mono HB0.out.size)
    have HG : Hid (w.heap.size < (w.alloc (.cells #[.int .u32 0, .int .u64 0, .int .u32 0] 36)).heap.size) := HA0.out.lt
    clear hr hb HD HA0 HB0
    generalize (w.alloc (.cells #[.int .u32 0, .int .u64 0, .int .u32 0] 36)).heap.size = g at *
    go_wp2_with fail
    refine (H1.out _ _ HR1.out).mono ?_
    rintro x w2 ⟨rfl, hr, ho⟩
    have HR2 := Lib.hid hr
    have HA2 := Lib.hid (ho.blk HA1.out (by simp; have := HG.out; omega))
    have HB2 := Lib.hid (HB1.out.trans (ho.below HB1.out.size (by simp; have := HG.out; omega)))
    clear hr ho
    go_wp2_with fail
    refine (H2.out _ _ HR2.out).mono ?_
    rintro x w3 ⟨rfl, hr, ho⟩
    have HR3 := Lib.hid hr
    have HA3 := Lib.hid (ho.blk HA2.out (by simp; have := HG.out; omega))
    have HB3 := Lib.hid (HB2.out.trans (ho.below HB2.out.size (by simp; have := HG.out; omega)))
    clear hr ho
    go_wp2_with fail
    refine (H3.out _ _ HR3.out).mono ?_
    rintro x w4 ⟨rfl, hr, ho⟩
    have HA4 := Lib.hid (ho.blk HA3.out (by simp; have := HG.out; omega))
    have HB4 := Lib.hid (HB3.out.trans (ho.below HB3.out.size (by simp; have := HG.out; omega)))
    clear hr ho
    go_wp2_with (refine wpList_store_row rfl 36 (.tmp 2) (.tmp 17) (by rfl) w.heap.size CS (by rfl) (by rw [HV.out]; rfl) 36 _ HA4.out (by rw [HV.out]; exact info36) (by rw [HV.out]; rfl) HONE.out ?_)
    refine bodyPost_ret (results_cell_tmp (fn := Tryz.f26) rfl _ _ w.heap.size CS (by rfl) (run_loadVar_row _ _ _ _ _ _ _ (HA4.out.row CS) Tryz.underlying36 rfl (by rw [HV.out]; exact info36))) rfl ?_
    exact ⟨rfl, below_setRow HB4.out (Nat.le_refl _) _⟩
  · have hne : ((s.size : Int) != 512) = true := by simp; omega
    have HR : Hid (headF s = (hdZ, 2)) := if_neg hs
    rw [HR.out]
    dsimp only
    have HVV : Hid (hdZ.v = .agg hdZ.cells) := rfl
    have HV : Hid (hdZ.cells = #[.int .u32 0, .int .u64 0, .int .u32 0]) := rfl
    have HONE := Lib.hid (hd_one hdZ)
    rw [HVV.out]
    generalize hdZ.cells = CS at *
    clear hs
    go_enter Tryz.func26, Tryz.ntmps26
    go_wp2_with fail
    refine bodyPost_ret (results_cell_tmp (fn := Tryz.f26) rfl _ _ w.heap.size #[.int .u32 0, .int .u64 0, .int .u32 0] (by rfl) (run_loadVar_row _ _ _ _ _ _ _ HA0.out Tryz.underlying36 rfl info36)) rfl ?_
    exact ⟨by rw [HV.out]; rfl, HB0.out⟩

end Go.Proofs.YtimpjlnbbdfehaaGreatDoor
namespace Go.Proofs.YtimpjlnbbdfehaaGreatDoor
open Go.RowKit Go.Shelf Go.Lib Go.Sort
set_option linter.unusedVariables false
attribute [local go_sem ↓] shr_32_1 shl_32_1 shr_32_2 shl_32_2 shr_32_3 shl_32_3 shr_32_4 shl_32_4 shr_32_5 shl_32_5 shr_32_6 shl_32_6 shr_32_7 shl_32_7 shr_32_8 shl_32_8 shr_32_9 shl_32_9 shr_32_10 shl_32_10 shr_32_11 shl_32_11 shr_32_12 shl_32_12 shr_32_13 shl_32_13 shr_32_14 shl_32_14 shr_32_15 shl_32_15 shr_32_16 shl_32_16 shr_32_17 shl_32_17 shr_32_18 shl_32_18 shr_32_19 shl_32_19 shr_32_20 shl_32_20 shr_32_21 shl_32_21 shr_32_22 shl_32_22 shr_32_23 shl_32_23 shr_32_24 shl_32_24 shr_32_25 shl_32_25 shr_32_26 shl_32_26 shr_32_27 shl_32_27 shr_32_28 shl_32_28 shr_32_29 shl_32_29 shr_32_30 shl_32_30 shr_32_31 shl_32_31 shr_64_3 shl_64_3 shr_64_7 shl_64_7 shr_64_8 shl_64_8 shr_64_16 shl_64_16 shr_64_24 shl_64_24 shr_64_32 shl_64_32 shr_64_40 shl_64_40 shr_64_48 shl_64_48 shr_64_56 shl_64_56
attribute [local go_sem] add_u32 add_u64 and_u8 or_u8 xor_u8 and_u32 or_u32 xor_u32 and_u64 or_u64 xor_u64 conv_32_8 conv_64_8 conv_64_32 conv_8_32 conv_8_64 conv_32_64

def zeroB (n : Nat) : ByteArray := ⟨(Lib.repeatL (⟨#[0]⟩ : ByteArray).data.toList n).toArray⟩
/-- A text, its length ahead, filled up. -/
def plainB (s : ByteArray) : ByteArray := (be4 (pl32 (s.size : Int))).extract 2 4 ++ s ++ zeroB (462 - s.size)
theorem zeroB_size (n : Nat) : (zeroB n).size = n := by
  show (List.toArray _).size = n
  rw [List.size_toArray]
  rw [repeatL_length]; simp
theorem plainB_size (s : ByteArray) (h : s.size ≤ 462) : (plainB s).size = 464 := by
  unfold plainB
  rw [size_app, size_app, ByteArray.size_extract, be4_size, zeroB_size]; omega
/-- A block of a text. -/
def blockP (m : ByteArray) (h : Hd) (place : Int) (s : ByteArray) : ByteArray := be4 h.ep ++ nonB h ++ sealP (keyB m h.ep) (macB m h.ep) place (nonB h) (plainB s)
theorem blockP_size (m : ByteArray) (h : Hd) (place : Int) (s : ByteArray) (hs : s.size ≤ 462) : (blockP m h place s).size = 512 := by
  unfold blockP
  rw [size_app, size_app, be4_size, nonB_size, sealP_size, plainB_size s hs]
set_option maxHeartbeats 2000000 in
set_option maxRecDepth 100000 in
theorem bput_ok (m : ByteArray) (h : Hd) (place : Int) (s : ByteArray) (hm : m.size ≤ 900000) (hs : s.size ≤ 462) (w : World) (hT : Salts w) :
    Calls Tryz.prog 63 #[.string m, h.v, .int .i64 place, .string s] w fun x w' => x = .returned (.string (blockP m h place s)) ∧ Below w.heap.size w w' := by
  have hd : decide (462 < (s.size : Int)) = false := by simp; omega
  have hd2 : decide (462 < s.size) = false := by simp; omega
  have hw := wrap_pl (s.size : Int)
  have HS1 := Lib.hid (fun w => small_ok (pl32 (s.size : Int)) w)
  have hsl := fun w => slice_from (be4 (pl32 (s.size : Int))) 2 2 rfl (by rw [be4_size]; omega) w
  rw [be4_size] at hsl
  have hx2 : ((be4 (pl32 (s.size : Int))).extract 2 4).size = 2 := by rw [ByteArray.size_extract, be4_size]; rfl
  obtain ⟨r, hr⟩ : ∃ r : Nat, r = 462 - s.size := ⟨_, rfl⟩
  have hsub : (462 : Int) - (s.size : Int) = (r : Int) := by omega
  have hrw1 : IntKind.i64.wrap (r : Int) = (r : Int) := wrap_i64_small _ (by omega) (by omega)
  have hrw2 : wrap64 (r : Int) = (r : Int) := by unfold wrap64; omega
  have HRP := Lib.hid (fun w => Tryz.strings_Repeat ⟨#[0]⟩ r w (by omega) (by show 1 * r ≤ _; omega))
  have HRZ : Hid ((⟨(Lib.repeatL (⟨#[0]⟩ : ByteArray).data.toList r).toArray⟩ : ByteArray) = zeroB r) := rfl
  rw [HRZ.out] at HRP
  have HPL : Hid (plainB s = (be4 (pl32 (s.size : Int))).extract 2 4 ++ s ++ zeroB r) := by show _ = _; rw [hr]; rfl
  have hz1 : ¬ 9223372036854775807 < 2 + s.size := by omega
  have hz2 : ¬ 9223372036854775807 < 2 + s.size + (zeroB r).size := by rw [zeroB_size]; omega
  have HPS := Lib.hid (plainB_size s hs)
  have HT := Lib.hid hT
  clear hT hs hr
  obtain ⟨ep, dev, num⟩ := h
  have HBK : Hid (blockP m ⟨ep, dev, num⟩ place s = be4 ep ++ nonB ⟨ep, dev, num⟩ ++ sealP (keyB m ep) (macB m ep) place (nonB ⟨ep, dev, num⟩) (plainB s)) := rfl
  have HS2 := Lib.hid (fun w => small_ok ep w)
  have HNO := Lib.hid (fun w => nonce_ok ⟨ep, dev, num⟩ w)
  have HKE := Lib.hid (fun w hT => keys_ok m ep hm w hT)
  have HSP := Lib.hid (fun w hT => sput_ok (keyB m ep) (macB m ep) (nonB ⟨ep, dev, num⟩) (plainB s) place (keyB_size _ _) (by rw [macB_size]; omega) (nonB_size _) (by rw [HPS.out]; omega) w hT)
  have hz3 := be4_size ep
  have hz4 := nonB_size ⟨ep, dev, num⟩
  have hz5 := sealP_size (keyB m ep) (macB m ep) place (nonB ⟨ep, dev, num⟩) (plainB s)
  rw [HPS.out] at hz5
  unfold keysV at HKE
  unfold Hd.v Hd.cells at *
  dsimp only at *
  rw [HPL.out] at HSP hz5 HBK
  have HA0 : Hid (Blk (w.alloc (.cells #[.int .u32 (n32 ep), .int .u64 (n64 dev), .int .u32 (n32 num)] 36)) w.heap.size 36 #[.int .u32 (n32 ep), .int .u64 (n64 dev), .int .u32 (n32 num)]) := Blk.new w 36 _
  have HBX : Hid (Below w.heap.size w (w.alloc (.cells #[.int .u32 (n32 ep), .int .u64 (n64 dev), .int .u32 (n32 num)] 36))) := (Below.refl _ _).alloc (Nat.le_refl _) _
  generalize zeroB r = zs at *
  generalize be4 (pl32 (s.size : Int)) = ls at *
  generalize sealP (keyB m ep) (macB m ep) place (nonB ⟨ep, dev, num⟩) (ls.extract 2 4 ++ s ++ zs) = sl at *
  generalize keyB m ep = kk at *
  generalize macB m ep = mk at *
  generalize nonB ⟨ep, dev, num⟩ = no at *
  generalize be4 ep = es at *
  clear HPL HPS HRZ hm
  go_enter Tryz.func63, Tryz.ntmps63
  go_wp2_with fail
  generalize w.alloc (.cells #[.int .u32 (n32 ep), .int .u64 (n64 dev), .int .u32 (n32 num)] 36) = w0 at *
  refine wp_region_plan (fun w' => True) 12 [(true, 0), (true, 1), (true, 2), (true, 5), (true, 7), (true, 8), (true, 9), (false, 3), (true, 4), (true, 6), (false, 10), (true, 11)] (by kernel_rfl) (by kernel_rfl) trivial ?_
  simp only [List.map_cons, List.map_nil, List.getD_cons_zero, List.getD_cons_succ, List.drop_succ_cons, List.drop_zero]
  (refine plan_take (v := ?_) rfl ?_ ?_; rotate_left; (intro wS hSw; (try dsimp only at hSw); go_simp; try with_reducible rfl); simp only [Act.put, List.setIfInBounds_toArray, List.set_cons_zero, List.set_cons_succ])
  (refine plan_take (v := ?_) rfl ?_ ?_; rotate_left; (intro wS hSw; (try dsimp only at hSw); go_simp; try with_reducible rfl); simp only [Act.put, List.setIfInBounds_toArray, List.set_cons_zero, List.set_cons_succ])
  (refine plan_take (v := ?_) rfl ?_ ?_; rotate_left; (intro wS hSw; (try dsimp only at hSw); go_simp; try with_reducible rfl); simp only [Act.put, List.setIfInBounds_toArray, List.set_cons_zero, List.set_cons_succ])
  (refine plan_take (v := ?_) rfl ?_ ?_; rotate_left; (intro wS hSw; (try dsimp only at hSw); go_simp; try with_reducible rfl); simp only [Act.put, List.setIfInBounds_toArray, List.set_cons_zero, List.set_cons_succ])
  (refine plan_take (v := ?_) rfl ?_ ?_; rotate_left; (intro wS hSw; (try dsimp only at hSw); go_simp; try with_reducible rfl); simp only [Act.put, List.setIfInBounds_toArray, List.set_cons_zero, List.set_cons_succ])
  (refine plan_take (v := ?_) rfl ?_ ?_; rotate_left; (intro wS hSw; (try dsimp only at hSw); go_simp; try with_reducible rfl); simp only [Act.put, List.setIfInBounds_toArray, List.set_cons_zero, List.set_cons_succ])
  (refine plan_take (v := ?_) rfl ?_ ?_; rotate_left; (intro wS hSw; (try dsimp only at hSw); go_simp; try with_reducible rfl); simp only [Act.put, List.setIfInBounds_toArray, List.set_cons_zero, List.set_cons_succ])
  refine plan_run rfl (fun K hK => ?_)
  go_simp
  refine (HS1.out _).mono ?_
  rintro x w1 ⟨rfl, hb⟩
  have HB1 : Hid (Below w.heap.size w w1) := (below_drewN HBX.out 1).trans (hb.mono HBX.out.size)
  have HA1 : Hid (Blk w1 w.heap.size 36 #[.int .u32 (n32 ep), .int .u64 (n64 dev), .int .u32 (n32 num)]) := (hb.block _ HA0.out.lt).trans HA0.out
  clear hb
  refine hK.out _ _ trivial ?_
  clear hK K
  try simp only [Act.put, List.setIfInBounds_toArray, List.set_cons_zero, List.set_cons_succ]
  (refine plan_take (v := ?_) rfl ?_ ?_; rotate_left; (intro wS hSw; (try dsimp only at hSw); go_simp; try with_reducible rfl); simp only [Act.put, List.setIfInBounds_toArray, List.set_cons_zero, List.set_cons_succ])
  (refine plan_take (v := ?_) rfl ?_ ?_; rotate_left; (intro wS hSw; (try dsimp only at hSw); go_simp; try with_reducible rfl); simp only [Act.put, List.setIfInBounds_toArray, List.set_cons_zero, List.set_cons_succ])
  refine plan_run rfl (fun K hK => ?_)
  go_simp
  refine (HRP.out _).mono ?_
  rintro x w2 ⟨rfl, hb⟩
  have HB2 : Hid (Below w.heap.size w w2) := HB1.out.trans (hb.mono HB1.out.size)
  have HA2 : Hid (Blk w2 w.heap.size 36 #[.int .u32 (n32 ep), .int .u64 (n64 dev), .int .u32 (n32 num)]) := (hb.block _ HA1.out.lt).trans HA1.out
  clear hb
  refine hK.out _ _ trivial ?_
  clear hK K
  try simp only [Act.put, List.setIfInBounds_toArray, List.set_cons_zero, List.set_cons_succ]
  (refine plan_take (v := ?_) rfl ?_ ?_; rotate_left; (intro wS hSw; (try dsimp only at hSw); go_simp; try with_reducible rfl); simp only [Act.put, List.setIfInBounds_toArray, List.set_cons_zero, List.set_cons_succ])
  refine plan_nil ?_
  go_wp2_with fail
  refine NoPanic.normal ?_
  go_wp2_with fail
  have k2 := HA2.out.cell 0
  refine wp_region_plan (fun w' => Blk w' w.heap.size 36 #[.int .u32 (n32 ep), .int .u64 (n64 dev), .int .u32 (n32 num)] ∧ w'.cell? ⟨w.heap.size, 0, none⟩ = some (.int .u32 (n32 ep))) 16 [(true, 0), (true, 1), (true, 3), (true, 6), (true, 7), (true, 8), (true, 10), (true, 11), (true, 13), (false, 2), (false, 4), (true, 5), (false, 9), (false, 12), (false, 14), (true, 15)] (by kernel_rfl) (by kernel_rfl) ⟨HA2.out, k2⟩ ?_
  simp only [List.map_cons, List.map_nil, List.getD_cons_zero, List.getD_cons_succ, List.drop_succ_cons, List.drop_zero]
  (refine plan_take (v := ?_) rfl ?_ ?_; rotate_left; (intro wS hSw; (try dsimp only at hSw); go_simp; try with_reducible rfl); simp only [Act.put, List.setIfInBounds_toArray, List.set_cons_zero, List.set_cons_succ])
  (refine plan_take (v := ?_) rfl ?_ ?_; rotate_left; (intro wS hSw; (try dsimp only at hSw); go_simp; try with_reducible rfl); simp only [Act.put, List.setIfInBounds_toArray, List.set_cons_zero, List.set_cons_succ])
  (refine plan_take (v := ?_) rfl ?_ ?_; rotate_left; (intro wS hSw; (try dsimp only at hSw); (refine exec_load_row 36 (.tmp 5) ?_ w.heap.size ?_ 36 #[.int .u32 (n32 ep), .int .u64 (n64 dev), .int .u32 (n32 num)] (0, 0) _ hSw.1 Tryz.underlying36 rfl info36 <;> rfl)); simp only [Act.put, List.setIfInBounds_toArray, List.set_cons_zero, List.set_cons_succ])
  (refine plan_take (v := ?_) rfl ?_ ?_; rotate_left; (intro wS hSw; (try dsimp only at hSw); go_simp; try with_reducible rfl); simp only [Act.put, List.setIfInBounds_toArray, List.set_cons_zero, List.set_cons_succ])
  (refine plan_take (v := ?_) rfl ?_ ?_; rotate_left; (intro wS hSw; (try dsimp only at hSw); go_simp; try with_reducible rfl); simp only [Act.put, List.setIfInBounds_toArray, List.set_cons_zero, List.set_cons_succ])
  (refine plan_take (v := ?_) rfl ?_ ?_; rotate_left; (intro wS hSw; (try dsimp only at hSw); go_simp; try with_reducible rfl); simp only [Act.put, List.setIfInBounds_toArray, List.set_cons_zero, List.set_cons_succ])
  (refine plan_take (v := ?_) rfl ?_ ?_; rotate_left; (intro wS hSw; (try dsimp only at hSw); go_simp; try with_reducible rfl); simp only [Act.put, List.setIfInBounds_toArray, List.set_cons_zero, List.set_cons_succ])
  (refine plan_take (v := ?_) rfl ?_ ?_; rotate_left; (intro wS hSw; (try dsimp only at hSw); (refine exec_load_row 36 (.tmp 5) ?_ w.heap.size ?_ 36 #[.int .u32 (n32 ep), .int .u64 (n64 dev), .int .u32 (n32 num)] (0, 0) _ hSw.1 Tryz.underlying36 rfl info36 <;> rfl)); simp only [Act.put, List.setIfInBounds_toArray, List.set_cons_zero, List.set_cons_succ])
  (refine plan_take (v := ?_) rfl ?_ ?_; rotate_left; (intro wS hSw; (try dsimp only at hSw); go_simp; try with_reducible rfl); simp only [Act.put, List.setIfInBounds_toArray, List.set_cons_zero, List.set_cons_succ])
  refine plan_run rfl (fun K hK => ?_)
  go_simp
  refine (HS2.out _).mono ?_
  rintro x w3 ⟨rfl, hb⟩
  have HB3 : Hid (Below w.heap.size w w3) := (below_drewN HB2.out 1).trans (hb.mono HB2.out.size)
  have HA3 : Hid (Blk w3 w.heap.size 36 #[.int .u32 (n32 ep), .int .u64 (n64 dev), .int .u32 (n32 num)]) := (hb.block _ HA2.out.lt).trans HA2.out
  clear hb
  refine hK.out _ _ ⟨HA3.out, HA3.out.cell 0⟩ ?_
  clear hK K
  try simp only [Act.put, List.setIfInBounds_toArray, List.set_cons_zero, List.set_cons_succ]
  refine plan_run rfl (fun K hK => ?_)
  go_simp
  refine (HNO.out _).mono ?_
  rintro x w4 ⟨rfl, hb⟩
  have HB4 : Hid (Below w.heap.size w w4) := HB3.out.trans (hb.mono HB3.out.size)
  have HA4 : Hid (Blk w4 w.heap.size 36 #[.int .u32 (n32 ep), .int .u64 (n64 dev), .int .u32 (n32 num)]) := (hb.block _ HA3.out.lt).trans HA3.out
  clear hb
  refine hK.out _ _ ⟨HA4.out, HA4.out.cell 0⟩ ?_
  clear hK K
  try simp only [Act.put, List.setIfInBounds_toArray, List.set_cons_zero, List.set_cons_succ]
  (refine plan_take (v := ?_) rfl ?_ ?_; rotate_left; (intro wS hSw; (try dsimp only at hSw); go_simp; try with_reducible rfl); simp only [Act.put, List.setIfInBounds_toArray, List.set_cons_zero, List.set_cons_succ])
  refine plan_run rfl (fun K hK => ?_)
  go_simp
  refine (HKE.out _ (HT.out.below HB4.out)).mono ?_
  rintro x w5 ⟨rfl, hb⟩
  have HB5 : Hid (Below w.heap.size w w5) := HB4.out.trans (hb.mono HB4.out.size)
  have HA5 : Hid (Blk w5 w.heap.size 36 #[.int .u32 (n32 ep), .int .u64 (n64 dev), .int .u32 (n32 num)]) := (hb.block _ HA4.out.lt).trans HA4.out
  clear hb
  refine hK.out _ _ ⟨HA5.out, HA5.out.cell 0⟩ ?_
  clear hK K
  try simp only [Act.put, List.setIfInBounds_toArray, List.set_cons_zero, List.set_cons_succ]
  refine plan_run rfl (fun K hK => ?_)
  go_simp
  refine (HNO.out _).mono ?_
  rintro x w6 ⟨rfl, hb⟩
  have HB6 : Hid (Below w.heap.size w w6) := HB5.out.trans (hb.mono HB5.out.size)
  have HA6 : Hid (Blk w6 w.heap.size 36 #[.int .u32 (n32 ep), .int .u64 (n64 dev), .int .u32 (n32 num)]) := (hb.block _ HA5.out.lt).trans HA5.out
  clear hb
  refine hK.out _ _ ⟨HA6.out, HA6.out.cell 0⟩ ?_
  clear hK K
  try simp only [Act.put, List.setIfInBounds_toArray, List.set_cons_zero, List.set_cons_succ]
  refine plan_run rfl (fun K hK => ?_)
  go_simp
  refine (HSP.out _ (HT.out.below HB6.out)).mono ?_
  rintro x w7 ⟨rfl, hb⟩
  have HB7 : Hid (Below w.heap.size w w7) := HB6.out.trans (hb.mono HB6.out.size)
  have HA7 : Hid (Blk w7 w.heap.size 36 #[.int .u32 (n32 ep), .int .u64 (n64 dev), .int .u32 (n32 num)]) := (hb.block _ HA6.out.lt).trans HA6.out
  clear hb
  refine hK.out _ _ ⟨HA7.out, HA7.out.cell 0⟩ ?_
  clear hK K
  try simp only [Act.put, List.setIfInBounds_toArray, List.set_cons_zero, List.set_cons_succ]
  (refine plan_take (v := ?_) rfl ?_ ?_; rotate_left; (intro wS hSw; (try dsimp only at hSw); go_simp; try with_reducible rfl); simp only [Act.put, List.setIfInBounds_toArray, List.set_cons_zero, List.set_cons_succ])
  refine plan_nil ?_
  go_wp2_with fail
  refine NoPanic.normal ?_
  go_wp2_with fail
  go_ret
  exact ⟨by rw [HBK.out]; rfl, HB7.out⟩

end Go.Proofs.YtimpjlnbbdfehaaGreatDoor
namespace Go.Proofs.YtimpjlnbbdfehaaGreatDoor
open Go.RowKit Go.Shelf Go.Lib Go.Sort
set_option linter.unusedVariables false
attribute [local go_sem ↓] shr_32_1 shl_32_1 shr_32_2 shl_32_2 shr_32_3 shl_32_3 shr_32_4 shl_32_4 shr_32_5 shl_32_5 shr_32_6 shl_32_6 shr_32_7 shl_32_7 shr_32_8 shl_32_8 shr_32_9 shl_32_9 shr_32_10 shl_32_10 shr_32_11 shl_32_11 shr_32_12 shl_32_12 shr_32_13 shl_32_13 shr_32_14 shl_32_14 shr_32_15 shl_32_15 shr_32_16 shl_32_16 shr_32_17 shl_32_17 shr_32_18 shl_32_18 shr_32_19 shl_32_19 shr_32_20 shl_32_20 shr_32_21 shl_32_21 shr_32_22 shl_32_22 shr_32_23 shl_32_23 shr_32_24 shl_32_24 shr_32_25 shl_32_25 shr_32_26 shl_32_26 shr_32_27 shl_32_27 shr_32_28 shl_32_28 shr_32_29 shl_32_29 shr_32_30 shl_32_30 shr_32_31 shl_32_31 shr_64_3 shl_64_3 shr_64_7 shl_64_7 shr_64_8 shl_64_8 shr_64_16 shl_64_16 shr_64_24 shl_64_24 shr_64_32 shl_64_32 shr_64_40 shl_64_40 shr_64_48 shl_64_48 shr_64_56 shl_64_56
attribute [local go_sem] add_u32 add_u64 and_u8 or_u8 xor_u8 and_u32 or_u32 xor_u32 and_u64 or_u64 xor_u64 conv_32_8 conv_64_8 conv_64_32 conv_8_32 conv_8_64 conv_32_64

theorem results_cell_tmp2 {fn : Func} {p t u : Tmp} {ty : TypeId} {P : Program} (h : fn.results = #[.cell p ty, .tmp t, .tmp u]) (tmps : Array Value) (w : World) (g : Nat) (cs : Array Value)
    (hp : tmps.getD p undef = .pointer (some ⟨g, 0, none⟩)) (hl : (loadVar ty ⟨g, 0, none⟩).run P w = .ok (.agg cs) w) :
    (results fn tmps).run P w = .ok (.tuple #[.agg cs, tmps.getD t undef, tmps.getD u undef]) w := by
  have hp' : tmps[p]?.getD undef = .pointer (some ⟨g, 0, none⟩) := by simpa using hp
  simp [results, h, hp', asAddr, hl]
def len16 (a b : UInt8) : Nat := a.toNat * 256 + b.toNat
theorem shl_i8 (a : UInt8) (yk : IntKind) : Op.shift .shl .i64 (n8 a) yk 8 = pure (.int .i64 ((a.toNat * 256 : Nat) : Int)) := by
  have := a.toNat_lt
  rw [shift_shl_any _ _ _ _ (by omega)]
  unfold n8
  have e : IntKind.i64.wrap ((a.toNat : Int) * 2 ^ (min (8 : Int).toNat IntKind.i64.bits)) = ((a.toNat * 256 : Nat) : Int) := by
    rw [show min (8 : Int).toNat IntKind.i64.bits = 8 by rfl]
    rw [wrap_i64_small _ (by omega) (by omega)]
    omega
  rw [e]
theorem or_i16 (a b : UInt8) : bits .or .i64 ((a.toNat * 256 : Nat) : Int) (n8 b) = (len16 a b : Int) := by
  have ha := a.toNat_lt
  have hb := b.toNat_lt
  unfold n8 len16
  have e : (a.toNat * 256) ||| b.toNat = a.toNat * 256 + b.toNat := by
    rw [show a.toNat * 256 = 2 ^ 8 * a.toNat by omega, Nat.two_pow_add_eq_or_of_lt hb]
  unfold bits
  simp only [BitVec.toNat_or, BitVec.toNat_ofInt]
  have h1' : ((((a.toNat * 256 : Nat) : Int)) % ((2 ^ IntKind.i64.bits : Nat) : Int)).toNat = a.toNat * 256 := by
    rw [show ((2 ^ IntKind.i64.bits : Nat) : Int) = 18446744073709551616 by rfl]; omega
  have h2' : (((b.toNat : Nat) : Int) % ((2 ^ IntKind.i64.bits : Nat) : Int)).toNat = b.toNat := by
    rw [show ((2 ^ IntKind.i64.bits : Nat) : Int) = 18446744073709551616 by rfl]; omega
  rw [h1', h2', e]
  rw [wrap_i64_small _ (by omega) (by omega)]

end Go.Proofs.YtimpjlnbbdfehaaGreatDoor
namespace Go.Proofs.YtimpjlnbbdfehaaGreatDoor
open Go.RowKit Go.Shelf Go.Lib Go.Sort
set_option linter.unusedVariables false
attribute [local go_sem ↓] shr_32_1 shl_32_1 shr_32_2 shl_32_2 shr_32_3 shl_32_3 shr_32_4 shl_32_4 shr_32_5 shl_32_5 shr_32_6 shl_32_6 shr_32_7 shl_32_7 shr_32_8 shl_32_8 shr_32_9 shl_32_9 shr_32_10 shl_32_10 shr_32_11 shl_32_11 shr_32_12 shl_32_12 shr_32_13 shl_32_13 shr_32_14 shl_32_14 shr_32_15 shl_32_15 shr_32_16 shl_32_16 shr_32_17 shl_32_17 shr_32_18 shl_32_18 shr_32_19 shl_32_19 shr_32_20 shl_32_20 shr_32_21 shl_32_21 shr_32_22 shl_32_22 shr_32_23 shl_32_23 shr_32_24 shl_32_24 shr_32_25 shl_32_25 shr_32_26 shl_32_26 shr_32_27 shl_32_27 shr_32_28 shl_32_28 shr_32_29 shl_32_29 shr_32_30 shl_32_30 shr_32_31 shl_32_31 shr_64_3 shl_64_3 shr_64_7 shl_64_7 shr_64_8 shl_64_8 shr_64_16 shl_64_16 shr_64_24 shl_64_24 shr_64_32 shl_64_32 shr_64_40 shl_64_40 shr_64_48 shl_64_48 shr_64_56 shl_64_56
attribute [local go_sem] add_u32 add_u64 and_u8 or_u8 xor_u8 and_u32 or_u32 xor_u32 and_u64 or_u64 xor_u64 conv_32_8 conv_64_8 conv_64_32 conv_8_32 conv_8_64 conv_32_64

/-- What is read of a block: its head, its text, an error. -/
def bgetF (m : ByteArray) (place : Int) (s : ByteArray) : Hd × ByteArray × Int :=
  if (headF s).2 ≠ 0 then (hdZ, ⟨#[]⟩, (headF s).2)
  else if (sealG (keyB m (headF s).1.ep) (macB m (headF s).1.ep) place (nonB (headF s).1) (s.extract 16 s.size)).2 ≠ 0 then (hdZ, ⟨#[]⟩, (sealG (keyB m (headF s).1.ep) (macB m (headF s).1.ep) place (nonB (headF s).1) (s.extract 16 s.size)).2)
  else
    let p := (sealG (keyB m (headF s).1.ep) (macB m (headF s).1.ep) place (nonB (headF s).1) (s.extract 16 s.size)).1
    if 462 < len16 (gb p 0) (gb p 1) then (hdZ, ⟨#[]⟩, 3)
    else if Lib.trimB (p.extract (2 + len16 (gb p 0) (gb p 1)) p.size).data.toList 0 ≠ [] then (hdZ, ⟨#[]⟩, 3)
    else ((headF s).1, p.extract 2 (2 + len16 (gb p 0) (gb p 1)), 0)
set_option maxHeartbeats 2000000 in
set_option maxRecDepth 100000 in
theorem bget_bad (m : ByteArray) (place : Int) (s : ByteArray) (he : (headF s).2 ≠ 0) (w : World) :
    Calls Tryz.prog 70 #[.string m, .int .i64 place, .string s] w fun x w' => x = .returned (.tuple #[(bgetF m place s).1.v, .string (bgetF m place s).2.1, .int .i64 (bgetF m place s).2.2]) ∧ Below w.heap.size w w' := by
  have HR : Hid (bgetF m place s = (hdZ, ⟨#[]⟩, (headF s).2)) := if_pos he
  have HH := Lib.hid (fun w => head_ok s w)
  have HA0 : Hid (Blk (w.alloc (.cells #[.int .u32 0, .int .u64 0, .int .u32 0] 36)) w.heap.size 36 #[.int .u32 0, .int .u64 0, .int .u32 0]) := Blk.new w 36 _
  have HB0 : Hid (Below w.heap.size w (w.alloc (.cells #[.int .u32 0, .int .u64 0, .int .u32 0] 36))) := (Below.refl _ _).alloc (Nat.le_refl _) _
  have hne : ((headF s).2 != 0) = true := by simp [he]
  rw [HR.out]
  dsimp only
  generalize (headF s).2 = er at *
  generalize (headF s).1 = hd at *
  have HONE := Lib.hid (hd_one hd)
  have HSZ : Hid (hd.cells.size = 3) := rfl
  have HZ : Hid (hdZ.v = .agg #[.int .u32 0, .int .u64 0, .int .u32 0]) := rfl
  rw [HZ.out]
  unfold Hd.v at HH
  generalize hd.cells = CS at *
  go_enter Tryz.func70, Tryz.ntmps70
  go_wp2_with fail
  refine (HH.out _).mono ?_
  rintro x w1 ⟨rfl, hb⟩
  have HA1 : Hid (Blk w1 w.heap.size 36 #[.int .u32 0, .int .u64 0, .int .u32 0]) := (hb.block _ HA0.out.lt).trans HA0.out
  have HB1 : Hid (Below w.heap.size w w1) := HB0.out.trans (hb.mono HB0.out.size)
  have HN : Hid (Blk (w1.alloc (.cells #[.int .u32 0, .int .u64 0, .int .u32 0] 36)) w1.heap.size 36 #[.int .u32 0, .int .u64 0, .int .u32 0]) := Blk.new w1 36 _
  have HA2 : Hid (Blk ((w1.alloc (.cells #[.int .u32 0, .int .u64 0, .int .u32 0] 36)).setRow w1.heap.size CS) w.heap.size 36 #[.int .u32 0, .int .u64 0, .int .u32 0]) := (HA1.out.alloc _).farRow (by have := HA1.out.lt; omega) _
  have HB2 : Hid (Below w.heap.size w ((w1.alloc (.cells #[.int .u32 0, .int .u64 0, .int .u32 0] 36)).setRow w1.heap.size CS)) := below_setRow (HB1.out.alloc HB1.out.size _) HB1.out.size _
  have c0 := HA2.out.cell 0
  have c1 := HA2.out.cell 1
  have c2 := HA2.out.cell 2
  clear hb
  go_wp2_with (first
    | (refine wpList_store_row rfl 36 (.tmp 9) (.tmp 16) (by rfl) w1.heap.size CS (by rfl) (by rfl) 36 _ HN.out (by rw [HSZ.out]; exact info36) (by rw [HSZ.out]; rfl) HONE.out ?_)
    | (refine wpList_store_row rfl 36 (.tmp 6) (.tmp 20) (by rfl) w.heap.size #[.int .u32 0, .int .u64 0, .int .u32 0] (by rfl) (by rfl) 36 _ HA2.out info36 (by rfl) (by simp [Value.oneCell']) ?_))
  refine bodyPost_ret (results_cell_tmp2 (fn := Tryz.f70) rfl _ _ w.heap.size #[.int .u32 0, .int .u64 0, .int .u32 0] (by rfl) (run_loadVar_row _ _ _ _ _ _ _ (HA2.out.row _) Tryz.underlying36 rfl info36)) rfl ?_
  exact ⟨rfl, below_setRow HB2.out (Nat.le_refl _) _⟩

end Go.Proofs.YtimpjlnbbdfehaaGreatDoor
namespace Go.Proofs.YtimpjlnbbdfehaaGreatDoor
open Go.RowKit Go.Shelf Go.Lib Go.Sort
set_option linter.unusedVariables false
attribute [local go_sem ↓] shr_32_1 shl_32_1 shr_32_2 shl_32_2 shr_32_3 shl_32_3 shr_32_4 shl_32_4 shr_32_5 shl_32_5 shr_32_6 shl_32_6 shr_32_7 shl_32_7 shr_32_8 shl_32_8 shr_32_9 shl_32_9 shr_32_10 shl_32_10 shr_32_11 shl_32_11 shr_32_12 shl_32_12 shr_32_13 shl_32_13 shr_32_14 shl_32_14 shr_32_15 shl_32_15 shr_32_16 shl_32_16 shr_32_17 shl_32_17 shr_32_18 shl_32_18 shr_32_19 shl_32_19 shr_32_20 shl_32_20 shr_32_21 shl_32_21 shr_32_22 shl_32_22 shr_32_23 shl_32_23 shr_32_24 shl_32_24 shr_32_25 shl_32_25 shr_32_26 shl_32_26 shr_32_27 shl_32_27 shr_32_28 shl_32_28 shr_32_29 shl_32_29 shr_32_30 shl_32_30 shr_32_31 shl_32_31 shr_64_3 shl_64_3 shr_64_7 shl_64_7 shr_64_8 shl_64_8 shr_64_16 shl_64_16 shr_64_24 shl_64_24 shr_64_32 shl_64_32 shr_64_40 shl_64_40 shr_64_48 shl_64_48 shr_64_56 shl_64_56
attribute [local go_sem] add_u32 add_u64 and_u8 or_u8 xor_u8 and_u32 or_u32 xor_u32 and_u64 or_u64 xor_u64 conv_32_8 conv_64_8 conv_64_32 conv_8_32 conv_8_64 conv_32_64

theorem w64_small (n : Int) (h0 : 0 ≤ n) (h1 : n ≤ 1000000) : wrap64 n = n := by unfold wrap64; omega
theorem sealG_size (k mac : ByteArray) (place : Int) (nonce s : ByteArray) (h : (sealG k mac place nonce s).2 = 0) : (sealG k mac place nonce s).1.size = s.size - 32 := by
  unfold sealG at h ⊢
  split
  · rw [turnB_size, ByteArray.size_extract]; omega
  · rename_i hne; rw [if_neg hne] at h; cases h
set_option maxHeartbeats 4000000 in
set_option maxRecDepth 100000 in
theorem bget_good (m : ByteArray) (place : Int) (s : ByteArray) (hm : m.size ≤ 900000) (hs : s.size = 512) (w : World) (hT : Salts w) :
    Calls Tryz.prog 70 #[.string m, .int .i64 place, .string s] w fun x w' => x = .returned (.tuple #[(bgetF m place s).1.v, .string (bgetF m place s).2.1, .int .i64 (bgetF m place s).2.2]) ∧ Below w.heap.size w w' := by
  have HH := Lib.hid (fun w => head_ok s w)
  have hhd : headF s = (hdOf s, 0) := if_pos hs
  have HA0 : Hid (Blk (w.alloc (.cells #[.int .u32 0, .int .u64 0, .int .u32 0] 36)) w.heap.size 36 #[.int .u32 0, .int .u64 0, .int .u32 0]) := Blk.new w 36 _
  have HB0 : Hid (Below w.heap.size w (w.alloc (.cells #[.int .u32 0, .int .u64 0, .int .u32 0] 36))) := (Below.refl _ _).alloc (Nat.le_refl _) _
  have HT := Lib.hid hT
  have hx : (s.extract 16 s.size).size = 496 := by rw [ByteArray.size_extract, hs]; rfl
  have hsl := fun w => slice_from s 16 16 rfl (by omega) w
  obtain ⟨h, hh⟩ : ∃ h, h = hdOf s := ⟨_, rfl⟩
  rw [hhd, ← hh] at HH
  have HG := Lib.hid (fun w hT => sget_ok (keyB m h.ep) (macB m h.ep) (nonB h) (s.extract 16 s.size) place (keyB_size _ _) (by rw [macB_size]; omega) (nonB_size _) (by omega) (by omega) w hT)
  have HK := Lib.hid (fun w hT => keys_ok m h.ep hm w hT)
  have HNO := Lib.hid (fun w => nonce_ok h w)
  have HF : Hid (bgetF m place s = (if (sealG (keyB m h.ep) (macB m h.ep) place (nonB h) (s.extract 16 s.size)).2 ≠ 0 then (hdZ, ⟨#[]⟩, (sealG (keyB m h.ep) (macB m h.ep) place (nonB h) (s.extract 16 s.size)).2)
    else
      let p := (sealG (keyB m h.ep) (macB m h.ep) place (nonB h) (s.extract 16 s.size)).1
      if 462 < len16 (gb p 0) (gb p 1) then (hdZ, ⟨#[]⟩, 3)
      else if Lib.trimB (p.extract (2 + len16 (gb p 0) (gb p 1)) p.size).data.toList 0 ≠ [] then (hdZ, ⟨#[]⟩, 3)
      else (h, p.extract 2 (2 + len16 (gb p 0) (gb p 1)), 0))) := by
    show _ = _
    unfold bgetF
    rw [hhd, ← hh, if_neg (by simp)]
  have HSG := Lib.hid (fun h0 => sealG_size (keyB m h.ep) (macB m h.ep) place (nonB h) (s.extract 16 s.size) h0)
  rw [hx] at HSG
  clear hhd hh hm hT hs
  obtain ⟨ep, dev, num⟩ := h
  unfold keysV at HK
  unfold Hd.v Hd.cells at HH HNO
  dsimp only at *
  generalize keyB m ep = kk at *
  generalize macB m ep = mk at *
  generalize nonB ⟨ep, dev, num⟩ = no at *
  generalize hsl0 : s.extract 16 s.size = sl at *
  clear hsl0
  generalize sealG kk mk place no sl = g at *
  obtain ⟨p, er⟩ := g
  dsimp only at *
  go_enter Tryz.func70, Tryz.ntmps70
  go_wp2_with fail
  refine (HH.out _).mono ?_
  rintro x w1 ⟨rfl, hb⟩
  have HA1 : Hid (Blk w1 w.heap.size 36 #[.int .u32 0, .int .u64 0, .int .u32 0]) := (hb.block _ HA0.out.lt).trans HA0.out
  have HB1 : Hid (Below w.heap.size w w1) := HB0.out.trans (hb.mono HB0.out.size)
  have HN : Hid (Blk (w1.alloc (.cells #[.int .u32 0, .int .u64 0, .int .u32 0] 36)) w1.heap.size 36 #[.int .u32 0, .int .u64 0, .int .u32 0]) := Blk.new w1 36 _
  have HN2 : Hid (Blk ((w1.alloc (.cells #[.int .u32 0, .int .u64 0, .int .u32 0] 36)).setRow w1.heap.size #[.int .u32 (n32 ep), .int .u64 (n64 dev), .int .u32 (n32 num)]) w1.heap.size 36 #[.int .u32 (n32 ep), .int .u64 (n64 dev), .int .u32 (n32 num)]) := HN.out.row _
  have HA2 : Hid (Blk ((w1.alloc (.cells #[.int .u32 0, .int .u64 0, .int .u32 0] 36)).setRow w1.heap.size #[.int .u32 (n32 ep), .int .u64 (n64 dev), .int .u32 (n32 num)]) w.heap.size 36 #[.int .u32 0, .int .u64 0, .int .u32 0]) := (HA1.out.alloc _).farRow (by have := HA1.out.lt; omega) _
  have HB2 : Hid (Below w.heap.size w ((w1.alloc (.cells #[.int .u32 0, .int .u64 0, .int .u32 0] 36)).setRow w1.heap.size #[.int .u32 (n32 ep), .int .u64 (n64 dev), .int .u32 (n32 num)])) := below_setRow (HB1.out.alloc HB1.out.size _) HB1.out.size _
  clear hb
  go_wp2_with (refine wpList_store_row rfl 36 (.tmp 9) (.tmp 16) (by rfl) w1.heap.size #[.int .u32 (n32 ep), .int .u64 (n64 dev), .int .u32 (n32 num)] (by rfl) (by rfl) 36 _ HN.out info36 (by rfl) (by simp [Value.oneCell']) ?_)
  have HLT : Hid (w.heap.size < w1.heap.size) := HA1.out.lt
  generalize (w1.alloc (.cells #[.int .u32 0, .int .u64 0, .int .u32 0] 36)).setRow w1.heap.size #[.int .u32 (n32 ep), .int .u64 (n64 dev), .int .u32 (n32 num)] = wc at *
  generalize w1.heap.size = q at *
  have k0 := HN2.out.cell 0
  clear HN HA1 HB1 HA0 HB0
  refine wp_region_plan (fun w' => Blk w' q 36 #[.int .u32 (n32 ep), .int .u64 (n64 dev), .int .u32 (n32 num)] ∧ w'.cell? ⟨q, 0, none⟩ = some (.int .u32 (n32 ep))) 14 [(true, 0), (true, 1), (true, 2), (true, 4), (true, 5), (true, 7), (true, 8), (false, 3), (false, 6), (false, 9), (true, 10), (true, 11), (true, 12), (true, 13)] (by kernel_rfl) (by kernel_rfl) ⟨HN2.out, k0⟩ ?_
  simp only [List.map_cons, List.map_nil, List.getD_cons_zero, List.getD_cons_succ, List.drop_succ_cons, List.drop_zero]
  (refine plan_take (v := ?_) rfl ?_ ?_; rotate_left; (intro wS hSw; (try dsimp only at hSw); go_simp; try with_reducible rfl); simp only [Act.put, List.setIfInBounds_toArray, List.set_cons_zero, List.set_cons_succ])
  (refine plan_take (v := ?_) rfl ?_ ?_; rotate_left; (intro wS hSw; (try dsimp only at hSw); go_simp; try with_reducible rfl); simp only [Act.put, List.setIfInBounds_toArray, List.set_cons_zero, List.set_cons_succ])
  (refine plan_take (v := ?_) rfl ?_ ?_; rotate_left; (intro wS hSw; (try dsimp only at hSw); go_simp; try with_reducible rfl); simp only [Act.put, List.setIfInBounds_toArray, List.set_cons_zero, List.set_cons_succ])
  (refine plan_take (v := ?_) rfl ?_ ?_; rotate_left; (intro wS hSw; (try dsimp only at hSw); go_simp; try with_reducible rfl); simp only [Act.put, List.setIfInBounds_toArray, List.set_cons_zero, List.set_cons_succ])
  (refine plan_take (v := ?_) rfl ?_ ?_; rotate_left; (intro wS hSw; (try dsimp only at hSw); (refine exec_load_row 36 (.tmp 9) ?_ q ?_ 36 #[.int .u32 (n32 ep), .int .u64 (n64 dev), .int .u32 (n32 num)] (0, 0) _ hSw.1 Tryz.underlying36 rfl info36 <;> rfl)); simp only [Act.put, List.setIfInBounds_toArray, List.set_cons_zero, List.set_cons_succ])
  (refine plan_take (v := ?_) rfl ?_ ?_; rotate_left; (intro wS hSw; (try dsimp only at hSw); go_simp; try with_reducible rfl); simp only [Act.put, List.setIfInBounds_toArray, List.set_cons_zero, List.set_cons_succ])
  (refine plan_take (v := ?_) rfl ?_ ?_; rotate_left; (intro wS hSw; (try dsimp only at hSw); go_simp; try with_reducible rfl); simp only [Act.put, List.setIfInBounds_toArray, List.set_cons_zero, List.set_cons_succ])
  refine plan_run rfl (fun K hK => ?_)
  go_simp
  refine (HK.out _ (HT.out.below (below_drewN HB2.out 1))).mono ?_
  rintro x w3 ⟨rfl, hb⟩
  have HB3 : Hid (Below w.heap.size w w3) := (below_drewN HB2.out 1).trans (hb.mono HB2.out.size)
  have HN3 : Hid (Blk w3 q 36 #[.int .u32 (n32 ep), .int .u64 (n64 dev), .int .u32 (n32 num)]) := (hb.block _ HN2.out.lt).trans HN2.out
  have HA3 : Hid (Blk w3 w.heap.size 36 #[.int .u32 0, .int .u64 0, .int .u32 0]) := (hb.block _ HA2.out.lt).trans HA2.out
  clear hb
  refine hK.out _ _ ⟨HN3.out, HN3.out.cell 0⟩ ?_
  clear hK K
  try simp only [Act.put, List.setIfInBounds_toArray, List.set_cons_zero, List.set_cons_succ]
  refine plan_run rfl (fun K hK => ?_)
  go_simp
  refine (HNO.out _).mono ?_
  rintro x w4 ⟨rfl, hb⟩
  have HB4 : Hid (Below w.heap.size w w4) := HB3.out.trans (hb.mono HB3.out.size)
  have HN4 : Hid (Blk w4 q 36 #[.int .u32 (n32 ep), .int .u64 (n64 dev), .int .u32 (n32 num)]) := (hb.block _ HN3.out.lt).trans HN3.out
  have HA4 : Hid (Blk w4 w.heap.size 36 #[.int .u32 0, .int .u64 0, .int .u32 0]) := (hb.block _ HA3.out.lt).trans HA3.out
  clear hb
  refine hK.out _ _ ⟨HN4.out, HN4.out.cell 0⟩ ?_
  clear hK K
  try simp only [Act.put, List.setIfInBounds_toArray, List.set_cons_zero, List.set_cons_succ]
  refine plan_run rfl (fun K hK => ?_)
  go_simp
  refine (HG.out _ (HT.out.below HB4.out)).mono ?_
  rintro x w5 ⟨rfl, hb⟩
  have HB5 : Hid (Below w.heap.size w w5) := HB4.out.trans (hb.mono HB4.out.size)
  have HN5 : Hid (Blk w5 q 36 #[.int .u32 (n32 ep), .int .u64 (n64 dev), .int .u32 (n32 num)]) := (hb.block _ HN4.out.lt).trans HN4.out
  have HA5 : Hid (Blk w5 w.heap.size 36 #[.int .u32 0, .int .u64 0, .int .u32 0]) := (hb.block _ HA4.out.lt).trans HA4.out
  clear hb
  refine hK.out _ _ ⟨HN5.out, HN5.out.cell 0⟩ ?_
  clear hK K
  try simp only [Act.put, List.setIfInBounds_toArray, List.set_cons_zero, List.set_cons_succ]
  (refine plan_take (v := ?_) rfl ?_ ?_; rotate_left; (intro wS hSw; (try dsimp only at hSw); go_simp; try with_reducible rfl); simp only [Act.put, List.setIfInBounds_toArray, List.set_cons_zero, List.set_cons_succ])
  (refine plan_take (v := ?_) rfl ?_ ?_; rotate_left; (intro wS hSw; (try dsimp only at hSw); go_simp; try with_reducible rfl); simp only [Act.put, List.setIfInBounds_toArray, List.set_cons_zero, List.set_cons_succ])
  (refine plan_take (v := ?_) rfl ?_ ?_; rotate_left; (intro wS hSw; (try dsimp only at hSw); go_simp; try with_reducible rfl); simp only [Act.put, List.setIfInBounds_toArray, List.set_cons_zero, List.set_cons_succ])
  (refine plan_take (v := ?_) rfl ?_ ?_; rotate_left; (intro wS hSw; (try dsimp only at hSw); go_simp; try with_reducible rfl); simp only [Act.put, List.setIfInBounds_toArray, List.set_cons_zero, List.set_cons_succ])
  refine plan_nil ?_
  go_wp2_with fail
  refine NoPanic.normal ?_
  by_cases her : er = 0
  · skip
    subst her
    have HPZ : Hid (p.size = 464) := by have := HSG.out rfl; show _ = _; omega
    have hz464 := HPZ.out
    have i0 := fun w => ix_str p 0 0 rfl (by omega) w
    have i1 := fun w => ix_str p 1 1 rfl (by omega) w
    obtain ⟨L, hL⟩ : ∃ L, L = len16 (gb p 0) (gb p 1) := ⟨_, rfl⟩
    have hLm : L ≤ 65535 := by
      rw [hL]; unfold len16
      have := (gb p 0).toNat_lt; have := (gb p 1).toNat_lt; omega
    have hor : bits .or .i64 (((gb p 0).toNat * 256 : Nat) : Int) (n8 (gb p 1)) = (L : Int) := by rw [hL]; exact or_i16 _ _
    rw [Int.natCast_mul] at hor
    have hor2 : bits .or .i64 (((gb p 0).toNat : Int) * 256) (n8 (gb p 1)) = (L : Int) := hor
    clear hor
    have hc0 : IntKind.i64.wrap (n8 (gb p 0)) = n8 (gb p 0) := by have := n8_lt (gb p 0); have := n8_nn (gb p 0); exact wrap_i64_small _ (by omega) (by omega)
    have hc1 : IntKind.i64.wrap (n8 (gb p 1)) = n8 (gb p 1) := by have := n8_lt (gb p 1); have := n8_nn (gb p 1); exact wrap_i64_small _ (by omega) (by omega)
    have hsh := shl_i8 (gb p 0)
    have HR0 : Hid (bgetF m place s = (if 462 < L then (hdZ, (⟨#[]⟩ : ByteArray), (3 : Int)) else if Lib.trimB (p.extract (2 + L) p.size).data.toList 0 ≠ [] then (hdZ, ⟨#[]⟩, 3) else (⟨ep, dev, num⟩, p.extract 2 (2 + L), 0))) := by
      rw [hL]; exact HF.out.trans (if_neg (by simp))
    clear hL HF HSG
    have hne0 : ((0 : Int) != 0) = false := rfl
    go_wp2_with fail
    go_quiet (fail)
    have htr := fun w => Tryz.strings_Trim_one (p.extract (2 + L) p.size) 0 (by decide) w (by rw [ByteArray.size_extract]; omega)
    have HTR := Lib.hid htr
    by_cases hbig : 462 < L
    · have hd : decide ((462 : Int) < (L : Int)) = true := by simp; omega
      have HR := Lib.hid (HR0.out.trans (if_pos hbig))
      go_wp2_with (refine wpList_store_row rfl 36 (.tmp 6) (.tmp 57) (by rfl) w.heap.size #[.int .u32 0, .int .u64 0, .int .u32 0] (by rfl) (by rfl) 36 _ (HA5.out.drewN nq) info36 (by rfl) (by simp [Value.oneCell']) ?_)
      refine bodyPost_ret (results_cell_tmp2 (fn := Tryz.f70) rfl _ _ w.heap.size #[.int .u32 0, .int .u64 0, .int .u32 0] (by rfl) (run_loadVar_row _ _ _ _ _ _ _ ((HA5.out.drewN nq).row _) Tryz.underlying36 rfl info36)) rfl ?_
      exact ⟨by rw [HR.out]; rfl, below_setRow (below_drewN HB5.out nq) (Nat.le_refl _) _⟩
    · have hd : decide ((462 : Int) < (L : Int)) = false := by simp; omega
      have HR1 := Lib.hid (HR0.out.trans (if_neg hbig))
      obtain ⟨M, hM⟩ : ∃ M : Nat, M = 2 + L := ⟨_, rfl⟩
      have hs2 : (2 : Int) + (L : Int) = (M : Int) := by omega
      have hM1 : M ≤ 464 := by omega
      have hM2 : 2 ≤ M := by omega
      rw [← hM] at HR1
      rw [← hM] at HTR
      clear hM hbig
      have hsl1 := fun w => slice_from p M (M : Int) rfl (by omega) w
      have hwr : IntKind.i64.wrap (M : Int) = (M : Int) := wrap_i64_small _ (by omega) (by omega)
      have hs3 : wrap64 (M : Int) = (M : Int) := w64_small _ (by omega) (by omega)
      have hsl2 := fun w => slice_mid p 2 M 2 (M : Int) rfl rfl hM2 (Nat.le_trans hM1 (Nat.le_of_eq hz464.symm)) w
      clear hz464
      obtain ⟨g, hg⟩ : ∃ g : ByteArray, g = ⟨(Lib.trimB (p.extract M p.size).data.toList 0).toArray⟩ := ⟨_, rfl⟩
      have HTG : Hid (∀ w, Calls Tryz.prog 115 #[.string (p.extract M p.size), .string ⟨#[0]⟩] w fun e w' => e = .returned (.string g) ∧ ∃ n, w' = w.drewN n) := fun w =>
        (HTR.out w).mono fun e w' ⟨he, hw⟩ => ⟨by rw [hg]; exact he, hw.elim (fun h => ⟨0, h⟩) (fun h => ⟨1, h⟩)⟩
      clear HTR
      by_cases hT0 : Lib.trimB (p.extract M p.size).data.toList 0 = []
      · have HR := Lib.hid (HR1.out.trans (if_neg (fun h => h hT0)))
        rw [hT0] at hg
        obtain rfl : g = ⟨#[]⟩ := hg
        clear hT0 HR1 HR0
        go_wp2_with fail
        refine (HTG.out _).mono ?_
        rintro e w6 ⟨rfl, nt, rfl⟩
        go_wp2_with fail
        refine wp_region_plan (fun w' => Blk w' q 36 #[.int .u32 (n32 ep), .int .u64 (n64 dev), .int .u32 (n32 num)]) 6 [(true, 0), (true, 1), (true, 2), (true, 3), (true, 4), (false, 5)] (by kernel_rfl) (by kernel_rfl) ((HN5.out.drewN _).drew) ?_
        simp only [List.map_cons, List.map_nil, List.getD_cons_zero, List.getD_cons_succ, List.drop_succ_cons, List.drop_zero]
        (refine plan_take (v := ?_) rfl ?_ ?_; rotate_left; (intro wS hSw; (try dsimp only at hSw); (refine exec_load_row 36 (.tmp 9) ?_ q ?_ 36 #[.int .u32 (n32 ep), .int .u64 (n64 dev), .int .u32 (n32 num)] (0, 0) _ hSw Tryz.underlying36 rfl info36 <;> rfl)); simp only [Act.put, List.setIfInBounds_toArray, List.set_cons_zero, List.set_cons_succ])
        (refine plan_take (v := ?_) rfl ?_ ?_; rotate_left; (intro wS hSw; (try dsimp only at hSw); go_simp; try with_reducible rfl); simp only [Act.put, List.setIfInBounds_toArray, List.set_cons_zero, List.set_cons_succ])
        (refine plan_take (v := ?_) rfl ?_ ?_; rotate_left; (intro wS hSw; (try dsimp only at hSw); go_simp; try with_reducible rfl); simp only [Act.put, List.setIfInBounds_toArray, List.set_cons_zero, List.set_cons_succ])
        (refine plan_take (v := ?_) rfl ?_ ?_; rotate_left; (intro wS hSw; (try dsimp only at hSw); go_simp; try with_reducible rfl); simp only [Act.put, List.setIfInBounds_toArray, List.set_cons_zero, List.set_cons_succ])
        (refine plan_take (v := ?_) rfl ?_ ?_; rotate_left; (intro wS hSw; (try dsimp only at hSw); go_simp; try with_reducible rfl); simp only [Act.put, List.setIfInBounds_toArray, List.set_cons_zero, List.set_cons_succ])
        refine plan_run rfl (fun K hK => ?_)
        refine wp_store_row 36 (.tmp 6) (.tmp 58) (by rfl) w.heap.size #[.int .u32 (n32 ep), .int .u64 (n64 dev), .int .u32 (n32 num)] (by rfl) (by rfl) 36 _ ((HA5.out.drewN _).drew) info36 (by rfl) (by simp [Value.oneCell']) ?_
        refine hK.out _ _ (((HN5.out.drewN _).drew).farRow (by have := HLT.out; omega) _) ?_
        clear hK K
        try simp only [Act.put]
        refine plan_nil ?_
        go_wp2_with fail
        refine NoPanic.normal ?_
        go_wp2_with fail
        refine bodyPost_ret (results_cell_tmp2 (fn := Tryz.f70) rfl _ _ w.heap.size #[.int .u32 (n32 ep), .int .u64 (n64 dev), .int .u32 (n32 num)] (by rfl) (run_loadVar_row _ _ _ _ _ _ _ ((HA5.out.drewN (nq + nt + 1)).row _) Tryz.underlying36 rfl info36)) rfl ?_
        exact ⟨by rw [HR.out]; rfl, below_setRow (below_drewN HB5.out (nq + nt + 1)) (Nat.le_refl _) _⟩
      · have HR := Lib.hid (HR1.out.trans (if_pos hT0))
        have hg1 : (!g.toList.isEmpty) = true := by
          rw [Lib.toList_data, hg]
          cases hL : Lib.trimB (p.extract M p.size).data.toList 0 with
          | nil => exact absurd hL hT0
          | cons x r => rfl
        have hg2 : g.toList.isEmpty = false := by simpa using hg1
        clear hT0 HR1 HR0 hg
        go_wp2_with fail
        refine (HTG.out _).mono ?_
        rintro e w6 ⟨rfl, nt, rfl⟩
        go_wp2_with (refine wpList_store_row rfl 36 (.tmp 6) (.tmp 57) (by rfl) w.heap.size #[.int .u32 0, .int .u64 0, .int .u32 0] (by rfl) (by rfl) 36 _ (HA5.out.drewN _) info36 (by rfl) (by simp [Value.oneCell']) ?_)
        refine bodyPost_ret (results_cell_tmp2 (fn := Tryz.f70) rfl _ _ w.heap.size #[.int .u32 0, .int .u64 0, .int .u32 0] (by rfl) (run_loadVar_row _ _ _ _ _ _ _ ((HA5.out.drewN _).row _) Tryz.underlying36 rfl info36)) rfl ?_
        exact ⟨by rw [HR.out]; rfl, below_setRow (below_drewN HB5.out _) (Nat.le_refl _) _⟩
  · have hne : (er != 0) = true := by simp [her]
    have HR : Hid (bgetF m place s = (hdZ, ⟨#[]⟩, er)) := HF.out.trans (if_pos her)
    have HZ : Hid (hdZ.v = .agg #[.int .u32 0, .int .u64 0, .int .u32 0]) := rfl
    go_wp2_with (refine wpList_store_row rfl 36 (.tmp 6) (.tmp 37) (by rfl) w.heap.size #[.int .u32 0, .int .u64 0, .int .u32 0] (by rfl) (by rfl) 36 _ HA5.out info36 (by rfl) (by simp [Value.oneCell']) ?_)
    refine bodyPost_ret (results_cell_tmp2 (fn := Tryz.f70) rfl _ _ w.heap.size #[.int .u32 0, .int .u64 0, .int .u32 0] (by rfl) (run_loadVar_row _ _ _ _ _ _ _ (HA5.out.row _) Tryz.underlying36 rfl info36)) rfl ?_
    exact ⟨by rw [HR.out]; rfl, below_setRow HB5.out (Nat.le_refl _) _⟩

end Go.Proofs.YtimpjlnbbdfehaaGreatDoor
namespace Go.Proofs.YtimpjlnbbdfehaaGreatDoor
open Go.RowKit Go.Shelf Go.Lib Go.Sort
set_option linter.unusedVariables false
attribute [local go_sem ↓] shr_32_1 shl_32_1 shr_32_2 shl_32_2 shr_32_3 shl_32_3 shr_32_4 shl_32_4 shr_32_5 shl_32_5 shr_32_6 shl_32_6 shr_32_7 shl_32_7 shr_32_8 shl_32_8 shr_32_9 shl_32_9 shr_32_10 shl_32_10 shr_32_11 shl_32_11 shr_32_12 shl_32_12 shr_32_13 shl_32_13 shr_32_14 shl_32_14 shr_32_15 shl_32_15 shr_32_16 shl_32_16 shr_32_17 shl_32_17 shr_32_18 shl_32_18 shr_32_19 shl_32_19 shr_32_20 shl_32_20 shr_32_21 shl_32_21 shr_32_22 shl_32_22 shr_32_23 shl_32_23 shr_32_24 shl_32_24 shr_32_25 shl_32_25 shr_32_26 shl_32_26 shr_32_27 shl_32_27 shr_32_28 shl_32_28 shr_32_29 shl_32_29 shr_32_30 shl_32_30 shr_32_31 shl_32_31 shr_64_3 shl_64_3 shr_64_7 shl_64_7 shr_64_8 shl_64_8 shr_64_16 shl_64_16 shr_64_24 shl_64_24 shr_64_32 shl_64_32 shr_64_40 shl_64_40 shr_64_48 shl_64_48 shr_64_56 shl_64_56
attribute [local go_sem] add_u32 add_u64 and_u8 or_u8 xor_u8 and_u32 or_u32 xor_u32 and_u64 or_u64 xor_u64 conv_32_8 conv_64_8 conv_64_32 conv_8_32 conv_8_64 conv_32_64

/-! ### What a block's head and text are read as -/
theorem step64 (a : UInt64) (c : UInt8) : (a <<< 8 ||| up64 c).toNat = (a.toNat * 256) % 18446744073709551616 + c.toNat := by
  have hc := c.toNat_lt
  have ha := a.toNat_lt
  unfold up64
  rw [UInt64.toNat_or, UInt64.toNat_shiftLeft, UInt8.toNat_toUInt64]
  have e : (a.toNat <<< ((8 : UInt64).toNat % 64)) % 2 ^ 64 = (a.toNat % 2 ^ 56) <<< 8 := by
    show (a.toNat <<< 8) % 2 ^ 64 = (a.toNat % 2 ^ 56) <<< 8
    rw [Nat.shiftLeft_eq, Nat.shiftLeft_eq]
    omega
  rw [e, ← Nat.shiftLeft_add_eq_or_of_lt (by omega : c.toNat < 2 ^ 8), Nat.shiftLeft_eq]
  omega
theorem gb_mk (l : List UInt8) (i : Nat) : gb ⟨l.toArray⟩ i = l.getD i 0 := rfl
theorem b8_nat (x : UInt32) : (b8 x).toNat = x.toNat % 256 := by unfold b8; rw [UInt32.toNat_toUInt8]
theorem shr_nat (x k : UInt32) (hk : k.toNat < 32) : (x >>> k).toNat = x.toNat / 2 ^ k.toNat := by
  rw [UInt32.toNat_shiftRight, Nat.mod_eq_of_lt hk, Nat.shiftRight_eq_div_pow]
/-- Four bytes, the highest first, as a number. -/
def n4 (a b c d : UInt8) : Nat := ((a.toNat * 256 + b.toNat) * 256 + c.toNat) * 256 + d.toNat
theorem n4_be (x : UInt32) : n4 (b8 (x >>> 24)) (b8 (x >>> 16)) (b8 (x >>> 8)) (b8 x) = x.toNat := by
  have := x.toNat_lt
  unfold n4
  rw [b8_nat, b8_nat, b8_nat, b8_nat, shr_nat _ _ (by decide), shr_nat _ _ (by decide), shr_nat _ _ (by decide)]
  show ((x.toNat / 2 ^ 24 % 256 * 256 + x.toNat / 2 ^ 16 % 256) * 256 + x.toNat / 2 ^ 8 % 256) * 256 + x.toNat % 256 = x.toNat
  omega
theorem numOf_be4 (x : UInt32) : lo32 (numOf (be4 x)) = x := by
  apply UInt32.toNat_inj.1
  have h4 : (numOf (be4 x)).toNat = x.toNat := by
    have hx := n4_be x
    unfold n4 at hx
    have e : numOf (be4 x) = (((((0 : UInt64) <<< 8 ||| up64 (b8 (x >>> 24))) <<< 8 ||| up64 (b8 (x >>> 16))) <<< 8 ||| up64 (b8 (x >>> 8))) <<< 8 ||| up64 (b8 x)) := rfl
    have h1 := (b8 (x >>> 24)).toNat_lt
    have h2 := (b8 (x >>> 16)).toNat_lt
    have h3 := (b8 (x >>> 8)).toNat_lt
    have h4 := (b8 x).toNat_lt
    rw [e, step64, step64, step64, step64]
    show ((((0 * 256) % 18446744073709551616 + _) * 256 % 18446744073709551616 + _) * 256 % 18446744073709551616 + _) * 256 % 18446744073709551616 + _ = _
    omega
  unfold lo32
  rw [UInt64.toNat_toUInt32, h4]
  have := x.toNat_lt
  omega
theorem numOf_be8 (x : UInt64) : numOf (be8 x) = x := by
  apply UInt64.toNat_inj.1
  obtain ⟨a, ha⟩ : ∃ a, a = lo32 (x >>> 32) := ⟨_, rfl⟩
  obtain ⟨b, hb⟩ : ∃ b, b = lo32 x := ⟨_, rfl⟩
  have hx := x.toNat_lt
  have na : a.toNat = x.toNat / 4294967296 := by
    rw [ha]; unfold lo32
    rw [UInt64.toNat_toUInt32, UInt64.toNat_shiftRight, Nat.shiftRight_eq_div_pow]
    show x.toNat / 2 ^ 32 % 2 ^ 32 = _
    omega
  have nb : b.toNat = x.toNat % 4294967296 := by
    rw [hb]; unfold lo32
    rw [UInt64.toNat_toUInt32]
  have e0 : be8 x = be4 a ++ be4 b := by rw [ha, hb]; rfl
  rw [e0]
  have ea := n4_be a
  have eb := n4_be b
  unfold n4 at ea eb
  have e : numOf (be4 a ++ be4 b) = (((((((((0 : UInt64) <<< 8 ||| up64 (b8 (a >>> 24))) <<< 8 ||| up64 (b8 (a >>> 16))) <<< 8 ||| up64 (b8 (a >>> 8))) <<< 8 ||| up64 (b8 a)) <<< 8 ||| up64 (b8 (b >>> 24))) <<< 8 ||| up64 (b8 (b >>> 16))) <<< 8 ||| up64 (b8 (b >>> 8))) <<< 8 ||| up64 (b8 b)) := rfl
  rw [e, step64, step64, step64, step64, step64, step64, step64, step64]
  have h1 := (b8 (a >>> 24)).toNat_lt
  have h2 := (b8 (a >>> 16)).toNat_lt
  have h3 := (b8 (a >>> 8)).toNat_lt
  have h4 := (b8 a).toNat_lt
  have h5 := (b8 (b >>> 24)).toNat_lt
  have h6 := (b8 (b >>> 16)).toNat_lt
  have h7 := (b8 (b >>> 8)).toNat_lt
  have h8 := (b8 b).toNat_lt
  generalize (b8 (a >>> 24)).toNat = c1 at *
  generalize (b8 (a >>> 16)).toNat = c2 at *
  generalize (b8 (a >>> 8)).toNat = c3 at *
  generalize (b8 a).toNat = c4 at *
  generalize (b8 (b >>> 24)).toNat = c5 at *
  generalize (b8 (b >>> 16)).toNat = c6 at *
  generalize (b8 (b >>> 8)).toNat = c7 at *
  generalize (b8 b).toNat = c8 at *
  show ((((((((0 * 256) % 18446744073709551616 + c1) * 256 % 18446744073709551616 + c2) * 256 % 18446744073709551616 + c3) * 256 % 18446744073709551616 + c4) * 256 % 18446744073709551616 + c5) * 256 % 18446744073709551616 + c6) * 256 % 18446744073709551616 + c7) * 256 % 18446744073709551616 + c8 = _
  omega
theorem app_ext {a b : ByteArray} (h : a.data.toList = b.data.toList) : a = b := by
  cases a with | mk a => cases b with | mk b => simp at h; rw [h]
theorem app_list (a b : ByteArray) : (a ++ b).data.toList = a.data.toList ++ b.data.toList := by simp
theorem ext_list (a : ByteArray) (i j : Nat) : (a.extract i j).data.toList = (a.data.toList.drop i).take (j - i) := by
  simp [List.extract_eq_take_drop]
theorem len_list (a : ByteArray) : a.data.toList.length = a.size := rfl
/-- A part that lies whole within a sum. -/
theorem ext_mid (a b c : ByteArray) (i j : Nat) (hi : i = a.size) (hj : j = a.size + b.size) : (a ++ b ++ c).extract i j = b := by
  apply app_ext
  rw [ext_list, app_list, app_list, hi, hj, Nat.add_sub_cancel_left, List.append_assoc, ← len_list a, List.drop_left, ← len_list b, List.take_left]
theorem ext_first (a b : ByteArray) (j : Nat) (hj : j = a.size) : (a ++ b).extract 0 j = a := by
  apply app_ext
  rw [ext_list, app_list, hj, Nat.sub_zero, List.drop_zero, ← len_list a, List.take_left]
theorem ext_last (a b : ByteArray) (i j : Nat) (hi : i = a.size) (hj : j = a.size + b.size) : (a ++ b).extract i j = b := by
  apply app_ext
  rw [ext_list, app_list, hi, hj, Nat.add_sub_cancel_left, ← len_list a, List.drop_left, ← len_list b, List.take_length]
theorem hd_block (m : ByteArray) (h : Hd) (place : Int) (s : ByteArray) (hs : s.size ≤ 462) : hdOf (blockP m h place s) = h := by
  have hz := blockP_size m h place s hs
  unfold blockP at hz ⊢
  unfold hdOf nonB at *
  generalize sealP (keyB m h.ep) (macB m h.ep) place _ (plainB s) = q at *
  have hq : q.size = 496 := by
    rw [size_app, size_app, be4_size, size_app, be8_size, be4_size] at hz; omega
  have e1 : be4 h.ep ++ (be8 h.dev ++ be4 h.num) ++ q = be4 h.ep ++ (be8 h.dev ++ (be4 h.num ++ q)) := by
    apply app_ext; simp only [app_list, List.append_assoc]
  rw [e1, ext_first _ _ _ (be4_size _).symm, ext_last (be4 h.ep) _ 4 512 (be4_size _).symm (by rw [size_app, size_app, be4_size, be8_size, be4_size, hq]),
    ext_first _ _ _ (be8_size _).symm, ext_last (be8 h.dev) _ 8 508 (be8_size _).symm (by rw [size_app, be4_size, be8_size, hq]), ext_first _ _ _ (be4_size _).symm,
    numOf_be4, numOf_be8, numOf_be4]
theorem len16_plain (s : ByteArray) (hs : s.size ≤ 462) : len16 (gb (plainB s) 0) (gb (plainB s) 1) = s.size := by
  have e : ∀ x : UInt32, (be4 x).extract 2 4 = ⟨#[b8 (x >>> 8), b8 x]⟩ := fun x => rfl
  have g : ∀ (a b : UInt8) (t : ByteArray) (i : Nat), i < 2 → gb (⟨#[a, b]⟩ ++ t) i = [a, b].getD i 0 := by
    intro a b t i hi
    unfold gb
    rw [app_list]
    show ([a, b] ++ t.data.toList).getD i 0 = _
    rw [List.getD_eq_getElem?_getD, List.getElem?_append_left (by simpa using hi), List.getD_eq_getElem?_getD]
  unfold plainB
  rw [e]
  have e2 : ∀ (a b c : ByteArray), a ++ b ++ c = a ++ (b ++ c) := fun a b c => by apply app_ext; simp only [app_list, List.append_assoc]
  rw [e2, g _ _ _ 0 (by omega), g _ _ _ 1 (by omega)]
  unfold len16
  show (b8 (pl32 (s.size : Int) >>> 8)).toNat * 256 + (b8 (pl32 (s.size : Int))).toNat = s.size
  have hp : (pl32 (s.size : Int)).toNat = s.size := by
    unfold pl32
    rw [UInt32.toNat_ofNat_of_lt' (by simp [UInt32.size]; omega)]
    omega
  rw [b8_nat, b8_nat, shr_nat _ _ (by decide), hp]
  show s.size / 2 ^ 8 % 256 * 256 + s.size % 256 = s.size
  omega
theorem trim_zero (n : Nat) : Lib.trimB (zeroB n).data.toList 0 = [] := by
  have hz : (zeroB n).data.toList = List.replicate n 0 := by
    show Lib.repeatL [0] n = _
    induction n with
    | zero => rfl
    | succ n ih => show [0] ++ Lib.repeatL [0] n = _; rw [ih]; rfl
  rw [hz]
  unfold Lib.trimB
  have hr : ∀ k, Lib.trimLeftB (List.replicate k (0 : UInt8)) 0 = [] := by
    intro k; induction k with
    | zero => rfl
    | succ k _ => rw [List.replicate_succ]; unfold Lib.trimLeftB; simp
  have hl : Lib.trimRightB (List.replicate n (0 : UInt8)) 0 = [] := by
    unfold Lib.trimRightB
    simp
  rw [hl]
  rfl
theorem bget_put (m : ByteArray) (h : Hd) (place : Int) (s : ByteArray) (hs : s.size ≤ 462) : bgetF m place (blockP m h place s) = (h, s, 0) := by
  have hz := blockP_size m h place s hs
  have hh := hd_block m h place s hs
  have hp := plainB_size s hs
  have hF : headF (blockP m h place s) = (h, 0) := by unfold headF; rw [if_pos hz, hh]
  unfold bgetF
  rw [hF]
  have hx : (blockP m h place s).extract 16 (blockP m h place s).size = sealP (keyB m h.ep) (macB m h.ep) place (nonB h) (plainB s) := by
    unfold blockP
    exact ext_last _ _ _ _ (by rw [size_app, be4_size, nonB_size]) (by rw [size_app])
  have hg : sealG (keyB m h.ep) (macB m h.ep) place (nonB h) (sealP (keyB m h.ep) (macB m h.ep) place (nonB h) (plainB s)) = (plainB s, 0) := by
    have e1 : (sealP (keyB m h.ep) (macB m h.ep) place (nonB h) (plainB s)).size - 32 = (turnB (keyB m h.ep) (nonB h) (plainB s)).size := by rw [sealP_size, turnB_size]; omega
    unfold sealG
    rw [e1]
    unfold sealP
    rw [ext_first _ _ _ rfl, ext_last _ _ _ _ rfl (by rw [size_app]), if_pos rfl, turnB_twice]
  dsimp only
  rw [if_neg (by simp), hx, hg]
  dsimp only
  rw [if_neg (by simp), len16_plain s hs, if_neg (by omega)]
  have e3 : (plainB s).extract (2 + s.size) (plainB s).size = zeroB (462 - s.size) := by
    unfold plainB
    exact ext_last _ _ _ _ (by rw [size_app, ByteArray.size_extract, be4_size]; try omega) (by rw [size_app])
  have e4 : (plainB s).extract 2 (2 + s.size) = s := by
    unfold plainB
    exact ext_mid _ _ _ _ _ (by rw [ByteArray.size_extract, be4_size]; try omega) (by rw [ByteArray.size_extract, be4_size]; try omega)
  rw [e3, e4, trim_zero, if_neg (by simp)]

end Go.Proofs.YtimpjlnbbdfehaaGreatDoor
