import Derived.Test.YtimpjlnbbdfehaaGreatDoorGB
import Derived.Lib.BufferWrite
import Derived.Deep.OwnRows
import Derived.Test.YtimpjlnbbdfehaaGreatDoorGA
namespace Go.Proofs.YtimpjlnbbdfehaaGreatDoor
open Go.RowKit Go.Shelf Go.Lib Go.Sort
set_option linter.unusedVariables false
attribute [local go_sem ↓] shr_32_1 shl_32_1 shr_32_2 shl_32_2 shr_32_3 shl_32_3 shr_32_4 shl_32_4 shr_32_5 shl_32_5 shr_32_6 shl_32_6 shr_32_7 shl_32_7 shr_32_8 shl_32_8 shr_32_9 shl_32_9 shr_32_10 shl_32_10 shr_32_11 shl_32_11 shr_32_12 shl_32_12 shr_32_13 shl_32_13 shr_32_14 shl_32_14 shr_32_15 shl_32_15 shr_32_16 shl_32_16 shr_32_17 shl_32_17 shr_32_18 shl_32_18 shr_32_19 shl_32_19 shr_32_20 shl_32_20 shr_32_21 shl_32_21 shr_32_22 shl_32_22 shr_32_23 shl_32_23 shr_32_24 shl_32_24 shr_32_25 shl_32_25 shr_32_26 shl_32_26 shr_32_27 shl_32_27 shr_32_28 shl_32_28 shr_32_29 shl_32_29 shr_32_30 shl_32_30 shr_32_31 shl_32_31 shr_64_3 shl_64_3 shr_64_7 shl_64_7 shr_64_8 shl_64_8 shr_64_16 shl_64_16 shr_64_24 shl_64_24 shr_64_32 shl_64_32 shr_64_40 shl_64_40 shr_64_48 shl_64_48 shr_64_56 shl_64_56
attribute [local go_sem] add_u32 add_u64 and_u8 or_u8 xor_u8 and_u32 or_u32 xor_u32 and_u64 or_u64 xor_u64 conv_32_8 conv_64_8 conv_64_32 conv_8_32 conv_8_64 conv_32_64

theorem getD_size (s : ByteArray) (i : Nat) (h : s.size ≤ i) : gb s i = 0 := by
  unfold gb
  rw [List.getD_eq_getElem?_getD, List.getElem?_eq_none (by simpa using h)]; rfl
def orX (a b : ByteArray) : Nat → UInt8
  | 0 => 0
  | j + 1 => orX a b j ||| (gb a j ^^^ gb b j)
theorem or_zero (x y : UInt8) : x ||| y = 0 ↔ x = 0 ∧ y = 0 := by
  constructor
  · intro h
    have e := congrArg UInt8.toBitVec h
    simp only [UInt8.toBitVec_or] at e
    have e0 : x.toBitVec = 0#8 ∧ y.toBitVec = 0#8 := by
      revert e
      generalize x.toBitVec = p
      generalize y.toBitVec = q
      intro e
      exact BitVec.or_eq_zero_iff.1 e
    exact ⟨UInt8.toBitVec_inj.1 e0.1, UInt8.toBitVec_inj.1 e0.2⟩
  · rintro ⟨rfl, rfl⟩; rfl
theorem xor_zero (x y : UInt8) : x ^^^ y = 0 ↔ x = y := by
  constructor
  · intro h
    have : x ^^^ y ^^^ y = y := by rw [h, UInt8.zero_xor]
    rwa [UInt8.xor_assoc, UInt8.xor_self, UInt8.xor_zero] at this
  · rintro rfl; exact UInt8.xor_self
theorem orX_zero (a b : ByteArray) : ∀ j, orX a b j = 0 ↔ ∀ i, i < j → gb a i = gb b i
  | 0 => by simp [orX]
  | j + 1 => by
    rw [orX, or_zero, orX_zero a b j, xor_zero]
    constructor
    · rintro ⟨h1, h2⟩ i hi
      by_cases e : i = j
      · rw [e, h2]
      · exact h1 i (by omega)
    · intro h
      exact ⟨fun i hi => h i (by omega), h j (by omega)⟩
theorem ext_gb (a b : ByteArray) (hs : a.size = b.size) (h : ∀ i, i < a.size → gb a i = gb b i) : a = b := by
  apply ByteArray.ext
  apply Array.ext'
  apply List.ext_getElem
  · simpa using hs
  · intro i h1 h2
    rw [gb_at, gb_at]
    exact h i (by simpa using h1)
theorem n8_zero (x : UInt8) : (n8 x == 0) = (x == 0) := by
  have h : n8 x = 0 ↔ x = 0 := by
    unfold n8
    rw [← UInt8.toNat_inj]
    show ((x.toNat : Int) = 0) ↔ x.toNat = 0
    omega
  by_cases e : x = 0
  · rw [e]; rfl
  · rw [beq_eq_false_iff_ne.2 e, beq_eq_false_iff_ne.2 (fun q => e (h.1 q))]
set_option maxHeartbeats 1000000 in
set_option maxRecDepth 100000 in
theorem same_ok (a b : ByteArray) (ha : a.size ≤ 1000000) (w : World) :
    Calls Tryz.prog 158 #[.string a, .string b] w fun e w' => e = .returned (.bool (decide (a = b))) ∧ Below w.heap.size w w' := by
  by_cases hs : a.size = b.size
  · have hne : ((a.size : Int) != (b.size : Int)) = false := by simp [hs]
    have HSZ := Lib.hid hs
    clear hs
    go_enter Tryz.func158, Tryz.ntmps158
    go_wp2_with fail
    go_loopg [14, 5] a.size (fun q i v wr => ∃ (j : Nat), q + j = a.size ∧ i = .int .i64 (j : Int) ∧ v = .int .u8 (n8 (orX a b j)) ∧ Below w.heap.size w wr)
    case atStart => exact ⟨0, rfl, rfl, rfl, Below.refl _ _⟩
    case round =>
      obtain ⟨j, hj, rfl, rfl, hb⟩ := hrel
      have HB := Lib.hid hb
      clear hb
      by_cases hlt : j < a.size
      · have hd : decide ((j : Int) < (a.size : Int)) = true := by simp; omega
        have hi1 := fun w => ix_str a j (j : Int) rfl hlt w
        have hi2 := fun w => ix_str b j (j : Int) rfl (by rw [← HSZ.out]; exact hlt) w
        have HS : Hid (orX a b (j + 1) = orX a b j ||| (gb a j ^^^ gb b j)) := rfl
        generalize orX a b j = o at *
        generalize gb a j = x at *
        generalize gb b j = y at *
        go_wp2_with fail
        refine wp_region_plan (fun w' => True) 9 [(true, 0), (true, 1), (true, 2), (true, 3), (true, 4), (true, 5), (true, 6), (true, 7), (true, 8)] (by kernel_rfl) (by kernel_rfl) trivial ?_
        simp only [List.map_cons, List.map_nil, List.getD_cons_zero, List.getD_cons_succ, List.drop_succ_cons, List.drop_zero]
        (refine plan_take (v := ?_) rfl ?_ ?_; rotate_left; (intro wS hSw; (try dsimp only at hSw); go_simp; try with_reducible rfl); simp only [Act.put, List.setIfInBounds_toArray, List.set_cons_zero, List.set_cons_succ])
        (refine plan_take (v := ?_) rfl ?_ ?_; rotate_left; (intro wS hSw; (try dsimp only at hSw); go_simp; try with_reducible rfl); simp only [Act.put, List.setIfInBounds_toArray, List.set_cons_zero, List.set_cons_succ])
        (refine plan_take (v := ?_) rfl ?_ ?_; rotate_left; (intro wS hSw; (try dsimp only at hSw); go_simp; try with_reducible rfl); simp only [Act.put, List.setIfInBounds_toArray, List.set_cons_zero, List.set_cons_succ])
        (refine plan_take (v := ?_) rfl ?_ ?_; rotate_left; (intro wS hSw; (try dsimp only at hSw); go_simp; try with_reducible rfl); simp only [Act.put, List.setIfInBounds_toArray, List.set_cons_zero, List.set_cons_succ])
        (refine plan_take (v := ?_) rfl ?_ ?_; rotate_left; (intro wS hSw; (try dsimp only at hSw); go_simp; try with_reducible rfl); simp only [Act.put, List.setIfInBounds_toArray, List.set_cons_zero, List.set_cons_succ])
        (refine plan_take (v := ?_) rfl ?_ ?_; rotate_left; (intro wS hSw; (try dsimp only at hSw); go_simp; try with_reducible rfl); simp only [Act.put, List.setIfInBounds_toArray, List.set_cons_zero, List.set_cons_succ])
        (refine plan_take (v := ?_) rfl ?_ ?_; rotate_left; (intro wS hSw; (try dsimp only at hSw); go_simp; try with_reducible rfl); simp only [Act.put, List.setIfInBounds_toArray, List.set_cons_zero, List.set_cons_succ])
        (refine plan_take (v := ?_) rfl ?_ ?_; rotate_left; (intro wS hSw; (try dsimp only at hSw); go_simp; try with_reducible rfl); simp only [Act.put, List.setIfInBounds_toArray, List.set_cons_zero, List.set_cons_succ])
        (refine plan_take (v := ?_) rfl ?_ ?_; rotate_left; (intro wS hSw; (try dsimp only at hSw); go_simp; try with_reducible rfl); simp only [Act.put, List.setIfInBounds_toArray, List.set_cons_zero, List.set_cons_succ])
        refine plan_nil ?_
        go_wp2_with fail
        refine NoPanic.normal ?_
        go_wp2_with fail
        go_roundg (gk - 1)
        case measure => omega
        case rel => exact ⟨j + 1, by omega, by go_num, by rw [HS.out], below_drewN HB.out 1⟩
      · obtain rfl : j = a.size := by omega
        have HR : Hid ((orX a b a.size == 0) = (decide (a = b))) := by
          show _ = _
          by_cases e : a = b
          · rw [decide_eq_true e, beq_iff_eq]
            exact (orX_zero a b _).2 fun _ _ => by rw [e]
          · rw [decide_eq_false e, beq_eq_false_iff_ne]
            exact fun q => e (ext_gb a b HSZ.out ((orX_zero a b _).1 q))
        have hz := n8_zero (orX a b a.size)
        rw [HR.out] at hz
        go_wp2_with fail
        go_ret
        exact ⟨rfl, HB.out⟩
  · have hne : ((a.size : Int) != (b.size : Int)) = true := by simp; omega
    have HR : Hid ((decide (a = b)) = false) := decide_eq_false fun e => hs (by rw [e])
    go_enter Tryz.func158, Tryz.ntmps158
    go_wp2_with fail
    go_ret
    exact ⟨by rw [HR.out]; rfl, Below.refl _ _⟩

end Go.Proofs.YtimpjlnbbdfehaaGreatDoor
namespace Go.Proofs.YtimpjlnbbdfehaaGreatDoor
open Go.RowKit Go.Shelf Go.Lib Go.Sort
set_option linter.unusedVariables false
attribute [local go_sem ↓] shr_32_1 shl_32_1 shr_32_2 shl_32_2 shr_32_3 shl_32_3 shr_32_4 shl_32_4 shr_32_5 shl_32_5 shr_32_6 shl_32_6 shr_32_7 shl_32_7 shr_32_8 shl_32_8 shr_32_9 shl_32_9 shr_32_10 shl_32_10 shr_32_11 shl_32_11 shr_32_12 shl_32_12 shr_32_13 shl_32_13 shr_32_14 shl_32_14 shr_32_15 shl_32_15 shr_32_16 shl_32_16 shr_32_17 shl_32_17 shr_32_18 shl_32_18 shr_32_19 shl_32_19 shr_32_20 shl_32_20 shr_32_21 shl_32_21 shr_32_22 shl_32_22 shr_32_23 shl_32_23 shr_32_24 shl_32_24 shr_32_25 shl_32_25 shr_32_26 shl_32_26 shr_32_27 shl_32_27 shr_32_28 shl_32_28 shr_32_29 shl_32_29 shr_32_30 shl_32_30 shr_32_31 shl_32_31 shr_64_3 shl_64_3 shr_64_7 shl_64_7 shr_64_8 shl_64_8 shr_64_16 shl_64_16 shr_64_24 shl_64_24 shr_64_32 shl_64_32 shr_64_40 shl_64_40 shr_64_48 shl_64_48 shr_64_56 shl_64_56
attribute [local go_sem] add_u32 add_u64 and_u8 or_u8 xor_u8 and_u32 or_u32 xor_u32 and_u64 or_u64 xor_u64 conv_32_8 conv_64_8 conv_64_32 conv_8_32 conv_8_64 conv_32_64

theorem OwnB.of_blk {w : World} {B g : Nat} {l : List UInt8} (h : Blk w g 5 (bv l).toArray) (hB : B ≤ g) : OwnB w B (.slice (some ⟨g, 0, none⟩) l.length l.length) l := by
  refine .inr ⟨g, 0, l.length, rfl, hB, h.lt, Nat.le_refl _, fun j u hj => ?_, fun j hj => ?_⟩
  · rw [Nat.zero_add, h.cell, ← Array.getElem?_toList]; exact hj
  · rw [Nat.zero_add, h.cell, h.frozen]
    refine ⟨?_, rfl⟩
    rw [← Array.getElem?_toList]
    show ((bv l)[j]?).isSome = true
    rw [bv_get l j hj]; rfl
theorem wpList_copy_row_string {w : World} {ops : Array Oper} {rest : List Oper} {o : Oper} {a : Act} {Q : Exit → Act → World → Prop} (hgd : o.guard = none) (d x : Operand)
    (ho : o.op = .call { callee := .builtin .copy, args := #[d, x], argTypes := #[57, 9] }) (g dLen dCap : Nat) (s : ByteArray) (cur : Array Value) (hd : a.eval d = .slice (some ⟨g, 0, none⟩) dLen dCap) (hx : a.eval x = .string s)
    (hg : Blk w g 5 cur) (hle : s.size ≤ dLen) (hfit : s.size ≤ cur.size)
    (hK : wpList Tryz.prog ops Q rest (a.put o.dst (goInt s.size)) (w.setRow g (byteCells s.data.toList ++ cur.toList.drop s.size).toArray)) : wpList Tryz.prog ops Q (o :: rest) a w := by
  have hrun := run_copy_row_string (P := Tryz.prog) w 57 9 o.type 5 g 0 dLen dCap s cur 5 Tryz.underlying57 (by kernel_rfl) hg hle (by omega)
  rw [List.take_zero, List.nil_append, Nat.zero_add] at hrun
  refine wpList_plain hgd fun K hK' => ?_
  unfold Oper.wp execOp
  simp only [ho, resolve, invoke, builtin, Sem.run_bind, Sem.run_pure, Result.andThen_ok, List.map_toArray, List.map_cons, List.map_nil, hd, hx, hrun]
  exact hK' _ _ hK
def padL (key : ByteArray) (x : UInt8) (n : Nat) : List UInt8 := (List.range 64).map fun i => if i < n then gb key i ^^^ x else gb key i
theorem padL_len (key : ByteArray) (x : UInt8) (n : Nat) : (padL key x n).length = 64 := by simp [padL]
theorem padL_get (key : ByteArray) (x : UInt8) (n : Nat) (h : n < 64) : (padL key x n)[n]'(by rw [padL_len]; exact h) = gb key n := by simp [padL]
theorem padL_set (key : ByteArray) (x : UInt8) (n : Nat) (h : n < 64) : (padL key x n).set n (gb key n ^^^ x) = padL key x (n + 1) := by
  apply List.ext_getElem
  · simp [padL]
  · intro i h1 h2
    rw [List.getElem_set]
    simp only [padL, List.getElem_map, List.getElem_range]
    by_cases e : n = i
    · subst e; simp
    · rw [if_neg e]
      by_cases e2 : i < n
      · rw [if_pos e2, if_pos (by omega)]
      · rw [if_neg e2, if_neg (by omega)]
def padB (key : ByteArray) (x : UInt8) : ByteArray := ⟨(padL key x 64).toArray⟩
theorem pad_cells (key : ByteArray) (x : UInt8) (hk : key.size ≤ 64) : byteCells key.data.toList ++ (madeCells #[.int .u8 0] 64).toList.drop key.size = bv (padL key x 0) := by
  apply List.ext_getElem
  · simp [byteCells, size_madeCells, bv, padL]; omega
  · intro i h1 h2
    have hi : i < 64 := by simpa [bv, padL] using h2
    have e2 : (bv (padL key x 0))[i] = .int .u8 (n8 (gb key i)) := by
      simp [bv, padL]
    refine Eq.trans ?_ e2.symm
    by_cases h : i < key.size
    · rw [List.getElem_append_left (by simpa [byteCells] using h)]
      simp only [byteCells, List.getElem_map]
      rw [gb_at]; rfl
    · rw [List.getElem_append_right (by simpa [byteCells] using h), getD_size key i (by omega)]
      simp [madeCells, byteCells, Nat.mod_one]
      rfl
set_option maxHeartbeats 2000000 in
set_option maxRecDepth 100000 in
theorem padded_ok (key : ByteArray) (x : UInt8) (hk : key.size ≤ 64) (w : World) :
    Calls Tryz.prog 213 #[.string key, .int .u8 (n8 x)] w fun e w' => e = .returned (.string (padB key x)) ∧ Below w.heap.size w w' := by
  obtain ⟨i5, hi5, hz0, hz1, hz2⟩ := info_parts info5
  have hd : decide (64 < (key.size : Int)) = false := by simp; omega
  have HC := Lib.hid (pad_cells key x hk)
  have HM : Hid (Blk (w.alloc (.cells (madeCells #[.int .u8 0] 64) 5)) w.heap.size 5 (madeCells #[.int .u8 0] 64)) := Blk.new _ _ _
  have HR : Hid (padB key x = ⟨(padL key x 64).toArray⟩) := rfl
  have HK := Lib.hid hk
  clear hk
  have HMS : Hid ((madeCells #[.int .u8 0] 64).size = 64) := size_madeCells _ _
  go_enter Tryz.func213, Tryz.ntmps213
  go_wp2_with (first
    | (refine wpList_make_row _ rfl (.const (.int .i64 64)) (.const (.int .i64 64)) 57 rfl 5 i5 (.int .u8 0) Tryz.underlying57 hi5 hz0 hz1 rfl .i64 .i64 64 (by rfl) (by rfl) (by rw [hz2]; decide) (by decide) ?_)
    | (refine wpList_copy_row_string rfl (.tmp 13) (.tmp 14) rfl w.heap.size 64 64 key _ (by rfl) (by rfl) HM.out HK.out (by rw [HMS.out]; exact HK.out) ?_))
  have HB0 : Hid (Blk ((w.alloc (.cells (madeCells #[.int .u8 0] 64) 5)).setRow w.heap.size (bv (padL key x 0)).toArray) w.heap.size 5 (bv (padL key x 0)).toArray) := HM.out.row _
  have HB1 : Hid (Below w.heap.size w ((w.alloc (.cells (madeCells #[.int .u8 0] 64) 5)).setRow w.heap.size (bv (padL key x 0)).toArray)) := below_setRow ((Below.refl _ _).alloc (Nat.le_refl _) _) (Nat.le_refl _) _
  rw [HC.out]
  clear HM HMS HC
  generalize (w.alloc (.cells (madeCells #[.int .u8 0] 64) 5)).setRow w.heap.size (bv (padL key x 0)).toArray = w1 at *
  go_wp2_with fail
  go_loopg [18] (64 : Nat) (fun q i wr => ∃ (j : Nat), q + j = 64 ∧ i = .int .i64 (j : Int) ∧ Blk wr w.heap.size 5 (bv (padL key x j)).toArray ∧ Below w.heap.size w wr)
  case atStart => exact ⟨0, rfl, rfl, HB0.out, HB1.out⟩
  case round =>
    obtain ⟨j, hj, rfl, hg, hb⟩ := hrel
    have HG := Lib.hid hg
    have HB := Lib.hid hb
    clear hg hb HB0 HB1
    by_cases hlt : j < 64
    · have c1 : wr.cell? ⟨w.heap.size, j, none⟩ = some (.int .u8 (n8 (gb key j))) := by
        rw [HG.out.cell, ← Array.getElem?_toList]
        show (bv (padL key x j))[j]? = _
        rw [bv_get _ j (by rw [padL_len]; exact hlt), padL_get key x j hlt]
      have c2 := HG.out.frozen j
      have HS : Hid (Blk (wr.setCell ⟨w.heap.size, j, none⟩ (.int .u8 (n8 (gb key j ^^^ x)))) w.heap.size 5 (bv (padL key x (j + 1))).toArray) := by
        have := HG.out.set_ j (.int .u8 (n8 (gb key j ^^^ x)))
        rw [show (bv (padL key x j)).toArray.setIfInBounds j (.int .u8 (n8 (gb key j ^^^ x))) = (bv (padL key x (j + 1))).toArray by rw [← padL_set key x j hlt]; unfold bv; simp [List.map_set, n8]] at this
        exact this
      generalize gb key j = y at *
      go_wp2_with fail
      go_roundg (gk - 1)
      case measure => omega
      case rel => exact ⟨j + 1, by omega, by go_num, HS.out, HB.out.setCell (p := ⟨w.heap.size, j, none⟩) (Nat.le_refl _) _⟩
    · obtain rfl : j = 64 := by omega
      have ho := OwnB.of_blk HG.out (Nat.le_refl _)
      have hcv := conv_ob ho
      rw [padL_len] at hcv
      clear ho
      go_wp2_with fail
      go_ret
      exact ⟨by rw [HR.out]; rfl, HB.out⟩

end Go.Proofs.YtimpjlnbbdfehaaGreatDoor
namespace Go.Proofs.YtimpjlnbbdfehaaGreatDoor
open Go.RowKit Go.Shelf Go.Lib Go.Sort
set_option linter.unusedVariables false
attribute [local go_sem ↓] shr_32_1 shl_32_1 shr_32_2 shl_32_2 shr_32_3 shl_32_3 shr_32_4 shl_32_4 shr_32_5 shl_32_5 shr_32_6 shl_32_6 shr_32_7 shl_32_7 shr_32_8 shl_32_8 shr_32_9 shl_32_9 shr_32_10 shl_32_10 shr_32_11 shl_32_11 shr_32_12 shl_32_12 shr_32_13 shl_32_13 shr_32_14 shl_32_14 shr_32_15 shl_32_15 shr_32_16 shl_32_16 shr_32_17 shl_32_17 shr_32_18 shl_32_18 shr_32_19 shl_32_19 shr_32_20 shl_32_20 shr_32_21 shl_32_21 shr_32_22 shl_32_22 shr_32_23 shl_32_23 shr_32_24 shl_32_24 shr_32_25 shl_32_25 shr_32_26 shl_32_26 shr_32_27 shl_32_27 shr_32_28 shl_32_28 shr_32_29 shl_32_29 shr_32_30 shl_32_30 shr_32_31 shl_32_31 shr_64_3 shl_64_3 shr_64_7 shl_64_7 shr_64_8 shl_64_8 shr_64_16 shl_64_16 shr_64_24 shl_64_24 shr_64_32 shl_64_32 shr_64_40 shl_64_40 shr_64_48 shl_64_48 shr_64_56 shl_64_56
attribute [local go_sem] add_u32 add_u64 and_u8 or_u8 xor_u8 and_u32 or_u32 xor_u32 and_u64 or_u64 xor_u64 conv_32_8 conv_64_8 conv_64_32 conv_8_32 conv_8_64 conv_32_64

theorem join2_data (a b : ByteArray) : (⟨(Lib.join ([a, b].map (·.data.toList)) (⟨#[]⟩ : ByteArray).data.toList).toArray⟩ : ByteArray) = a ++ b := by
  apply ByteArray.ext
  simp [Lib.join, List.intercalate, List.intersperse]
theorem size_app (a b : ByteArray) : (a ++ b).size = a.size + b.size := ByteArray.size_append
theorem join2_ok (g : Nat) (a b : ByteArray) (w : World) (hg : Blk w g 9 #[.string a, .string b]) (hs : a.size + b.size ≤ 1000000) :
    Calls Tryz.prog 223 #[.slice (some ⟨g, 0, none⟩) 2 2, .string ⟨#[]⟩] w fun e w' => e = .returned (.string (a ++ b)) ∧ Below w.heap.size w w' := by
  have h := Tryz.strings_Join g 0 2 [a, b] ⟨#[]⟩ w (fun j x hj => by
    rw [Nat.zero_add, hg.cell]
    rcases j with _ | _ | j
    · simp at hj; subst hj; rfl
    · simp at hj; subst hj; rfl
    · simp at hj) hg.lt (by simp) (by simp) (by
    have e := congrArg ByteArray.size (join2_data a b)
    rw [size_app] at e
    have e2 : (⟨(Lib.join ([a, b].map (·.data.toList)) (⟨#[]⟩ : ByteArray).data.toList).toArray⟩ : ByteArray).size = (Lib.join ([a, b].map (·.data.toList)) (⟨#[]⟩ : ByteArray).data.toList).length := by
      show (List.toArray _).size = _
      rw [List.size_toArray]
    omega)
  rw [join2_data] at h
  exact h
set_option maxRecDepth 100000 in
theorem hsum_ok (g : Nat) (a b : ByteArray) (w : World) (hg : Blk w g 9 #[.string a, .string b]) (hs : a.size + b.size ≤ 1000000) (hT : Salts w) :
    Calls Tryz.prog 212 #[.slice (some ⟨g, 0, none⟩) 2 2] w fun e w' => e = .returned (.string (sumB (a ++ b))) ∧ Below w.heap.size w w' := by
  have HJ := Lib.hid (join2_ok g a b w hg hs)
  have HS := Lib.hid (fun w => Sum_ok (a ++ b) (by rw [size_app]; exact hs) w)
  have HT := Lib.hid hT
  clear hg hs hT
  generalize a ++ b = c at *
  go_enter Tryz.func212, Tryz.ntmps212
  go_wp2_with fail
  refine HJ.out.mono ?_
  rintro e w1 ⟨rfl, hb⟩
  have HB := Lib.hid hb
  clear hb
  go_wp2_with fail
  refine (HS.out _ (HT.out.below HB.out)).mono ?_
  rintro e w2 ⟨rfl, hb⟩
  have HB2 := Lib.hid hb
  clear hb
  go_wp2_with fail
  go_ret
  exact ⟨rfl, HB.out.trans (HB2.out.mono HB.out.size)⟩
theorem padB_size (key : ByteArray) (x : UInt8) : (padB key x).size = 64 := by
  show (padL key x 64).toArray.size = 64
  rw [List.size_toArray, padL_len]
/-- A key's tag of a text. -/
def tagB (key s : ByteArray) : ByteArray := sumB (padB key 92 ++ sumB (padB key 54 ++ s))
theorem tagB_size (key s : ByteArray) : (tagB key s).size = 32 := sumB_size _
set_option maxRecDepth 100000 in
theorem tag_ok (key s : ByteArray) (hk : key.size ≤ 64) (hs : s.size ≤ 900000) (w : World) (hT : Salts w) :
    Calls Tryz.prog 189 #[.string key, .string s] w fun e w' => e = .returned (.string (tagB key s)) ∧ Below w.heap.size w w' := by
  have HP1 := Lib.hid (fun w => padded_ok key 92 hk w)
  have HP2 := Lib.hid (fun w => padded_ok key 54 hk w)
  have HT := Lib.hid hT
  have HS1 := Lib.hid (fun g w hg hT => hsum_ok g (padB key 54) s w hg (by rw [padB_size]; omega) hT)
  have HS2 := Lib.hid (fun g w hg hT => hsum_ok g (padB key 92) (sumB (padB key 54 ++ s)) w hg (by rw [padB_size, sumB_size]; omega) hT)
  have HR : Hid (tagB key s = sumB (padB key 92 ++ sumB (padB key 54 ++ s))) := rfl
  clear hk hs hT
  rw [← HR.out] at HS2
  generalize tagB key s = RES at *
  generalize sumB (padB key 54 ++ s) = inner at *
  generalize padB key 92 = p1 at *
  generalize padB key 54 = p2 at *
  go_enter Tryz.func189, Tryz.ntmps189
  go_wp2_with fail
  refine (HP1.out _).mono ?_
  rintro e w1 ⟨rfl, hb⟩
  have HB1 := Lib.hid hb
  clear hb
  go_wp2_with fail
  refine (HP2.out _).mono ?_
  rintro e w2 ⟨rfl, hb⟩
  have HB2 := Lib.hid (HB1.out.trans (hb.mono HB1.out.size))
  clear hb HB1
  go_wp2_with fail
  refine (HS1.out _ _ (Blk.new _ _ _) (HT.out.below (HB2.out.alloc HB2.out.size _))).mono ?_
  rintro e w3 ⟨rfl, hb⟩
  have HB3 := Lib.hid ((HB2.out.alloc HB2.out.size _).trans (hb.mono (HB2.out.alloc HB2.out.size _).size))
  clear hb HB2
  go_wp2_with fail
  refine (HS2.out _ _ (Blk.new _ _ _) (HT.out.below (HB3.out.alloc HB3.out.size _))).mono ?_
  rintro e w4 ⟨rfl, hb⟩
  have HB4 := Lib.hid ((HB3.out.alloc HB3.out.size _).trans (hb.mono (HB3.out.alloc HB3.out.size _).size))
  clear hb HB3
  go_wp2_with fail
  go_ret
  exact ⟨rfl, HB4.out⟩
set_option maxRecDepth 100000 in
theorem extract_ok (salt s : ByteArray) (hk : salt.size ≤ 64) (hs : s.size ≤ 900000) (w : World) (hT : Salts w) :
    Calls Tryz.prog 154 #[.string salt, .string s] w fun e w' => e = .returned (.string (tagB salt s)) ∧ Below w.heap.size w w' := by
  have HG := Lib.hid (tag_ok salt s hk hs w hT)
  clear hk hs hT
  generalize tagB salt s = RES at *
  go_enter Tryz.func154, Tryz.ntmps154
  go_wp2_with fail
  refine HG.out.mono ?_
  rintro e w1 ⟨rfl, hb⟩
  have HB1 := Lib.hid hb
  clear hb
  go_wp2_with fail
  go_ret
  exact ⟨rfl, HB1.out⟩

end Go.Proofs.YtimpjlnbbdfehaaGreatDoor
namespace Go.Proofs.YtimpjlnbbdfehaaGreatDoor
open Go.RowKit Go.Shelf Go.Lib Go.Sort
set_option linter.unusedVariables false
attribute [local go_sem ↓] shr_32_1 shl_32_1 shr_32_2 shl_32_2 shr_32_3 shl_32_3 shr_32_4 shl_32_4 shr_32_5 shl_32_5 shr_32_6 shl_32_6 shr_32_7 shl_32_7 shr_32_8 shl_32_8 shr_32_9 shl_32_9 shr_32_10 shl_32_10 shr_32_11 shl_32_11 shr_32_12 shl_32_12 shr_32_13 shl_32_13 shr_32_14 shl_32_14 shr_32_15 shl_32_15 shr_32_16 shl_32_16 shr_32_17 shl_32_17 shr_32_18 shl_32_18 shr_32_19 shl_32_19 shr_32_20 shl_32_20 shr_32_21 shl_32_21 shr_32_22 shl_32_22 shr_32_23 shl_32_23 shr_32_24 shl_32_24 shr_32_25 shl_32_25 shr_32_26 shl_32_26 shr_32_27 shl_32_27 shr_32_28 shl_32_28 shr_32_29 shl_32_29 shr_32_30 shl_32_30 shr_32_31 shl_32_31 shr_64_3 shl_64_3 shr_64_7 shl_64_7 shr_64_8 shl_64_8 shr_64_16 shl_64_16 shr_64_24 shl_64_24 shr_64_32 shl_64_32 shr_64_40 shl_64_40 shr_64_48 shl_64_48 shr_64_56 shl_64_56
attribute [local go_sem] add_u32 add_u64 and_u8 or_u8 xor_u8 and_u32 or_u32 xor_u32 and_u64 or_u64 xor_u64 conv_32_8 conv_64_8 conv_64_32 conv_8_32 conv_8_64 conv_32_64

def lastE (key pu : ByteArray) : Nat → ByteArray
  | 0 => ⟨#[]⟩
  | j + 1 => tagB key (lastE key pu j ++ pu ++ ⟨#[UInt8.ofNat (j + 1)]⟩)
def outE (key pu : ByteArray) : Nat → ByteArray
  | 0 => ⟨#[]⟩
  | j + 1 => outE key pu j ++ lastE key pu (j + 1)
theorem outE_size (key pu : ByteArray) : ∀ j, (outE key pu j).size = 32 * j
  | 0 => rfl
  | j + 1 => by rw [outE, size_app, outE_size key pu j, lastE, tagB_size]; omega
theorem lastE_size (key pu : ByteArray) : ∀ j, (lastE key pu j).size ≤ 32
  | 0 => by show 0 ≤ 32; omega
  | j + 1 => by rw [lastE, tagB_size]; omega
theorem size_one (x : UInt8) : (⟨#[x]⟩ : ByteArray).size = 1 := rfl
theorem conv_one (x : UInt8) (w : World) : (convert 57 9 (.slice (some ⟨w.heap.size, 0, none⟩) 1 1)).run Tryz.prog (w.alloc (.cells #[.int .u8 (n8 x)] 5)) = .ok (.string ⟨#[x]⟩) (w.alloc (.cells #[.int .u8 (n8 x)] 5)) :=
  conv_cells [x] (fresh_bytes w [x])
theorem slice_to (s : ByteArray) (j : Int) (b : Nat) (hj : j = (b : Int)) (hb : b ≤ s.size) (w : World) : (Instr.slice 9 (.string s) none (some (.int .i64 j)) none).run Tryz.prog w = .ok (.string (s.extract 0 b)) w := by
  subst hj
  rw [run_slice_string_to_if w 9 s .i64 b Tryz.underlying9, if_pos (by omega)]
  rfl
/-- Sixty-four bytes of a key, for a purpose. -/
def expB (key pu : ByteArray) : ByteArray := outE key pu 2
set_option maxHeartbeats 1000000 in
set_option maxRecDepth 100000 in
theorem expand_ok (key pu : ByteArray) (hk : key.size ≤ 64) (hp : pu.size ≤ 1000) (w : World) (hT : Salts w) :
    Calls Tryz.prog 153 #[.string key, .string pu, .int .i64 64] w fun e w' => e = .returned (.tuple #[.string (expB key pu), .int .i64 0]) ∧ Below w.heap.size w w' := by
  have HT := Lib.hid hT
  have HTAG := Lib.hid (fun s hs w hT => tag_ok key s hk hs w hT)
  have HP := Lib.hid hp
  have HR : Hid (expB key pu = outE key pu 2) := rfl
  clear hk hT hp
  go_enter Tryz.func153, Tryz.ntmps153
  go_wp2_with fail
  go_loopg [10, 9, 8] (2 : Nat) (fun q i la v wr => ∃ (j : Nat), q + j = 2 ∧ i = .int .u8 ((j + 1 : Nat) : Int) ∧ la = .string (lastE key pu j) ∧ v = .string (outE key pu j) ∧ Below w.heap.size w wr)
  case atStart => exact ⟨0, rfl, rfl, rfl, rfl, Below.refl _ _⟩
  case round =>
    obtain ⟨j, hj, rfl, rfl, rfl, hb⟩ := hrel
    have HB := Lib.hid hb
    clear hb
    have hos := outE_size key pu j
    by_cases hlt : j < 2
    · have hd : 32 * (j : Int) < 64 := by omega
      have hz0 : ¬ 9223372036854775807 < (lastE key pu j).size + pu.size := by have := lastE_size key pu j; have := HP.out; omega
      have hz1 : ¬ 9223372036854775807 < (lastE key pu j).size + pu.size + (⟨#[UInt8.ofNat (j + 1)]⟩ : ByteArray).size := by rw [size_one]; have := lastE_size key pu j; have := HP.out; omega
      have hz2 : ¬ 9223372036854775807 < 32 * j + (lastE key pu (j + 1)).size := by have := lastE_size key pu (j + 1); omega
      have h8 : n8 (UInt8.ofNat (j + 1)) = ((j + 1 : Nat) : Int) := by
        unfold n8
        rw [UInt8.toNat_ofNat_of_lt' (by simp [UInt8.size]; omega)]
      have hcv := fun w => conv_one (UInt8.ofNat (j + 1)) w
      rw [h8] at hcv
      have HS1 : Hid (lastE key pu (j + 1) = tagB key (lastE key pu j ++ pu ++ ⟨#[UInt8.ofNat (j + 1)]⟩)) := rfl
      have HS2 : Hid (outE key pu (j + 1) = outE key pu j ++ lastE key pu (j + 1)) := rfl
      have HT1 := Lib.hid (fun w hT => HTAG.out (lastE key pu j ++ pu ++ ⟨#[UInt8.ofNat (j + 1)]⟩) (by rw [size_app, size_app, size_one]; have := lastE_size key pu j; have := HP.out; omega) w hT)
      rw [← HS1.out] at HT1
      have hwr : IntKind.u8.wrap (((j + 1 : Nat) : Int) + 1) = ((j + 1 + 1 : Nat) : Int) := by rw [wrap_u8]; omega
      generalize ((j + 1 : Nat) : Int) = J at *
      generalize (⟨#[UInt8.ofNat (j + 1)]⟩ : ByteArray) = c at *
      generalize hL : lastE key pu (j + 1) = t at *
      have HLt := Lib.hid hL
      clear hL
      generalize lastE key pu j = la at *
      generalize outE key pu j = ov at *
      go_wp2_with fail
      refine (HT1.out _ (HT.out.below (HB.out.alloc HB.out.size _))).mono ?_
      rintro e w2 ⟨rfl, hb⟩
      have HB2 := Lib.hid ((HB.out.alloc HB.out.size _).trans (hb.mono (HB.out.alloc HB.out.size _).size))
      clear hb
      go_wp2_with fail
      go_roundg (gk - 1)
      case measure => omega
      case rel => exact ⟨j + 1, by omega, rfl, by rw [HLt.out], by rw [HS2.out], HB2.out⟩
    · obtain rfl : j = 2 := by omega
      have hd : ¬ 32 * ((2 : Nat) : Int) < 64 := by omega
      have hsl := fun w => slice_to (outE key pu 2) 64 64 rfl (by rw [hos]; omega) w
      have hx : (outE key pu 2).extract 0 64 = outE key pu 2 := by
        rw [show 64 = (outE key pu 2).size by rw [hos]]
        exact ByteArray.extract_zero_size
      rw [hx] at hsl
      generalize outE key pu 2 = ov at *
      go_wp2_with fail
      go_ret2
      exact ⟨by rw [HR.out]; rfl, HB.out⟩

end Go.Proofs.YtimpjlnbbdfehaaGreatDoor
namespace Go.Proofs.YtimpjlnbbdfehaaGreatDoor
open Go.RowKit Go.Shelf Go.Lib Go.Sort
set_option linter.unusedVariables false
attribute [local go_sem ↓] shr_32_1 shl_32_1 shr_32_2 shl_32_2 shr_32_3 shl_32_3 shr_32_4 shl_32_4 shr_32_5 shl_32_5 shr_32_6 shl_32_6 shr_32_7 shl_32_7 shr_32_8 shl_32_8 shr_32_9 shl_32_9 shr_32_10 shl_32_10 shr_32_11 shl_32_11 shr_32_12 shl_32_12 shr_32_13 shl_32_13 shr_32_14 shl_32_14 shr_32_15 shl_32_15 shr_32_16 shl_32_16 shr_32_17 shl_32_17 shr_32_18 shl_32_18 shr_32_19 shl_32_19 shr_32_20 shl_32_20 shr_32_21 shl_32_21 shr_32_22 shl_32_22 shr_32_23 shl_32_23 shr_32_24 shl_32_24 shr_32_25 shl_32_25 shr_32_26 shl_32_26 shr_32_27 shl_32_27 shr_32_28 shl_32_28 shr_32_29 shl_32_29 shr_32_30 shl_32_30 shr_32_31 shl_32_31 shr_64_3 shl_64_3 shr_64_7 shl_64_7 shr_64_8 shl_64_8 shr_64_16 shl_64_16 shr_64_24 shl_64_24 shr_64_32 shl_64_32 shr_64_40 shl_64_40 shr_64_48 shl_64_48 shr_64_56 shl_64_56
attribute [local go_sem] add_u32 add_u64 and_u8 or_u8 xor_u8 and_u32 or_u32 xor_u32 and_u64 or_u64 xor_u64 conv_32_8 conv_64_8 conv_64_32 conv_8_32 conv_8_64 conv_32_64

theorem info194 : (Tryz.prog.info? 194).map (·.size) = some 2 := by kernel_rfl
def nameB : ByteArray := ⟨#[108, 111, 100, 101, 115, 116, 111, 110, 101]⟩
def epochB : ByteArray := ⟨#[101, 112, 111, 99, 104]⟩
/-- Sixty-four bytes of a master's key and an epoch. -/
def keysB (m : ByteArray) (e : UInt32) : ByteArray := expB (tagB nameB m) (epochB ++ be4 e)
theorem keysB_size (m : ByteArray) (e : UInt32) : (keysB m e).size = 64 := outE_size _ _ 2
def keyB (m : ByteArray) (e : UInt32) : ByteArray := (keysB m e).extract 0 32
def macB (m : ByteArray) (e : UInt32) : ByteArray := (keysB m e).extract 32 (keysB m e).size
theorem keyB_size (m : ByteArray) (e : UInt32) : (keyB m e).size = 32 := by unfold keyB; rw [ByteArray.size_extract, keysB_size]; rfl
theorem macB_size (m : ByteArray) (e : UInt32) : (macB m e).size = 32 := by unfold macB; rw [ByteArray.size_extract, keysB_size]; rfl
def keysV (m : ByteArray) (e : UInt32) : Array Value := #[.string (keyB m e), .string (macB m e)]
set_option maxHeartbeats 1000000 in
set_option maxRecDepth 100000 in
theorem keys_ok (m : ByteArray) (e : UInt32) (hm : m.size ≤ 900000) (w : World) (hT : Salts w) :
    Calls Tryz.prog 111 #[.string m, .int .u32 (n32 e)] w fun x w' => x = .returned (.agg (keysV m e)) ∧ Below w.heap.size w w' := by
  have HX := Lib.hid (fun w hT => extract_ok nameB m (by show 9 ≤ 64; omega) hm w hT)
  have HS := Lib.hid (fun w => small_ok e w)
  have hcat : ¬ 9223372036854775807 < 5 + (be4 e).size := by rw [be4_size]; omega
  have HE := Lib.hid (fun w hT => expand_ok (tagB nameB m) (epochB ++ be4 e) (by rw [tagB_size]; omega) (by rw [size_app, be4_size]; show 5 + 4 ≤ 1000; omega) w hT)
  have HKB : Hid (keysB m e = expB (tagB nameB m) (epochB ++ be4 e)) := rfl
  rw [← HKB.out] at HE
  have HV : Hid (keysV m e = #[.string ((keysB m e).extract 0 32), .string ((keysB m e).extract 32 64)]) := by show _ = _; unfold keysV keyB macB; rw [keysB_size]
  have hsz := keysB_size m e
  have HT := Lib.hid hT
  have HEP : Hid (epochB = ⟨#[101, 112, 111, 99, 104]⟩) := rfl
  have HNB : Hid (nameB = ⟨#[108, 111, 100, 101, 115, 116, 111, 110, 101]⟩) := rfl
  have HA0 : Hid (Blk (w.alloc (.cells #[.string ⟨#[]⟩, .string ⟨#[]⟩] 194)) w.heap.size 194 #[.string ⟨#[]⟩, .string ⟨#[]⟩]) := Blk.new w 194 _
  have HB0 : Hid (Below w.heap.size w (w.alloc (.cells #[.string ⟨#[]⟩, .string ⟨#[]⟩] 194))) := (Below.refl _ _).alloc (Nat.le_refl _) _
  clear hm hT
  generalize keysV m e = RES at *
  generalize keysB m e = kb at *
  generalize tagB nameB m = prk at *
  rw [HNB.out] at HX
  rw [HEP.out] at HE
  go_enter Tryz.func111, Tryz.ntmps111
  go_wp2_with fail
  refine (HX.out _ (HT.out.below HB0.out)).mono ?_
  rintro e w1 ⟨rfl, hb⟩
  have HB1 := Lib.hid (HB0.out.trans (hb.mono HB0.out.size))
  have HA1 : Hid (Blk w1 w.heap.size 194 #[.string ⟨#[]⟩, .string ⟨#[]⟩]) := (hb.block _ HA0.out.lt).trans HA0.out
  clear hb HB0 HA0
  go_wp2_with fail
  refine (HS.out _).mono ?_
  rintro e w2 ⟨rfl, hb⟩
  have HB2 := Lib.hid (HB1.out.trans (hb.mono HB1.out.size))
  have HA2 : Hid (Blk w2 w.heap.size 194 #[.string ⟨#[]⟩, .string ⟨#[]⟩]) := (hb.block _ HA1.out.lt).trans HA1.out
  clear hb HB1 HA1
  go_wp2_with fail
  refine (HE.out _ (HT.out.below HB2.out)).mono ?_
  rintro e w3 ⟨rfl, hb⟩
  have HB3 := Lib.hid (HB2.out.trans (hb.mono HB2.out.size))
  have HA3 : Hid (Blk w3 w.heap.size 194 #[.string ⟨#[]⟩, .string ⟨#[]⟩]) := (hb.block _ HA2.out.lt).trans HA2.out
  clear hb HB2 HA2 HE
  go_wp2_with fail
  refine wp_region_plan (fun w' => True) 5 [(true, 0), (true, 1), (true, 2), (true, 3), (true, 4)] (by kernel_rfl) (by kernel_rfl) trivial ?_
  simp only [List.map_cons, List.map_nil, List.getD_cons_zero, List.getD_cons_succ, List.drop_succ_cons, List.drop_zero]
  (refine plan_take (v := ?_) rfl ?_ ?_; rotate_left; (intro wS hSw; (try dsimp only at hSw); go_simp; try with_reducible rfl); simp only [Act.put, List.setIfInBounds_toArray, List.set_cons_zero, List.set_cons_succ])
  (refine plan_take (v := ?_) rfl ?_ ?_; rotate_left; (intro wS hSw; (try dsimp only at hSw); go_simp; try with_reducible rfl); simp only [Act.put, List.setIfInBounds_toArray, List.set_cons_zero, List.set_cons_succ])
  (refine plan_take (v := ?_) rfl ?_ ?_; rotate_left; (intro wS hSw; (try dsimp only at hSw); go_simp; try with_reducible rfl); simp only [Act.put, List.setIfInBounds_toArray, List.set_cons_zero, List.set_cons_succ])
  (refine plan_take (v := ?_) rfl ?_ ?_; rotate_left; (intro wS hSw; (try dsimp only at hSw); go_simp; try with_reducible rfl); simp only [Act.put, List.setIfInBounds_toArray, List.set_cons_zero, List.set_cons_succ])
  (refine plan_take (v := ?_) rfl ?_ ?_; rotate_left; (intro wS hSw; (try dsimp only at hSw); go_simp; try with_reducible rfl); simp only [Act.put, List.setIfInBounds_toArray, List.set_cons_zero, List.set_cons_succ])
  refine plan_nil ?_
  go_wp2_with (refine wpList_store_row rfl 194 (.tmp 4) (.tmp 20) (by rfl) w.heap.size RES (by rfl) (by rw [HV.out]; rfl) 194 _ (HA3.out.drewN 1) (by rw [HV.out]; exact info194) (by rw [HV.out]; rfl) (by rw [HV.out]; simp [Value.oneCell']) ?_)
  refine NoPanic.normal ?_
  go_wp2_with fail
  refine bodyPost_ret (results_cell_row (fn := Tryz.f111) rfl _ _ w.heap.size 194 RES (0, 0) _ (by rfl) (HA3.out.row RES) Tryz.underlying194 rfl (by rw [HV.out]; exact info194)) rfl ?_
  exact ⟨rfl, below_setRow (below_drewN HB3.out 1) (Nat.le_refl _) _⟩

end Go.Proofs.YtimpjlnbbdfehaaGreatDoor
namespace Go.Proofs.YtimpjlnbbdfehaaGreatDoor
open Go.RowKit Go.Shelf Go.Lib Go.Sort
set_option linter.unusedVariables false
attribute [local go_sem ↓] shr_32_1 shl_32_1 shr_32_2 shl_32_2 shr_32_3 shl_32_3 shr_32_4 shl_32_4 shr_32_5 shl_32_5 shr_32_6 shl_32_6 shr_32_7 shl_32_7 shr_32_8 shl_32_8 shr_32_9 shl_32_9 shr_32_10 shl_32_10 shr_32_11 shl_32_11 shr_32_12 shl_32_12 shr_32_13 shl_32_13 shr_32_14 shl_32_14 shr_32_15 shl_32_15 shr_32_16 shl_32_16 shr_32_17 shl_32_17 shr_32_18 shl_32_18 shr_32_19 shl_32_19 shr_32_20 shl_32_20 shr_32_21 shl_32_21 shr_32_22 shl_32_22 shr_32_23 shl_32_23 shr_32_24 shl_32_24 shr_32_25 shl_32_25 shr_32_26 shl_32_26 shr_32_27 shl_32_27 shr_32_28 shl_32_28 shr_32_29 shl_32_29 shr_32_30 shl_32_30 shr_32_31 shl_32_31 shr_64_3 shl_64_3 shr_64_7 shl_64_7 shr_64_8 shl_64_8 shr_64_16 shl_64_16 shr_64_24 shl_64_24 shr_64_32 shl_64_32 shr_64_40 shl_64_40 shr_64_48 shl_64_48 shr_64_56 shl_64_56
attribute [local go_sem] add_u32 add_u64 and_u8 or_u8 xor_u8 and_u32 or_u32 xor_u32 and_u64 or_u64 xor_u64 conv_32_8 conv_64_8 conv_64_32 conv_8_32 conv_8_64 conv_32_64

def pl32 (i : Int) : UInt32 := UInt32.ofNat (i % 4294967296).toNat
theorem wrap_pl (i : Int) : IntKind.u32.wrap i = n32 (pl32 i) := by
  unfold pl32 n32
  rw [wrap_u32, UInt32.toNat_ofNat_of_lt' (by simp [UInt32.size]; omega)]
  omega
/-- A tag under a place and a nonce. -/
def sealT (mac : ByteArray) (place : Int) (nonce s : ByteArray) : ByteArray := tagB mac (be4 (pl32 place) ++ nonce ++ s)
theorem sealT_size (mac : ByteArray) (place : Int) (nonce s : ByteArray) : (sealT mac place nonce s).size = 32 := tagB_size _ _
set_option maxHeartbeats 1000000 in
set_option maxRecDepth 100000 in
theorem stag_ok (k mac nonce s : ByteArray) (place : Int) (hm : mac.size ≤ 64) (hn : nonce.size ≤ 100) (hs : s.size ≤ 800000) (w : World) (hT : Salts w) :
    Calls Tryz.prog 152 #[.agg #[.string k, .string mac], .int .i64 place, .string nonce, .string s] w fun e w' => e = .returned (.string (sealT mac place nonce s)) ∧ Below w.heap.size w w' := by
  have hw := wrap_pl place
  have HS := Lib.hid (fun w => small_ok (pl32 place) w)
  have HG := Lib.hid (fun w hT => tag_ok mac (be4 (pl32 place) ++ nonce ++ s) hm (by rw [size_app, size_app, be4_size]; omega) w hT)
  have HR : Hid (sealT mac place nonce s = tagB mac (be4 (pl32 place) ++ nonce ++ s)) := rfl
  have HT := Lib.hid hT
  have hc := be4_size (pl32 place)
  have hz1 : ¬ 9223372036854775807 < 4 + nonce.size := by omega
  have hz2 : ¬ 9223372036854775807 < 4 + nonce.size + s.size := by omega
  have HA0 : Hid (Blk (w.alloc (.cells #[.string k, .string mac] 194)) w.heap.size 194 #[.string k, .string mac]) := Blk.new w 194 _
  have c1 : (w.alloc (.cells #[.string k, .string mac] 194)).cell? ⟨w.heap.size, 1, none⟩ = some (.string mac) := HA0.out.cell 1
  have HB0 : Hid (Below w.heap.size w (w.alloc (.cells #[.string k, .string mac] 194))) := (Below.refl _ _).alloc (Nat.le_refl _) _
  have HL : Hid (w.heap.size < (w.alloc (.cells #[.string k, .string mac] 194)).heap.size) := HA0.out.lt
  clear hT hm hn hs HA0
  rw [← HR.out] at HG
  generalize sealT mac place nonce s = RES at *
  generalize be4 (pl32 place) = c at *
  go_enter Tryz.func152, Tryz.ntmps152
  go_wp2_with fail
  generalize w.alloc (.cells #[.string k, .string mac] 194) = w0 at *
  refine wp_region_plan (fun w' => w'.cell? ⟨w.heap.size, 1, none⟩ = some (.string mac)) 10 [(true, 0), (true, 1), (true, 2), (true, 3), (true, 5), (true, 7), (false, 4), (true, 6), (true, 8), (false, 9)] (by kernel_rfl) (by kernel_rfl) c1 ?_
  simp only [List.map_cons, List.map_nil, List.getD_cons_zero, List.getD_cons_succ, List.drop_succ_cons, List.drop_zero]
  (refine plan_take (v := ?_) rfl ?_ ?_; rotate_left; (intro wS hSw; (try dsimp only at hSw); go_simp; try with_reducible rfl); simp only [Act.put, List.setIfInBounds_toArray, List.set_cons_zero, List.set_cons_succ])
  (refine plan_take (v := ?_) rfl ?_ ?_; rotate_left; (intro wS hSw; (try dsimp only at hSw); go_simp; try with_reducible rfl); simp only [Act.put, List.setIfInBounds_toArray, List.set_cons_zero, List.set_cons_succ])
  (refine plan_take (v := ?_) rfl ?_ ?_; rotate_left; (intro wS hSw; (try dsimp only at hSw); go_simp; try with_reducible rfl); simp only [Act.put, List.setIfInBounds_toArray, List.set_cons_zero, List.set_cons_succ])
  (refine plan_take (v := ?_) rfl ?_ ?_; rotate_left; (intro wS hSw; (try dsimp only at hSw); go_simp; try with_reducible rfl); simp only [Act.put, List.setIfInBounds_toArray, List.set_cons_zero, List.set_cons_succ])
  (refine plan_take (v := ?_) rfl ?_ ?_; rotate_left; (intro wS hSw; (try dsimp only at hSw); go_simp; try with_reducible rfl); simp only [Act.put, List.setIfInBounds_toArray, List.set_cons_zero, List.set_cons_succ])
  (refine plan_take (v := ?_) rfl ?_ ?_; rotate_left; (intro wS hSw; (try dsimp only at hSw); go_simp; try with_reducible rfl); simp only [Act.put, List.setIfInBounds_toArray, List.set_cons_zero, List.set_cons_succ])
  refine plan_run rfl (fun K hK => ?_)
  go_simp
  refine (HS.out _).mono ?_
  rintro e w1 ⟨rfl, hb⟩
  have HB1 : Hid (Below w.heap.size w w1) := (below_drewN HB0.out 1).trans (hb.mono HB0.out.size)
  have HL1 : Hid (w0.heap.size ≤ w1.heap.size) := hb.size
  have c2 : w1.cell? ⟨w.heap.size, 1, none⟩ = some (.string mac) := (hb.cell (p := ⟨w.heap.size, 1, none⟩) HL.out).trans c1
  clear hb
  refine hK.out _ _ c2 ?_
  clear hK K
  try simp only [Act.put, List.setIfInBounds_toArray, List.set_cons_zero, List.set_cons_succ]
  (refine plan_take (v := ?_) rfl ?_ ?_; rotate_left; (intro wS hSw; (try dsimp only at hSw); go_simp; try with_reducible rfl); simp only [Act.put, List.setIfInBounds_toArray, List.set_cons_zero, List.set_cons_succ])
  (refine plan_take (v := ?_) rfl ?_ ?_; rotate_left; (intro wS hSw; (try dsimp only at hSw); go_simp; try with_reducible rfl); simp only [Act.put, List.setIfInBounds_toArray, List.set_cons_zero, List.set_cons_succ])
  refine plan_run rfl (fun K hK => ?_)
  go_simp
  refine (HG.out _ (HT.out.below HB1.out)).mono ?_
  rintro e w2 ⟨rfl, hb⟩
  have HB2 : Hid (Below w.heap.size w w2) := HB1.out.trans (hb.mono HB1.out.size)
  have c3 : w2.cell? ⟨w.heap.size, 1, none⟩ = some (.string mac) := (hb.cell (p := ⟨w.heap.size, 1, none⟩) (Nat.lt_of_lt_of_le HL.out (by exact HL1.out))).trans c2
  clear hb
  refine hK.out _ _ c3 ?_
  clear hK K
  try simp only [Act.put, List.setIfInBounds_toArray, List.set_cons_zero, List.set_cons_succ]
  refine plan_nil ?_
  go_wp2_with fail
  refine NoPanic.normal ?_
  go_wp2_with fail
  go_ret
  exact ⟨rfl, HB2.out⟩

end Go.Proofs.YtimpjlnbbdfehaaGreatDoor
namespace Go.Proofs.YtimpjlnbbdfehaaGreatDoor
open Go.RowKit Go.Shelf Go.Lib Go.Sort
set_option linter.unusedVariables false
attribute [local go_sem ↓] shr_32_1 shl_32_1 shr_32_2 shl_32_2 shr_32_3 shl_32_3 shr_32_4 shl_32_4 shr_32_5 shl_32_5 shr_32_6 shl_32_6 shr_32_7 shl_32_7 shr_32_8 shl_32_8 shr_32_9 shl_32_9 shr_32_10 shl_32_10 shr_32_11 shl_32_11 shr_32_12 shl_32_12 shr_32_13 shl_32_13 shr_32_14 shl_32_14 shr_32_15 shl_32_15 shr_32_16 shl_32_16 shr_32_17 shl_32_17 shr_32_18 shl_32_18 shr_32_19 shl_32_19 shr_32_20 shl_32_20 shr_32_21 shl_32_21 shr_32_22 shl_32_22 shr_32_23 shl_32_23 shr_32_24 shl_32_24 shr_32_25 shl_32_25 shr_32_26 shl_32_26 shr_32_27 shl_32_27 shr_32_28 shl_32_28 shr_32_29 shl_32_29 shr_32_30 shl_32_30 shr_32_31 shl_32_31 shr_64_3 shl_64_3 shr_64_7 shl_64_7 shr_64_8 shl_64_8 shr_64_16 shl_64_16 shr_64_24 shl_64_24 shr_64_32 shl_64_32 shr_64_40 shl_64_40 shr_64_48 shl_64_48 shr_64_56 shl_64_56
attribute [local go_sem] add_u32 add_u64 and_u8 or_u8 xor_u8 and_u32 or_u32 xor_u32 and_u64 or_u64 xor_u64 conv_32_8 conv_64_8 conv_64_32 conv_8_32 conv_8_64 conv_32_64

theorem turnB_size (key nonce s : ByteArray) : (turnB key nonce s).size = s.size := by
  show (turnL key nonce s.data.toList).toArray.size = _
  rw [List.size_toArray, turnL_len]; simp
/-- A text, turned and tagged. -/
def sealP (k mac : ByteArray) (place : Int) (nonce s : ByteArray) : ByteArray := turnB k nonce s ++ sealT mac place nonce (turnB k nonce s)
theorem sealP_size (k mac : ByteArray) (place : Int) (nonce s : ByteArray) : (sealP k mac place nonce s).size = s.size + 32 := by
  unfold sealP; rw [size_app, turnB_size, sealT_size]
set_option maxHeartbeats 1000000 in
set_option maxRecDepth 100000 in
theorem sput_ok (k mac nonce s : ByteArray) (place : Int) (hk : k.size = 32) (hm : mac.size ≤ 64) (hn : nonce.size = 12) (hs : s.size ≤ 100000) (w : World) (hT : Salts w) :
    Calls Tryz.prog 110 #[.agg #[.string k, .string mac], .int .i64 place, .string nonce, .string s] w fun e w' => e = .returned (.string (sealP k mac place nonce s)) ∧ Below w.heap.size w w' := by
  have HM := Lib.hid (fun w => may_true k nonce hk hn w)
  have HTU := Lib.hid (fun w => turn_ok k nonce s hk hn hs w)
  have HG := Lib.hid (fun w hT => stag_ok k mac nonce (turnB k nonce s) place hm (by omega) (by rw [turnB_size]; omega) w hT)
  have HR : Hid (sealP k mac place nonce s = turnB k nonce s ++ sealT mac place nonce (turnB k nonce s)) := rfl
  have hz : ¬ 9223372036854775807 < (turnB k nonce s).size + (sealT mac place nonce (turnB k nonce s)).size := by rw [turnB_size, sealT_size]; omega
  have HT := Lib.hid hT
  have HA0 : Hid (Blk (w.alloc (.cells #[.string k, .string mac] 194)) w.heap.size 194 #[.string k, .string mac]) := Blk.new w 194 _
  have c1 : (w.alloc (.cells #[.string k, .string mac] 194)).cell? ⟨w.heap.size, 0, none⟩ = some (.string k) := HA0.out.cell 0
  have HB0 : Hid (Below w.heap.size w (w.alloc (.cells #[.string k, .string mac] 194))) := (Below.refl _ _).alloc (Nat.le_refl _) _
  clear hT hm hn hs hk
  generalize sealT mac place nonce (turnB k nonce s) = tg at *
  generalize turnB k nonce s = tu at *
  generalize sealP k mac place nonce s = RES at *
  go_enter Tryz.func110, Tryz.ntmps110
  go_wp2_with fail
  generalize w.alloc (.cells #[.string k, .string mac] 194) = w0 at *
  refine (HM.out _).mono ?_
  rintro e w1 ⟨rfl, rfl⟩
  go_wp2_with fail
  refine (HTU.out _).mono ?_
  rintro e w1 ⟨rfl, hb⟩
  have HA1 : Hid (Blk w1 w.heap.size 194 #[.string k, .string mac]) := (hb.block _ HA0.out.lt).trans HA0.out
  have HB1 := Lib.hid (HB0.out.trans (hb.mono HB0.out.size))
  clear hb c1
  go_wp2_with (first
    | (refine wpList_load_row rfl 194 (.tmp 4) (by rfl) w.heap.size (by rfl) 194 #[.string k, .string mac] (0, 0) _ HA1.out Tryz.underlying194 rfl info194 ?_)
    | (go_at_call 152; refine (HG.out _ (HT.out.below HB1.out)).mono ?_; rintro e w2 ⟨rfl, hb⟩; have HB2 := Lib.hid (HB1.out.trans (hb.mono HB1.out.size)); clear hb))
  go_ret
  exact ⟨by rw [HR.out]; rfl, HB2.out⟩
/-- What is read of a text that was turned and tagged; or that it was not. -/
def sealG (k mac : ByteArray) (place : Int) (nonce s : ByteArray) : ByteArray × Int :=
  if sealT mac place nonce (s.extract 0 (s.size - 32)) = s.extract (s.size - 32) s.size then (turnB k nonce (s.extract 0 (s.size - 32)), 0) else (⟨#[]⟩, 100)
set_option maxHeartbeats 1000000 in
set_option maxRecDepth 100000 in
theorem sget_ok (k mac nonce s : ByteArray) (place : Int) (hk : k.size = 32) (hm : mac.size ≤ 64) (hn : nonce.size = 12) (h32 : 32 ≤ s.size) (hs : s.size ≤ 100000) (w : World) (hT : Salts w) :
    Calls Tryz.prog 114 #[.agg #[.string k, .string mac], .int .i64 place, .string nonce, .string s] w fun e w' => e = .returned (.tuple #[.string (sealG k mac place nonce s).1, .int .i64 (sealG k mac place nonce s).2]) ∧ Below w.heap.size w w' := by
  obtain ⟨n, hn2⟩ : ∃ n, s.size = n + 32 := ⟨s.size - 32, by omega⟩
  have HM := Lib.hid (fun w => may_true k nonce hk hn w)
  have HTU := Lib.hid (fun w => turn_ok k nonce (s.extract 0 n) hk hn (by rw [ByteArray.size_extract]; omega) w)
  have HG := Lib.hid (fun w hT => stag_ok k mac nonce (s.extract 0 n) place hm (by omega) (by rw [ByteArray.size_extract]; omega) w hT)
  have HSA := Lib.hid (fun w => same_ok (sealT mac place nonce (s.extract 0 n)) (s.extract n s.size) (by rw [sealT_size]; omega) w)
  have HR : Hid (sealG k mac place nonce s = if sealT mac place nonce (s.extract 0 n) = s.extract n s.size then (turnB k nonce (s.extract 0 n), 0) else (⟨#[]⟩, 100)) := by
    show _ = _; unfold sealG; rw [hn2, Nat.add_sub_cancel]
  have hsl1 := fun w => slice_to s (n : Int) n rfl (by omega) w
  have hsl2 := fun w => slice_from s n (n : Int) rfl (by omega) w
  have hat : IntKind.i64.wrap ((s.size : Int) - 32) = (n : Int) := by rw [wrap_i64_small _ (by omega) (by omega)]; omega
  have hat2 : (s.size : Int) - 32 = (n : Int) := by omega
  have hw1 : IntKind.i64.wrap (n : Int) = (n : Int) := wrap_i64_small _ (by omega) (by omega)
  have hw2 : wrap64 (n : Int) = (n : Int) := by unfold wrap64; omega
  have hd : decide ((n : Int) < 0) = false := by simp
  have HT := Lib.hid hT
  have HA0 : Hid (Blk (w.alloc (.cells #[.string k, .string mac] 194)) w.heap.size 194 #[.string k, .string mac]) := Blk.new w 194 _
  have c1 : (w.alloc (.cells #[.string k, .string mac] 194)).cell? ⟨w.heap.size, 0, none⟩ = some (.string k) := HA0.out.cell 0
  have HB0 : Hid (Below w.heap.size w (w.alloc (.cells #[.string k, .string mac] 194))) := (Below.refl _ _).alloc (Nat.le_refl _) _
  clear hT hm hn hs hk hn2 h32
  generalize s.extract n s.size = tail at *
  generalize sealT mac place nonce (s.extract 0 n) = tg at *
  generalize turnB k nonce (s.extract 0 n) = tu at *
  generalize s.extract 0 n = hd0 at *
  generalize sealG k mac place nonce s = RES at *
  go_enter Tryz.func114, Tryz.ntmps114
  go_wp2_with fail
  generalize w.alloc (.cells #[.string k, .string mac] 194) = w0 at *
  refine (HM.out _).mono ?_
  rintro e w1 ⟨rfl, rfl⟩
  have HL : Hid (w.heap.size < w0.heap.size) := HA0.out.lt
  by_cases htg : tg = tail
  · have htt : decide (tg = tail) = true := decide_eq_true htg
    rw [htt] at HSA
    rw [if_pos htg] at HR
    clear htt htg
    go_wp2_with fail
    refine wp_region_plan (fun w' => Blk w' w.heap.size 194 #[.string k, .string mac]) 12 [(true, 0), (true, 1), (true, 2), (true, 3), (true, 4), (true, 5), (true, 7), (true, 8), (true, 9), (false, 6), (false, 10), (true, 11)] (by kernel_rfl) (by kernel_rfl) HA0.out ?_
    simp only [List.map_cons, List.map_nil, List.getD_cons_zero, List.getD_cons_succ, List.drop_succ_cons, List.drop_zero]
    (refine plan_take (v := ?_) rfl ?_ ?_; rotate_left; (intro wS hSw; (try dsimp only at hSw); (refine exec_load_row 194 (.tmp 4) ?_ w.heap.size ?_ 194 #[.string k, .string mac] (0, 0) _ hSw Tryz.underlying194 rfl info194 <;> rfl)); simp only [Act.put, List.setIfInBounds_toArray, List.set_cons_zero, List.set_cons_succ])
    (refine plan_take (v := ?_) rfl ?_ ?_; rotate_left; (intro wS hSw; (try dsimp only at hSw); go_simp; try with_reducible rfl); simp only [Act.put, List.setIfInBounds_toArray, List.set_cons_zero, List.set_cons_succ])
    (refine plan_take (v := ?_) rfl ?_ ?_; rotate_left; (intro wS hSw; (try dsimp only at hSw); go_simp; try with_reducible rfl); simp only [Act.put, List.setIfInBounds_toArray, List.set_cons_zero, List.set_cons_succ])
    (refine plan_take (v := ?_) rfl ?_ ?_; rotate_left; (intro wS hSw; (try dsimp only at hSw); go_simp; try with_reducible rfl); simp only [Act.put, List.setIfInBounds_toArray, List.set_cons_zero, List.set_cons_succ])
    (refine plan_take (v := ?_) rfl ?_ ?_; rotate_left; (intro wS hSw; (try dsimp only at hSw); go_simp; try with_reducible rfl); simp only [Act.put, List.setIfInBounds_toArray, List.set_cons_zero, List.set_cons_succ])
    (refine plan_take (v := ?_) rfl ?_ ?_; rotate_left; (intro wS hSw; (try dsimp only at hSw); go_simp; try with_reducible rfl); simp only [Act.put, List.setIfInBounds_toArray, List.set_cons_zero, List.set_cons_succ])
    (refine plan_take (v := ?_) rfl ?_ ?_; rotate_left; (intro wS hSw; (try dsimp only at hSw); go_simp; try with_reducible rfl); simp only [Act.put, List.setIfInBounds_toArray, List.set_cons_zero, List.set_cons_succ])
    (refine plan_take (v := ?_) rfl ?_ ?_; rotate_left; (intro wS hSw; (try dsimp only at hSw); go_simp; try with_reducible rfl); simp only [Act.put, List.setIfInBounds_toArray, List.set_cons_zero, List.set_cons_succ])
    (refine plan_take (v := ?_) rfl ?_ ?_; rotate_left; (intro wS hSw; (try dsimp only at hSw); go_simp; try with_reducible rfl); simp only [Act.put, List.setIfInBounds_toArray, List.set_cons_zero, List.set_cons_succ])
    refine plan_run rfl (fun K hK => ?_)
    go_simp
    refine (HG.out _ (HT.out.below (below_drewN HB0.out 1))).mono ?_
    rintro e w2 ⟨rfl, hb⟩
    have HA1 : Hid (Blk w2 w.heap.size 194 #[.string k, .string mac]) := (hb.block _ HL.out).trans HA0.out
    have HB2 : Hid (Below w.heap.size w w2) := (below_drewN HB0.out 1).trans (hb.mono HB0.out.size)
    clear hb
    refine hK.out _ _ HA1.out ?_
    clear hK K
    try simp only [Act.put, List.setIfInBounds_toArray, List.set_cons_zero, List.set_cons_succ]
    refine plan_run rfl (fun K hK => ?_)
    go_simp
    refine (HSA.out _).mono ?_
    rintro e w3 ⟨rfl, hb⟩
    have HA2 : Hid (Blk w3 w.heap.size 194 #[.string k, .string mac]) := (hb.block _ HA1.out.lt).trans HA1.out
    have HB3 : Hid (Below w.heap.size w w3) := HB2.out.trans (hb.mono HB2.out.size)
    clear hb
    refine hK.out _ _ HA2.out ?_
    clear hK K
    try simp only [Act.put, List.setIfInBounds_toArray, List.set_cons_zero, List.set_cons_succ]
    (refine plan_take (v := ?_) rfl ?_ ?_; rotate_left; (intro wS hSw; (try dsimp only at hSw); go_simp; try with_reducible rfl); simp only [Act.put, List.setIfInBounds_toArray, List.set_cons_zero, List.set_cons_succ])
    refine plan_nil ?_
    go_wp2_with fail
    refine NoPanic.normal ?_
    go_wp2_with fail
    have c2 : w3.cell? ⟨w.heap.size, 0, none⟩ = some (.string k) := HA2.out.cell 0
    refine wp_region_plan (fun w' => w'.cell? ⟨w.heap.size, 0, none⟩ = some (.string k)) 7 [(true, 0), (true, 1), (true, 2), (true, 3), (true, 4), (true, 5), (false, 6)] (by kernel_rfl) (by kernel_rfl) c2 ?_
    simp only [List.map_cons, List.map_nil, List.getD_cons_zero, List.getD_cons_succ, List.drop_succ_cons, List.drop_zero]
    (refine plan_take (v := ?_) rfl ?_ ?_; rotate_left; (intro wS hSw; (try dsimp only at hSw); go_simp; try with_reducible rfl); simp only [Act.put, List.setIfInBounds_toArray, List.set_cons_zero, List.set_cons_succ])
    (refine plan_take (v := ?_) rfl ?_ ?_; rotate_left; (intro wS hSw; (try dsimp only at hSw); go_simp; try with_reducible rfl); simp only [Act.put, List.setIfInBounds_toArray, List.set_cons_zero, List.set_cons_succ])
    (refine plan_take (v := ?_) rfl ?_ ?_; rotate_left; (intro wS hSw; (try dsimp only at hSw); go_simp; try with_reducible rfl); simp only [Act.put, List.setIfInBounds_toArray, List.set_cons_zero, List.set_cons_succ])
    (refine plan_take (v := ?_) rfl ?_ ?_; rotate_left; (intro wS hSw; (try dsimp only at hSw); go_simp; try with_reducible rfl); simp only [Act.put, List.setIfInBounds_toArray, List.set_cons_zero, List.set_cons_succ])
    (refine plan_take (v := ?_) rfl ?_ ?_; rotate_left; (intro wS hSw; (try dsimp only at hSw); go_simp; try with_reducible rfl); simp only [Act.put, List.setIfInBounds_toArray, List.set_cons_zero, List.set_cons_succ])
    (refine plan_take (v := ?_) rfl ?_ ?_; rotate_left; (intro wS hSw; (try dsimp only at hSw); go_simp; try with_reducible rfl); simp only [Act.put, List.setIfInBounds_toArray, List.set_cons_zero, List.set_cons_succ])
    refine plan_run rfl (fun K hK => ?_)
    go_simp
    refine (HTU.out _).mono ?_
    rintro e w4 ⟨rfl, hb⟩
    have c3 : w4.cell? ⟨w.heap.size, 0, none⟩ = some (.string k) := (hb.cell (p := ⟨w.heap.size, 0, none⟩) HA2.out.lt).trans c2
    have HB4 : Hid (Below w.heap.size w w4) := (below_drewN HB3.out 1).trans (hb.mono HB3.out.size)
    clear hb
    refine hK.out _ _ c3 ?_
    clear hK K
    try simp only [Act.put, List.setIfInBounds_toArray, List.set_cons_zero, List.set_cons_succ]
    refine plan_nil ?_
    go_wp2_with fail
    refine NoPanic.normal ?_
    go_wp2_with fail
    go_ret2
    exact ⟨by rw [HR.out]; rfl, HB4.out⟩
  · have htt : decide (tg = tail) = false := decide_eq_false htg
    rw [htt] at HSA
    rw [if_neg htg] at HR
    clear htt htg
    go_wp2_with fail
    refine wp_region_plan (fun w' => Blk w' w.heap.size 194 #[.string k, .string mac]) 12 [(true, 0), (true, 1), (true, 2), (true, 3), (true, 4), (true, 5), (true, 7), (true, 8), (true, 9), (false, 6), (false, 10), (true, 11)] (by kernel_rfl) (by kernel_rfl) HA0.out ?_
    simp only [List.map_cons, List.map_nil, List.getD_cons_zero, List.getD_cons_succ, List.drop_succ_cons, List.drop_zero]
    (refine plan_take (v := ?_) rfl ?_ ?_; rotate_left; (intro wS hSw; (try dsimp only at hSw); (refine exec_load_row 194 (.tmp 4) ?_ w.heap.size ?_ 194 #[.string k, .string mac] (0, 0) _ hSw Tryz.underlying194 rfl info194 <;> rfl)); simp only [Act.put, List.setIfInBounds_toArray, List.set_cons_zero, List.set_cons_succ])
    (refine plan_take (v := ?_) rfl ?_ ?_; rotate_left; (intro wS hSw; (try dsimp only at hSw); go_simp; try with_reducible rfl); simp only [Act.put, List.setIfInBounds_toArray, List.set_cons_zero, List.set_cons_succ])
    (refine plan_take (v := ?_) rfl ?_ ?_; rotate_left; (intro wS hSw; (try dsimp only at hSw); go_simp; try with_reducible rfl); simp only [Act.put, List.setIfInBounds_toArray, List.set_cons_zero, List.set_cons_succ])
    (refine plan_take (v := ?_) rfl ?_ ?_; rotate_left; (intro wS hSw; (try dsimp only at hSw); go_simp; try with_reducible rfl); simp only [Act.put, List.setIfInBounds_toArray, List.set_cons_zero, List.set_cons_succ])
    (refine plan_take (v := ?_) rfl ?_ ?_; rotate_left; (intro wS hSw; (try dsimp only at hSw); go_simp; try with_reducible rfl); simp only [Act.put, List.setIfInBounds_toArray, List.set_cons_zero, List.set_cons_succ])
    (refine plan_take (v := ?_) rfl ?_ ?_; rotate_left; (intro wS hSw; (try dsimp only at hSw); go_simp; try with_reducible rfl); simp only [Act.put, List.setIfInBounds_toArray, List.set_cons_zero, List.set_cons_succ])
    (refine plan_take (v := ?_) rfl ?_ ?_; rotate_left; (intro wS hSw; (try dsimp only at hSw); go_simp; try with_reducible rfl); simp only [Act.put, List.setIfInBounds_toArray, List.set_cons_zero, List.set_cons_succ])
    (refine plan_take (v := ?_) rfl ?_ ?_; rotate_left; (intro wS hSw; (try dsimp only at hSw); go_simp; try with_reducible rfl); simp only [Act.put, List.setIfInBounds_toArray, List.set_cons_zero, List.set_cons_succ])
    (refine plan_take (v := ?_) rfl ?_ ?_; rotate_left; (intro wS hSw; (try dsimp only at hSw); go_simp; try with_reducible rfl); simp only [Act.put, List.setIfInBounds_toArray, List.set_cons_zero, List.set_cons_succ])
    refine plan_run rfl (fun K hK => ?_)
    go_simp
    refine (HG.out _ (HT.out.below (below_drewN HB0.out 1))).mono ?_
    rintro e w2 ⟨rfl, hb⟩
    have HA1 : Hid (Blk w2 w.heap.size 194 #[.string k, .string mac]) := (hb.block _ HL.out).trans HA0.out
    have HB2 : Hid (Below w.heap.size w w2) := (below_drewN HB0.out 1).trans (hb.mono HB0.out.size)
    clear hb
    refine hK.out _ _ HA1.out ?_
    clear hK K
    try simp only [Act.put, List.setIfInBounds_toArray, List.set_cons_zero, List.set_cons_succ]
    refine plan_run rfl (fun K hK => ?_)
    go_simp
    refine (HSA.out _).mono ?_
    rintro e w3 ⟨rfl, hb⟩
    have HA2 : Hid (Blk w3 w.heap.size 194 #[.string k, .string mac]) := (hb.block _ HA1.out.lt).trans HA1.out
    have HB3 : Hid (Below w.heap.size w w3) := HB2.out.trans (hb.mono HB2.out.size)
    clear hb
    refine hK.out _ _ HA2.out ?_
    clear hK K
    try simp only [Act.put, List.setIfInBounds_toArray, List.set_cons_zero, List.set_cons_succ]
    (refine plan_take (v := ?_) rfl ?_ ?_; rotate_left; (intro wS hSw; (try dsimp only at hSw); go_simp; try with_reducible rfl); simp only [Act.put, List.setIfInBounds_toArray, List.set_cons_zero, List.set_cons_succ])
    refine plan_nil ?_
    go_wp2_with fail
    refine NoPanic.normal ?_
    go_wp2_with fail
    go_ret2
    exact ⟨by rw [HR.out]; rfl, HB3.out⟩

end Go.Proofs.YtimpjlnbbdfehaaGreatDoor
