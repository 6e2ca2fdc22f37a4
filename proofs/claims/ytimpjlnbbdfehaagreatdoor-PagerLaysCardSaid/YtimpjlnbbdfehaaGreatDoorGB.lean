import Derived.Test.YtimpjlnbbdfehaaGreatDoorGA
namespace Go.Proofs.YtimpjlnbbdfehaaGreatDoor
open Go.RowKit Go.Shelf Go.Lib Go.Sort
set_option linter.unusedVariables false
attribute [local go_sem ↓] shr_32_1 shl_32_1 shr_32_2 shl_32_2 shr_32_3 shl_32_3 shr_32_4 shl_32_4 shr_32_5 shl_32_5 shr_32_6 shl_32_6 shr_32_7 shl_32_7 shr_32_8 shl_32_8 shr_32_9 shl_32_9 shr_32_10 shl_32_10 shr_32_11 shl_32_11 shr_32_12 shl_32_12 shr_32_13 shl_32_13 shr_32_14 shl_32_14 shr_32_15 shl_32_15 shr_32_16 shl_32_16 shr_32_17 shl_32_17 shr_32_18 shl_32_18 shr_32_19 shl_32_19 shr_32_20 shl_32_20 shr_32_21 shl_32_21 shr_32_22 shl_32_22 shr_32_23 shl_32_23 shr_32_24 shl_32_24 shr_32_25 shl_32_25 shr_32_26 shl_32_26 shr_32_27 shl_32_27 shr_32_28 shl_32_28 shr_32_29 shl_32_29 shr_32_30 shl_32_30 shr_32_31 shl_32_31 shr_64_3 shl_64_3 shr_64_7 shl_64_7 shr_64_8 shl_64_8 shr_64_16 shl_64_16 shr_64_24 shl_64_24 shr_64_32 shl_64_32 shr_64_40 shl_64_40 shr_64_48 shl_64_48 shr_64_56 shl_64_56
attribute [local go_sem] add_u32 add_u64 and_u8 or_u8 xor_u8 and_u32 or_u32 xor_u32 and_u64 or_u64 xor_u64 conv_32_8 conv_64_8 conv_64_32 conv_8_32 conv_8_64 conv_32_64

/-- A word turned to the right. -/
def rotr (x : UInt32) (k j : UInt32) : UInt32 := x >>> k ||| x <<< j
theorem right_2 (x : UInt32) (w : World) :
    Calls Tryz.prog 191 #[.int .u32 (n32 x), .int .i64 2] w fun e w' => e = .returned (.int .u32 (n32 (rotr x 2 30))) ∧ w.drewN 1 = w' := by
  have h : IntKind.i64.wrap 30 = 30 := by rfl
  go_enter Tryz.func191, Tryz.ntmps191
  go_wp2_with fail
  refine wp_region_plan (fun _ => True) 8 [(true, 0), (true, 1), (true, 2), (true, 3), (true, 4), (true, 5), (true, 6), (true, 7)] (by kernel_rfl) (by kernel_rfl) trivial ?_
  simp only [List.map_cons, List.map_nil, List.getD_cons_zero, List.getD_cons_succ, List.drop_succ_cons, List.drop_zero]
  repeat
    refine plan_take (v := ?_) rfl ?_ ?_
    rotate_left
    · (intro w hSw; (try dsimp only at hSw); go_simp; try with_reducible rfl)
    simp only [Act.put, List.setIfInBounds_toArray, List.set_cons_zero, List.set_cons_succ]
  refine plan_nil ?_
  go_wp2_with fail
  refine NoPanic.normal ?_
  go_wp2_with fail
  go_ret
  exact ⟨rfl, rfl⟩
theorem right_6 (x : UInt32) (w : World) :
    Calls Tryz.prog 191 #[.int .u32 (n32 x), .int .i64 6] w fun e w' => e = .returned (.int .u32 (n32 (rotr x 6 26))) ∧ w.drewN 1 = w' := by
  have h : IntKind.i64.wrap 26 = 26 := by rfl
  go_enter Tryz.func191, Tryz.ntmps191
  go_wp2_with fail
  refine wp_region_plan (fun _ => True) 8 [(true, 0), (true, 1), (true, 2), (true, 3), (true, 4), (true, 5), (true, 6), (true, 7)] (by kernel_rfl) (by kernel_rfl) trivial ?_
  simp only [List.map_cons, List.map_nil, List.getD_cons_zero, List.getD_cons_succ, List.drop_succ_cons, List.drop_zero]
  repeat
    refine plan_take (v := ?_) rfl ?_ ?_
    rotate_left
    · (intro w hSw; (try dsimp only at hSw); go_simp; try with_reducible rfl)
    simp only [Act.put, List.setIfInBounds_toArray, List.set_cons_zero, List.set_cons_succ]
  refine plan_nil ?_
  go_wp2_with fail
  refine NoPanic.normal ?_
  go_wp2_with fail
  go_ret
  exact ⟨rfl, rfl⟩
theorem right_7 (x : UInt32) (w : World) :
    Calls Tryz.prog 191 #[.int .u32 (n32 x), .int .i64 7] w fun e w' => e = .returned (.int .u32 (n32 (rotr x 7 25))) ∧ w.drewN 1 = w' := by
  have h : IntKind.i64.wrap 25 = 25 := by rfl
  go_enter Tryz.func191, Tryz.ntmps191
  go_wp2_with fail
  refine wp_region_plan (fun _ => True) 8 [(true, 0), (true, 1), (true, 2), (true, 3), (true, 4), (true, 5), (true, 6), (true, 7)] (by kernel_rfl) (by kernel_rfl) trivial ?_
  simp only [List.map_cons, List.map_nil, List.getD_cons_zero, List.getD_cons_succ, List.drop_succ_cons, List.drop_zero]
  repeat
    refine plan_take (v := ?_) rfl ?_ ?_
    rotate_left
    · (intro w hSw; (try dsimp only at hSw); go_simp; try with_reducible rfl)
    simp only [Act.put, List.setIfInBounds_toArray, List.set_cons_zero, List.set_cons_succ]
  refine plan_nil ?_
  go_wp2_with fail
  refine NoPanic.normal ?_
  go_wp2_with fail
  go_ret
  exact ⟨rfl, rfl⟩
theorem right_11 (x : UInt32) (w : World) :
    Calls Tryz.prog 191 #[.int .u32 (n32 x), .int .i64 11] w fun e w' => e = .returned (.int .u32 (n32 (rotr x 11 21))) ∧ w.drewN 1 = w' := by
  have h : IntKind.i64.wrap 21 = 21 := by rfl
  go_enter Tryz.func191, Tryz.ntmps191
  go_wp2_with fail
  refine wp_region_plan (fun _ => True) 8 [(true, 0), (true, 1), (true, 2), (true, 3), (true, 4), (true, 5), (true, 6), (true, 7)] (by kernel_rfl) (by kernel_rfl) trivial ?_
  simp only [List.map_cons, List.map_nil, List.getD_cons_zero, List.getD_cons_succ, List.drop_succ_cons, List.drop_zero]
  repeat
    refine plan_take (v := ?_) rfl ?_ ?_
    rotate_left
    · (intro w hSw; (try dsimp only at hSw); go_simp; try with_reducible rfl)
    simp only [Act.put, List.setIfInBounds_toArray, List.set_cons_zero, List.set_cons_succ]
  refine plan_nil ?_
  go_wp2_with fail
  refine NoPanic.normal ?_
  go_wp2_with fail
  go_ret
  exact ⟨rfl, rfl⟩
theorem right_13 (x : UInt32) (w : World) :
    Calls Tryz.prog 191 #[.int .u32 (n32 x), .int .i64 13] w fun e w' => e = .returned (.int .u32 (n32 (rotr x 13 19))) ∧ w.drewN 1 = w' := by
  have h : IntKind.i64.wrap 19 = 19 := by rfl
  go_enter Tryz.func191, Tryz.ntmps191
  go_wp2_with fail
  refine wp_region_plan (fun _ => True) 8 [(true, 0), (true, 1), (true, 2), (true, 3), (true, 4), (true, 5), (true, 6), (true, 7)] (by kernel_rfl) (by kernel_rfl) trivial ?_
  simp only [List.map_cons, List.map_nil, List.getD_cons_zero, List.getD_cons_succ, List.drop_succ_cons, List.drop_zero]
  repeat
    refine plan_take (v := ?_) rfl ?_ ?_
    rotate_left
    · (intro w hSw; (try dsimp only at hSw); go_simp; try with_reducible rfl)
    simp only [Act.put, List.setIfInBounds_toArray, List.set_cons_zero, List.set_cons_succ]
  refine plan_nil ?_
  go_wp2_with fail
  refine NoPanic.normal ?_
  go_wp2_with fail
  go_ret
  exact ⟨rfl, rfl⟩
theorem right_17 (x : UInt32) (w : World) :
    Calls Tryz.prog 191 #[.int .u32 (n32 x), .int .i64 17] w fun e w' => e = .returned (.int .u32 (n32 (rotr x 17 15))) ∧ w.drewN 1 = w' := by
  have h : IntKind.i64.wrap 15 = 15 := by rfl
  go_enter Tryz.func191, Tryz.ntmps191
  go_wp2_with fail
  refine wp_region_plan (fun _ => True) 8 [(true, 0), (true, 1), (true, 2), (true, 3), (true, 4), (true, 5), (true, 6), (true, 7)] (by kernel_rfl) (by kernel_rfl) trivial ?_
  simp only [List.map_cons, List.map_nil, List.getD_cons_zero, List.getD_cons_succ, List.drop_succ_cons, List.drop_zero]
  repeat
    refine plan_take (v := ?_) rfl ?_ ?_
    rotate_left
    · (intro w hSw; (try dsimp only at hSw); go_simp; try with_reducible rfl)
    simp only [Act.put, List.setIfInBounds_toArray, List.set_cons_zero, List.set_cons_succ]
  refine plan_nil ?_
  go_wp2_with fail
  refine NoPanic.normal ?_
  go_wp2_with fail
  go_ret
  exact ⟨rfl, rfl⟩
theorem right_18 (x : UInt32) (w : World) :
    Calls Tryz.prog 191 #[.int .u32 (n32 x), .int .i64 18] w fun e w' => e = .returned (.int .u32 (n32 (rotr x 18 14))) ∧ w.drewN 1 = w' := by
  have h : IntKind.i64.wrap 14 = 14 := by rfl
  go_enter Tryz.func191, Tryz.ntmps191
  go_wp2_with fail
  refine wp_region_plan (fun _ => True) 8 [(true, 0), (true, 1), (true, 2), (true, 3), (true, 4), (true, 5), (true, 6), (true, 7)] (by kernel_rfl) (by kernel_rfl) trivial ?_
  simp only [List.map_cons, List.map_nil, List.getD_cons_zero, List.getD_cons_succ, List.drop_succ_cons, List.drop_zero]
  repeat
    refine plan_take (v := ?_) rfl ?_ ?_
    rotate_left
    · (intro w hSw; (try dsimp only at hSw); go_simp; try with_reducible rfl)
    simp only [Act.put, List.setIfInBounds_toArray, List.set_cons_zero, List.set_cons_succ]
  refine plan_nil ?_
  go_wp2_with fail
  refine NoPanic.normal ?_
  go_wp2_with fail
  go_ret
  exact ⟨rfl, rfl⟩
theorem right_19 (x : UInt32) (w : World) :
    Calls Tryz.prog 191 #[.int .u32 (n32 x), .int .i64 19] w fun e w' => e = .returned (.int .u32 (n32 (rotr x 19 13))) ∧ w.drewN 1 = w' := by
  have h : IntKind.i64.wrap 13 = 13 := by rfl
  go_enter Tryz.func191, Tryz.ntmps191
  go_wp2_with fail
  refine wp_region_plan (fun _ => True) 8 [(true, 0), (true, 1), (true, 2), (true, 3), (true, 4), (true, 5), (true, 6), (true, 7)] (by kernel_rfl) (by kernel_rfl) trivial ?_
  simp only [List.map_cons, List.map_nil, List.getD_cons_zero, List.getD_cons_succ, List.drop_succ_cons, List.drop_zero]
  repeat
    refine plan_take (v := ?_) rfl ?_ ?_
    rotate_left
    · (intro w hSw; (try dsimp only at hSw); go_simp; try with_reducible rfl)
    simp only [Act.put, List.setIfInBounds_toArray, List.set_cons_zero, List.set_cons_succ]
  refine plan_nil ?_
  go_wp2_with fail
  refine NoPanic.normal ?_
  go_wp2_with fail
  go_ret
  exact ⟨rfl, rfl⟩
theorem right_22 (x : UInt32) (w : World) :
    Calls Tryz.prog 191 #[.int .u32 (n32 x), .int .i64 22] w fun e w' => e = .returned (.int .u32 (n32 (rotr x 22 10))) ∧ w.drewN 1 = w' := by
  have h : IntKind.i64.wrap 10 = 10 := by rfl
  go_enter Tryz.func191, Tryz.ntmps191
  go_wp2_with fail
  refine wp_region_plan (fun _ => True) 8 [(true, 0), (true, 1), (true, 2), (true, 3), (true, 4), (true, 5), (true, 6), (true, 7)] (by kernel_rfl) (by kernel_rfl) trivial ?_
  simp only [List.map_cons, List.map_nil, List.getD_cons_zero, List.getD_cons_succ, List.drop_succ_cons, List.drop_zero]
  repeat
    refine plan_take (v := ?_) rfl ?_ ?_
    rotate_left
    · (intro w hSw; (try dsimp only at hSw); go_simp; try with_reducible rfl)
    simp only [Act.put, List.setIfInBounds_toArray, List.set_cons_zero, List.set_cons_succ]
  refine plan_nil ?_
  go_wp2_with fail
  refine NoPanic.normal ?_
  go_wp2_with fail
  go_ret
  exact ⟨rfl, rfl⟩
theorem right_25 (x : UInt32) (w : World) :
    Calls Tryz.prog 191 #[.int .u32 (n32 x), .int .i64 25] w fun e w' => e = .returned (.int .u32 (n32 (rotr x 25 7))) ∧ w.drewN 1 = w' := by
  have h : IntKind.i64.wrap 7 = 7 := by rfl
  go_enter Tryz.func191, Tryz.ntmps191
  go_wp2_with fail
  refine wp_region_plan (fun _ => True) 8 [(true, 0), (true, 1), (true, 2), (true, 3), (true, 4), (true, 5), (true, 6), (true, 7)] (by kernel_rfl) (by kernel_rfl) trivial ?_
  simp only [List.map_cons, List.map_nil, List.getD_cons_zero, List.getD_cons_succ, List.drop_succ_cons, List.drop_zero]
  repeat
    refine plan_take (v := ?_) rfl ?_ ?_
    rotate_left
    · (intro w hSw; (try dsimp only at hSw); go_simp; try with_reducible rfl)
    simp only [Act.put, List.setIfInBounds_toArray, List.set_cons_zero, List.set_cons_succ]
  refine plan_nil ?_
  go_wp2_with fail
  refine NoPanic.normal ?_
  go_wp2_with fail
  go_ret
  exact ⟨rfl, rfl⟩
theorem info236 : (Tryz.prog.info? 236).map (·.size) = some 8 := by kernel_rfl
theorem info265 : (Tryz.prog.info? 265).map (·.size) = some 64 := by kernel_rfl
/-- What a sum begins with. -/
def sha0 (i : Nat) : UInt32 := [1779033703, 3144134277, 1013904242, 2773480762, 1359893119, 2600822924, 528734635, 1541459225].getD i 0
theorem vw_sha0 : vw 8 sha0 = #[.int .u32 1779033703, .int .u32 3144134277, .int .u32 1013904242, .int .u32 2773480762, .int .u32 1359893119, .int .u32 2600822924, .int .u32 528734635, .int .u32 1541459225] := by rfl
set_option maxRecDepth 100000 in
theorem fresh_ok (w : World) : Calls Tryz.prog 155 #[] w fun e w' => e = .returned (.agg (vw 8 sha0)) ∧ Below w.heap.size w w' := by
  have e0 : (vw 8 fun _ => 0) = #[.int .u32 0, .int .u32 0, .int .u32 0, .int .u32 0, .int .u32 0, .int .u32 0, .int .u32 0, .int .u32 0] := by rfl
  have HA0 : Hid (Blk (w.alloc (.cells (vw 8 fun _ => 0) 236)) w.heap.size 236 (vw 8 fun _ => 0)) := Blk.new w 236 _
  rw [e0] at HA0
  go_enter Tryz.func155, Tryz.ntmps155
  go_wp2_with (refine wpList_store_row rfl 236 (.tmp 0) (.tmp 1) (by rfl) w.heap.size (vw 8 sha0) (by rfl) (by rfl) 236 _ HA0.out info236 (by rfl) (vw_one _ _) ?_)
  refine bodyPost_ret (results_cell_row (fn := Tryz.f155) rfl _ _ w.heap.size 236 (vw 8 sha0) (0, 0) _ (by rfl) (HA0.out.row _) Tryz.underlying236 rfl (by rw [vw_size]; exact info236)) rfl ?_
  exact ⟨rfl, below_setRow ((Below.refl _ _).alloc (Nat.le_refl _) _) (Nat.le_refl _) _⟩

end Go.Proofs.YtimpjlnbbdfehaaGreatDoor
namespace Go.Proofs.YtimpjlnbbdfehaaGreatDoor
open Go.RowKit Go.Shelf Go.Lib Go.Sort
set_option linter.unusedVariables false
attribute [local go_sem ↓] shr_32_1 shl_32_1 shr_32_2 shl_32_2 shr_32_3 shl_32_3 shr_32_4 shl_32_4 shr_32_5 shl_32_5 shr_32_6 shl_32_6 shr_32_7 shl_32_7 shr_32_8 shl_32_8 shr_32_9 shl_32_9 shr_32_10 shl_32_10 shr_32_11 shl_32_11 shr_32_12 shl_32_12 shr_32_13 shl_32_13 shr_32_14 shl_32_14 shr_32_15 shl_32_15 shr_32_16 shl_32_16 shr_32_17 shl_32_17 shr_32_18 shl_32_18 shr_32_19 shl_32_19 shr_32_20 shl_32_20 shr_32_21 shl_32_21 shr_32_22 shl_32_22 shr_32_23 shl_32_23 shr_32_24 shl_32_24 shr_32_25 shl_32_25 shr_32_26 shl_32_26 shr_32_27 shl_32_27 shr_32_28 shl_32_28 shr_32_29 shl_32_29 shr_32_30 shl_32_30 shr_32_31 shl_32_31 shr_64_3 shl_64_3 shr_64_7 shl_64_7 shr_64_8 shl_64_8 shr_64_16 shl_64_16 shr_64_24 shl_64_24 shr_64_32 shl_64_32 shr_64_40 shl_64_40 shr_64_48 shl_64_48 shr_64_56 shl_64_56
attribute [local go_sem] add_u32 add_u64 and_u8 or_u8 xor_u8 and_u32 or_u32 xor_u32 and_u64 or_u64 xor_u64 conv_32_8 conv_64_8 conv_64_32 conv_8_32 conv_8_64 conv_32_64

theorem slice_mid (s : ByteArray) (a b : Nat) (i j : Int) (hi : i = (a : Int)) (hj : j = (b : Int)) (h : a ≤ b) (hb : b ≤ s.size) (w : World) : (Instr.slice 9 (.string s) (some (.int .i64 i)) (some (.int .i64 j)) none).run Tryz.prog w = .ok (.string (s.extract a b)) w := by
  subst hi; subst hj
  rw [run_slice_string w 9 s .i64 .i64 a b Tryz.underlying9 (by omega) (by omega) (by omega)]
  rfl
theorem gb_mid (s : ByteArray) (a b k : Nat) (h : a + k < b) : gb (s.extract a b) k = gb s (a + k) := by
  unfold gb
  rw [ByteArray.data_extract, List.getD_eq_getElem?_getD, List.getD_eq_getElem?_getD, Array.toList_extract]
  simp only [List.extract_eq_take_drop, List.getElem?_take, List.getElem?_drop]
  rw [if_pos (by omega)]
theorem gb_at (s : ByteArray) (k : Nat) (h : k < s.data.toList.length) : s.data.toList[k] = gb s k := by unfold gb; rw [List.getD_eq_getElem?_getD, List.getElem?_eq_getElem h]; rfl
theorem OwnB.setFar {w : World} {B : Nat} {v : Value} {l : List UInt8} (h : OwnB w B v l) {p : Addr} (hp : p.block < B) (u : Value) : OwnB (w.setCell p u) B v l := by
  rcases h with h | ⟨g, off, cap, hv, hg, hl, hc, h1, h2⟩
  · exact .inl h
  · have ho : Only w (w.setCell p u) [p.block] := (Only.refl w _).setCell (by simp) u
    have hb : (w.setCell p u).heap[g]? = w.heap[g]? := ho.block g hl (by simp; omega)
    refine .inr ⟨g, off, cap, hv, hg, Nat.lt_of_lt_of_le hl ho.size, hc, fun j x hj => ?_, fun j hj => ?_⟩
    · rw [← h1 j x hj]; unfold World.cell?; rw [hb]
    · obtain ⟨a, b⟩ := h2 j hj
      refine ⟨?_, ?_⟩
      · rw [← a]; unfold World.cell?; rw [hb]
      · rw [← b]; unfold World.frozen?; rw [hb]
/-! ### The words of sixty-four bytes, spread -/
def inF (s : ByteArray) (a : Nat) : Nat → UInt32
  | 0 => 0
  | k + 1 => inF s a k <<< 8 ||| up32 (gb s (a + k))
def sg0 (a : UInt32) : UInt32 := rotr a 7 25 ^^^ rotr a 18 14 ^^^ a >>> 3
def sg1 (b : UInt32) : UInt32 := rotr b 17 15 ^^^ rotr b 19 13 ^^^ b >>> 10
def nextW (f : Nat → UInt32) (j : Nat) : UInt32 := f (j - 16) + sg0 (f (j - 15)) + f (j - 7) + sg1 (f (j - 2))
def sprF (s : ByteArray) : Nat → Nat → UInt32
  | 0 => fun _ => 0
  | j + 1 => upd (sprF s j) j (if j < 16 then inF s (4 * j) 4 else nextW (sprF s j) j)
theorem sprF_high (s : ByteArray) : ∀ j i, j ≤ i → sprF s j i = 0
  | 0, _, _ => rfl
  | j + 1, i, h => by
    show upd _ _ _ i = 0
    unfold upd
    rw [if_neg (by omega)]
    exact sprF_high s j i (by omega)
theorem upd_upd (f : Nat → UInt32) (i : Nat) (x y : UInt32) : upd (upd f i x) i y = upd f i y := by
  funext j; unfold upd; split <;> rfl
theorem upd_id (f : Nat → UInt32) (i : Nat) (x : UInt32) (h : f i = x) : upd f i x = f := by
  funext j; unfold upd; split
  · rename_i e; rw [e, h]
  · rfl
theorem upd_at (f : Nat → UInt32) (i : Nat) (x : UInt32) : upd f i x i = x := by unfold upd; rw [if_pos rfl]
/-- The two boxes of spread. -/
structure BS (w : World) (f : Nat → UInt32) (y : World) : Prop where
  b0 : Blk y w.heap.size 265 (vw 64 fun _ => 0)
  b1 : Blk y (w.heap.size + 1) 265 (vw 64 f)
  hb : Below w.heap.size w y
theorem BS.drewN {w : World} {f : Nat → UInt32} {y : World} (h : BS w f y) (n : Nat) : BS w f (y.drewN n) := ⟨h.b0.drewN n, h.b1.drewN n, below_drewN h.hb n⟩
theorem BS.set {w : World} {f : Nat → UInt32} {y : World} (h : BS w f y) (i : Nat) (x : UInt32) : BS w (upd f i x) (y.setCell ⟨w.heap.size + 1, i, none⟩ (.int .u32 (n32 x))) :=
  ⟨h.b0.far (by show w.heap.size ≠ w.heap.size + 1; omega) _, h.b1.setw i x, h.hb.setCell (by show w.heap.size ≤ w.heap.size + 1; omega) _⟩
theorem BS.below {w : World} {f : Nat → UInt32} {y z : World} (h : BS w f y) (hb : Below y.heap.size y z) : BS w f z :=
  ⟨(hb.block _ h.b0.lt).trans h.b0, (hb.block _ h.b1.lt).trans h.b1, h.hb.trans (hb.mono h.hb.size)⟩
theorem wrap_i64_in (n : Int) (h0 : 0 ≤ n) (h1 : n < 1000000) : IntKind.i64.wrap n = n := by
  simp [IntKind.wrap, IntKind.bits, IntKind.signed]; omega
set_option maxHeartbeats 2000000 in
set_option maxRecDepth 100000 in
theorem spread_ok (s : ByteArray) (hs : s.size = 64) (w : World) :
    Calls Tryz.prog 190 #[.string s] w fun e w' => e = .returned (.agg (vw 64 (sprF s 64))) ∧ Below w.heap.size w w' := by
  have HS := Lib.hid hs
  clear hs
  have e0 : (vw 64 fun _ => 0) = #[.int .u32 0, .int .u32 0, .int .u32 0, .int .u32 0, .int .u32 0, .int .u32 0, .int .u32 0, .int .u32 0, .int .u32 0, .int .u32 0, .int .u32 0, .int .u32 0, .int .u32 0, .int .u32 0, .int .u32 0, .int .u32 0, .int .u32 0, .int .u32 0, .int .u32 0, .int .u32 0, .int .u32 0, .int .u32 0, .int .u32 0, .int .u32 0, .int .u32 0, .int .u32 0, .int .u32 0, .int .u32 0, .int .u32 0, .int .u32 0, .int .u32 0, .int .u32 0, .int .u32 0, .int .u32 0, .int .u32 0, .int .u32 0, .int .u32 0, .int .u32 0, .int .u32 0, .int .u32 0, .int .u32 0, .int .u32 0, .int .u32 0, .int .u32 0, .int .u32 0, .int .u32 0, .int .u32 0, .int .u32 0, .int .u32 0, .int .u32 0, .int .u32 0, .int .u32 0, .int .u32 0, .int .u32 0, .int .u32 0, .int .u32 0, .int .u32 0, .int .u32 0, .int .u32 0, .int .u32 0, .int .u32 0, .int .u32 0, .int .u32 0, .int .u32 0] := by rfl
  have HA0 : Hid (Blk (w.alloc (.cells (vw 64 fun _ => 0) 265)) w.heap.size 265 (vw 64 fun _ => 0)) := Blk.new w 265 _
  have HA1 : Hid (Blk ((w.alloc (.cells (vw 64 fun _ => 0) 265)).alloc (.cells (vw 64 fun _ => 0) 265)) (w.heap.size + 1) 265 (vw 64 fun _ => 0)) := blk_new1 w _ 265 _
  have HB0 : Hid (BS w (sprF s 0) ((w.alloc (.cells (vw 64 fun _ => 0) 265)).alloc (.cells (vw 64 fun _ => 0) 265))) := ⟨(HA0.out.alloc _), HA1.out, (((Below.refl _ _).alloc (Nat.le_refl _) _).alloc (by simp) _)⟩
  clear HA0 HA1
  rw [e0] at HB0
  clear e0
  go_enter Tryz.func190, Tryz.ntmps190
  go_wp2_with fail
  generalize (w.alloc (.cells #[.int .u32 0, .int .u32 0, .int .u32 0, .int .u32 0, .int .u32 0, .int .u32 0, .int .u32 0, .int .u32 0, .int .u32 0, .int .u32 0, .int .u32 0, .int .u32 0, .int .u32 0, .int .u32 0, .int .u32 0, .int .u32 0, .int .u32 0, .int .u32 0, .int .u32 0, .int .u32 0, .int .u32 0, .int .u32 0, .int .u32 0, .int .u32 0, .int .u32 0, .int .u32 0, .int .u32 0, .int .u32 0, .int .u32 0, .int .u32 0, .int .u32 0, .int .u32 0, .int .u32 0, .int .u32 0, .int .u32 0, .int .u32 0, .int .u32 0, .int .u32 0, .int .u32 0, .int .u32 0, .int .u32 0, .int .u32 0, .int .u32 0, .int .u32 0, .int .u32 0, .int .u32 0, .int .u32 0, .int .u32 0, .int .u32 0, .int .u32 0, .int .u32 0, .int .u32 0, .int .u32 0, .int .u32 0, .int .u32 0, .int .u32 0, .int .u32 0, .int .u32 0, .int .u32 0, .int .u32 0, .int .u32 0, .int .u32 0, .int .u32 0, .int .u32 0] 265)).alloc (.cells #[.int .u32 0, .int .u32 0, .int .u32 0, .int .u32 0, .int .u32 0, .int .u32 0, .int .u32 0, .int .u32 0, .int .u32 0, .int .u32 0, .int .u32 0, .int .u32 0, .int .u32 0, .int .u32 0, .int .u32 0, .int .u32 0, .int .u32 0, .int .u32 0, .int .u32 0, .int .u32 0, .int .u32 0, .int .u32 0, .int .u32 0, .int .u32 0, .int .u32 0, .int .u32 0, .int .u32 0, .int .u32 0, .int .u32 0, .int .u32 0, .int .u32 0, .int .u32 0, .int .u32 0, .int .u32 0, .int .u32 0, .int .u32 0, .int .u32 0, .int .u32 0, .int .u32 0, .int .u32 0, .int .u32 0, .int .u32 0, .int .u32 0, .int .u32 0, .int .u32 0, .int .u32 0, .int .u32 0, .int .u32 0, .int .u32 0, .int .u32 0, .int .u32 0, .int .u32 0, .int .u32 0, .int .u32 0, .int .u32 0, .int .u32 0, .int .u32 0, .int .u32 0, .int .u32 0, .int .u32 0, .int .u32 0, .int .u32 0, .int .u32 0, .int .u32 0] 265) = w1 at *
  go_loopg [9] (64 : Nat) (fun q i wr => ∃ (j : Nat), q + j = 64 ∧ i = .int .i64 (j : Int) ∧ BS w (sprF s j) wr)
  case atStart => exact ⟨0, rfl, rfl, HB0.out⟩
  case round =>
    obtain ⟨j, hj, rfl, hb⟩ := hrel
    have HB := Lib.hid hb
    clear hb HB0
    obtain ⟨wo, rfl⟩ : ∃ wo : World, wo = wr := ⟨_, rfl⟩
    obtain ⟨gko, rfl⟩ : ∃ g : Nat, g = gk := ⟨_, rfl⟩
    by_cases hlt : j < 64
    · have hd : decide ((j : Int) < 64) = true := by simp; omega
      by_cases h16 : j < 16
      · have hd16 : decide ((j : Int) < 16) = true := by simp; omega
        have hsl := fun w => slice_mid s (4 * j) (4 * j + 4) (4 * (j : Int)) (4 * (j : Int) + 4) (by omega) (by omega) (by omega) (by rw [HS.out]; omega) w
        obtain ⟨x4, hx4⟩ : ∃ x, x = s.extract (4 * j) (4 * j + 4) := ⟨_, rfl⟩
        have HXS : Hid (x4.size = 4) := by show _ = _; rw [hx4, ByteArray.size_extract, HS.out]; omega
        have HXG : Hid (∀ k, k < 4 → gb x4 k = gb s (4 * j + k)) := fun k hk => by
          rw [hx4]; exact gb_mid s _ _ k (by omega)
        rw [← hx4] at hsl
        clear hx4
        go_wp2_with (refine wpList_toBytes rfl (.tmp 20) (by rfl) x4 (by rfl) ?_; intro cap w2 ho hb hz; have HO := Lib.hid ho; have HB2 := Lib.hid hb; clear ho hb hz)
        have HB3 := Lib.hid (HB.out.below HB2.out)
        have HSZ : Hid (w.heap.size + 1 < wo.heap.size) := HB.out.b1.lt
        go_loopg [23] (4 : Nat) (fun q i wr => ∃ (k : Nat), q + k = 4 ∧ i = .int .i64 (k : Int) ∧ BS w (upd (sprF s j) j (inF s (4 * j) k)) wr ∧ OwnB wr wo.heap.size (.slice (some ⟨wo.heap.size, 0, none⟩) x4.size cap) x4.data.toList)
        case atStart => exact ⟨0, rfl, rfl, by rw [show inF s (4 * j) 0 = 0 from rfl, upd_id _ _ _ (sprF_high s j j (Nat.le_refl _))]; exact HB3.out, HO.out⟩
        case round =>
          obtain ⟨k, hk, rfl, hc, ho⟩ := hrel
          have HK := Lib.hid hc
          have HO2 := Lib.hid ho
          clear hc ho HO HB3 HB2 HB
          by_cases hlt2 : k < 4
          · have c1 := (HO2.out.at_).2.2.2.2.1 k (by have := HXS.out; show k < x4.size; omega)
            rw [gb_at, HXG.out k hlt2, Nat.zero_add] at c1
            have c2 := HK.out.b1.word j hlt
            rw [upd_at] at c2
            have c3 := HK.out.b1.frozen j
            have HI : Hid (inF s (4 * j) (k + 1) = inF s (4 * j) k <<< 8 ||| up32 (gb s (4 * j + k))) := rfl
            have hx4s : x4.size = 4 := HXS.out
            go_wp2_with fail
            go_roundg (gk - 1)
            case measure => omega
            case rel => exact ⟨k + 1, by omega, by go_num, by rw [HI.out, ← upd_upd (sprF s j) j (inF s (4 * j) k)]; exact HK.out.set j _, HO2.out.setFar (by show w.heap.size + 1 < wo.heap.size; exact HSZ.out) _⟩
          · obtain rfl : k = 4 := by omega
            have hx4s : x4.size = 4 := HXS.out
            go_wp2_with fail
            go_roundg (gko - 1)
            case measure => omega
            case rel => exact ⟨j + 1, by omega, by go_num, by rw [show sprF s (j + 1) = upd (sprF s j) j (inF s (4 * j) 4) by rw [sprF, if_pos h16]]; exact HK.out⟩
      · have hd16 : decide ((j : Int) < 16) = false := by simp; omega
        obtain ⟨p16, h16'⟩ : ∃ p, p = j - 16 := ⟨_, rfl⟩
        obtain ⟨p15, h15'⟩ : ∃ p, p = j - 15 := ⟨_, rfl⟩
        obtain ⟨p7, h7'⟩ : ∃ p, p = j - 7 := ⟨_, rfl⟩
        obtain ⟨p2, h2'⟩ : ∃ p, p = j - 2 := ⟨_, rfl⟩
        have HN : Hid (sprF s (j + 1) = upd (sprF s j) j (sprF s j p16 + sg0 (sprF s j p15) + sprF s j p7 + sg1 (sprF s j p2))) := by
          show _ = _
          rw [sprF, if_neg h16, nextW, h16', h15', h7', h2']
        have e16 : (j : Int) - 16 = (p16 : Int) := by omega
        have e15 : (j : Int) - 15 = (p15 : Int) := by omega
        have e7 : (j : Int) - 7 = (p7 : Int) := by omega
        have e2 : (j : Int) - 2 = (p2 : Int) := by omega
        have b15 : (p15 : Int) < 64 := by omega
        have b2 : (p2 : Int) < 64 := by omega
        have b16 : (p16 : Int) < 64 := by omega
        have b7 : (p7 : Int) < 64 := by omega
        have n15 : (0 : Int) ≤ p15 := by omega
        have w15 := wrap_i64_in (p15 : Int) (by omega) (by omega)
        have n2 : (0 : Int) ≤ p2 := by omega
        have w2 := wrap_i64_in (p2 : Int) (by omega) (by omega)
        have n16 : (0 : Int) ≤ p16 := by omega
        have w16 := wrap_i64_in (p16 : Int) (by omega) (by omega)
        have n7 : (0 : Int) ≤ p7 := by omega
        have w7 := wrap_i64_in (p7 : Int) (by omega) (by omega)
        have bj : (j : Int) < 64 := by omega
        have nj : (0 : Int) ≤ j := by omega
        have c1 := HB.out.b1.word p15 (by omega)
        have c2 := HB.out.b1.word p2 (by omega)
        clear h16' h15' h7' h2'
        generalize hA : sprF s j p15 = A at *
        generalize hB : sprF s j p2 = B at *
        clear hA hB
        go_wp2_with fail
        refine wp_region_plan (fun w' => w'.cell? ⟨w.heap.size + 1, p15, none⟩ = some (.int .u32 (n32 A)) ∧ w'.cell? ⟨w.heap.size + 1, p2, none⟩ = some (.int .u32 (n32 B))) 9 [(true, 0), (true, 1), (true, 2), (true, 3), (true, 4), (true, 5), (true, 6), (true, 7), (true, 8)] (by kernel_rfl) (by kernel_rfl) ⟨c1, c2⟩ ?_
        simp only [List.map_cons, List.map_nil, List.getD_cons_zero, List.getD_cons_succ, List.drop_succ_cons, List.drop_zero]
        (refine plan_take (v := ?_) rfl ?_ ?_; rotate_left; (intro wS hSw; (try dsimp only at hSw); go_simp; try with_reducible rfl); simp only [Act.put, List.setIfInBounds_toArray, List.set_cons_zero, List.set_cons_succ])
        (refine plan_take (v := ?_) rfl ?_ ?_; rotate_left; (intro wS hSw; (try dsimp only at hSw); go_simp; try with_reducible rfl); simp only [Act.put, List.setIfInBounds_toArray, List.set_cons_zero, List.set_cons_succ])
        (refine plan_take (v := ?_) rfl ?_ ?_; rotate_left; (intro wS hSw; (try dsimp only at hSw); go_simp; try with_reducible rfl); simp only [Act.put, List.setIfInBounds_toArray, List.set_cons_zero, List.set_cons_succ])
        (refine plan_take (v := ?_) rfl ?_ ?_; rotate_left; (intro wS hSw; (try dsimp only at hSw); go_simp; try with_reducible rfl); simp only [Act.put, List.setIfInBounds_toArray, List.set_cons_zero, List.set_cons_succ])
        (refine plan_take (v := ?_) rfl ?_ ?_; rotate_left; (intro wS hSw; (try dsimp only at hSw); go_simp; try with_reducible rfl); simp only [Act.put, List.setIfInBounds_toArray, List.set_cons_zero, List.set_cons_succ])
        (refine plan_take (v := ?_) rfl ?_ ?_; rotate_left; (intro wS hSw; (try dsimp only at hSw); go_simp; try with_reducible rfl); simp only [Act.put, List.setIfInBounds_toArray, List.set_cons_zero, List.set_cons_succ])
        (refine plan_take (v := ?_) rfl ?_ ?_; rotate_left; (intro wS hSw; (try dsimp only at hSw); go_simp; try with_reducible rfl); simp only [Act.put, List.setIfInBounds_toArray, List.set_cons_zero, List.set_cons_succ])
        (refine plan_take (v := ?_) rfl ?_ ?_; rotate_left; (intro wS hSw; (try dsimp only at hSw); go_simp; try with_reducible rfl); simp only [Act.put, List.setIfInBounds_toArray, List.set_cons_zero, List.set_cons_succ])
        (refine plan_take (v := ?_) rfl ?_ ?_; rotate_left; (intro wS hSw; (try dsimp only at hSw); go_simp; try with_reducible rfl); simp only [Act.put, List.setIfInBounds_toArray, List.set_cons_zero, List.set_cons_succ])
        refine plan_nil ?_
        go_wp2_with fail
        refine NoPanic.normal ?_
        clear c1 c2
        have c1 := HB.out.b1.word p16 (by omega)
        have c2 := HB.out.b1.word p7 (by omega)
        have c3 := HB.out.b1.frozen j
        have c4 := HB.out.b1.word j hlt
        generalize hC : sprF s j p16 = C at *
        generalize hD : sprF s j p7 = D at *
        clear hC hD
        go_wp2_with fail
        refine wp_region_plan (fun w' => w'.cell? ⟨w.heap.size + 1, p16, none⟩ = some (.int .u32 (n32 C)) ∧ w'.cell? ⟨w.heap.size + 1, p7, none⟩ = some (.int .u32 (n32 D))) 29 [(true, 0), (true, 1), (true, 2), (true, 3), (true, 4), (true, 5), (true, 7), (true, 10), (true, 11), (true, 14), (true, 15), (true, 16), (true, 17), (true, 19), (true, 21), (true, 24), (true, 25), (false, 6), (false, 8), (true, 9), (true, 12), (true, 13), (true, 18), (false, 20), (false, 22), (true, 23), (true, 26), (true, 27), (true, 28)] (by kernel_rfl) (by kernel_rfl) ⟨c1, c2⟩ ?_
        simp only [List.map_cons, List.map_nil, List.getD_cons_zero, List.getD_cons_succ, List.drop_succ_cons, List.drop_zero]
        (refine plan_take (v := ?_) rfl ?_ ?_; rotate_left; (intro wS hSw; (try dsimp only at hSw); go_simp; try with_reducible rfl); simp only [Act.put, List.setIfInBounds_toArray, List.set_cons_zero, List.set_cons_succ])
        (refine plan_take (v := ?_) rfl ?_ ?_; rotate_left; (intro wS hSw; (try dsimp only at hSw); go_simp; try with_reducible rfl); simp only [Act.put, List.setIfInBounds_toArray, List.set_cons_zero, List.set_cons_succ])
        (refine plan_take (v := ?_) rfl ?_ ?_; rotate_left; (intro wS hSw; (try dsimp only at hSw); go_simp; try with_reducible rfl); simp only [Act.put, List.setIfInBounds_toArray, List.set_cons_zero, List.set_cons_succ])
        (refine plan_take (v := ?_) rfl ?_ ?_; rotate_left; (intro wS hSw; (try dsimp only at hSw); go_simp; try with_reducible rfl); simp only [Act.put, List.setIfInBounds_toArray, List.set_cons_zero, List.set_cons_succ])
        (refine plan_take (v := ?_) rfl ?_ ?_; rotate_left; (intro wS hSw; (try dsimp only at hSw); go_simp; try with_reducible rfl); simp only [Act.put, List.setIfInBounds_toArray, List.set_cons_zero, List.set_cons_succ])
        (refine plan_take (v := ?_) rfl ?_ ?_; rotate_left; (intro wS hSw; (try dsimp only at hSw); go_simp; try with_reducible rfl); simp only [Act.put, List.setIfInBounds_toArray, List.set_cons_zero, List.set_cons_succ])
        (refine plan_take (v := ?_) rfl ?_ ?_; rotate_left; (intro wS hSw; (try dsimp only at hSw); go_simp; try with_reducible rfl); simp only [Act.put, List.setIfInBounds_toArray, List.set_cons_zero, List.set_cons_succ])
        (refine plan_take (v := ?_) rfl ?_ ?_; rotate_left; (intro wS hSw; (try dsimp only at hSw); go_simp; try with_reducible rfl); simp only [Act.put, List.setIfInBounds_toArray, List.set_cons_zero, List.set_cons_succ])
        (refine plan_take (v := ?_) rfl ?_ ?_; rotate_left; (intro wS hSw; (try dsimp only at hSw); go_simp; try with_reducible rfl); simp only [Act.put, List.setIfInBounds_toArray, List.set_cons_zero, List.set_cons_succ])
        (refine plan_take (v := ?_) rfl ?_ ?_; rotate_left; (intro wS hSw; (try dsimp only at hSw); go_simp; try with_reducible rfl); simp only [Act.put, List.setIfInBounds_toArray, List.set_cons_zero, List.set_cons_succ])
        (refine plan_take (v := ?_) rfl ?_ ?_; rotate_left; (intro wS hSw; (try dsimp only at hSw); go_simp; try with_reducible rfl); simp only [Act.put, List.setIfInBounds_toArray, List.set_cons_zero, List.set_cons_succ])
        (refine plan_take (v := ?_) rfl ?_ ?_; rotate_left; (intro wS hSw; (try dsimp only at hSw); go_simp; try with_reducible rfl); simp only [Act.put, List.setIfInBounds_toArray, List.set_cons_zero, List.set_cons_succ])
        (refine plan_take (v := ?_) rfl ?_ ?_; rotate_left; (intro wS hSw; (try dsimp only at hSw); go_simp; try with_reducible rfl); simp only [Act.put, List.setIfInBounds_toArray, List.set_cons_zero, List.set_cons_succ])
        (refine plan_take (v := ?_) rfl ?_ ?_; rotate_left; (intro wS hSw; (try dsimp only at hSw); go_simp; try with_reducible rfl); simp only [Act.put, List.setIfInBounds_toArray, List.set_cons_zero, List.set_cons_succ])
        (refine plan_take (v := ?_) rfl ?_ ?_; rotate_left; (intro wS hSw; (try dsimp only at hSw); go_simp; try with_reducible rfl); simp only [Act.put, List.setIfInBounds_toArray, List.set_cons_zero, List.set_cons_succ])
        (refine plan_take (v := ?_) rfl ?_ ?_; rotate_left; (intro wS hSw; (try dsimp only at hSw); go_simp; try with_reducible rfl); simp only [Act.put, List.setIfInBounds_toArray, List.set_cons_zero, List.set_cons_succ])
        (refine plan_take (v := ?_) rfl ?_ ?_; rotate_left; (intro wS hSw; (try dsimp only at hSw); go_simp; try with_reducible rfl); simp only [Act.put, List.setIfInBounds_toArray, List.set_cons_zero, List.set_cons_succ])
        refine plan_run rfl (fun K hK => ?_)
        go_simp
        refine (right_7 _ _).mono ?_
        rintro e w1 ⟨rfl, rfl⟩
        refine hK.out _ _ ⟨c1, c2⟩ ?_
        clear hK K
        try simp only [Act.put, List.setIfInBounds_toArray, List.set_cons_zero, List.set_cons_succ]
        refine plan_run rfl (fun K hK => ?_)
        go_simp
        refine (right_18 _ _).mono ?_
        rintro e w1 ⟨rfl, rfl⟩
        refine hK.out _ _ ⟨c1, c2⟩ ?_
        clear hK K
        try simp only [Act.put, List.setIfInBounds_toArray, List.set_cons_zero, List.set_cons_succ]
        (refine plan_take (v := ?_) rfl ?_ ?_; rotate_left; (intro wS hSw; (try dsimp only at hSw); go_simp; try with_reducible rfl); simp only [Act.put, List.setIfInBounds_toArray, List.set_cons_zero, List.set_cons_succ])
        (refine plan_take (v := ?_) rfl ?_ ?_; rotate_left; (intro wS hSw; (try dsimp only at hSw); go_simp; try with_reducible rfl); simp only [Act.put, List.setIfInBounds_toArray, List.set_cons_zero, List.set_cons_succ])
        (refine plan_take (v := ?_) rfl ?_ ?_; rotate_left; (intro wS hSw; (try dsimp only at hSw); go_simp; try with_reducible rfl); simp only [Act.put, List.setIfInBounds_toArray, List.set_cons_zero, List.set_cons_succ])
        (refine plan_take (v := ?_) rfl ?_ ?_; rotate_left; (intro wS hSw; (try dsimp only at hSw); go_simp; try with_reducible rfl); simp only [Act.put, List.setIfInBounds_toArray, List.set_cons_zero, List.set_cons_succ])
        refine plan_run rfl (fun K hK => ?_)
        go_simp
        refine (right_17 _ _).mono ?_
        rintro e w1 ⟨rfl, rfl⟩
        refine hK.out _ _ ⟨c1, c2⟩ ?_
        clear hK K
        try simp only [Act.put, List.setIfInBounds_toArray, List.set_cons_zero, List.set_cons_succ]
        refine plan_run rfl (fun K hK => ?_)
        go_simp
        refine (right_19 _ _).mono ?_
        rintro e w1 ⟨rfl, rfl⟩
        refine hK.out _ _ ⟨c1, c2⟩ ?_
        clear hK K
        try simp only [Act.put, List.setIfInBounds_toArray, List.set_cons_zero, List.set_cons_succ]
        (refine plan_take (v := ?_) rfl ?_ ?_; rotate_left; (intro wS hSw; (try dsimp only at hSw); go_simp; try with_reducible rfl); simp only [Act.put, List.setIfInBounds_toArray, List.set_cons_zero, List.set_cons_succ])
        (refine plan_take (v := ?_) rfl ?_ ?_; rotate_left; (intro wS hSw; (try dsimp only at hSw); go_simp; try with_reducible rfl); simp only [Act.put, List.setIfInBounds_toArray, List.set_cons_zero, List.set_cons_succ])
        (refine plan_take (v := ?_) rfl ?_ ?_; rotate_left; (intro wS hSw; (try dsimp only at hSw); go_simp; try with_reducible rfl); simp only [Act.put, List.setIfInBounds_toArray, List.set_cons_zero, List.set_cons_succ])
        (refine plan_take (v := ?_) rfl ?_ ?_; rotate_left; (intro wS hSw; (try dsimp only at hSw); go_simp; try with_reducible rfl); simp only [Act.put, List.setIfInBounds_toArray, List.set_cons_zero, List.set_cons_succ])
        refine plan_nil ?_
        go_wp2_with fail
        refine NoPanic.normal ?_
        go_wp2_with fail
        go_roundg (gko - 1)
        case measure => omega
        case rel => exact ⟨j + 1, by omega, by go_num, by rw [HN.out]; exact (HB.out.drewN 6).set j _⟩
    · obtain rfl : j = 64 := by omega
      have HB2 : Hid (Blk (wo.setRow w.heap.size (vw 64 (sprF s 64))) w.heap.size 265 (vw 64 (sprF s 64))) := HB.out.b0.row _
      go_wp2_with (first
        | (refine wpList_load_row rfl 265 (.tmp 3) (by rfl) (w.heap.size + 1) (by rfl) 265 (vw 64 (sprF s 64)) (0, 0) _ HB.out.b1 Tryz.underlying265 rfl (by rw [vw_size]; exact info265) ?_)
        | (refine wpList_store_row rfl 265 (.tmp 2) (.tmp 75) (by rfl) w.heap.size (vw 64 (sprF s 64)) (by rfl) (by rfl) 265 _ HB.out.b0 (by rw [vw_size]; exact info265) (by rw [vw_size, vw_size]) (vw_one _ _) ?_))
      refine bodyPost_ret (results_cell_row (fn := Tryz.f190) rfl _ _ w.heap.size 265 (vw 64 (sprF s 64)) (0, 0) _ (by rfl) HB2.out Tryz.underlying265 rfl (by rw [vw_size]; exact info265)) rfl ?_
      exact ⟨rfl, below_setRow HB.out.hb (Nat.le_refl _) _⟩

end Go.Proofs.YtimpjlnbbdfehaaGreatDoor
namespace Go.Proofs.YtimpjlnbbdfehaaGreatDoor
open Go.RowKit Go.Shelf Go.Lib Go.Sort
set_option linter.unusedVariables false
attribute [local go_sem ↓] shr_32_1 shl_32_1 shr_32_2 shl_32_2 shr_32_3 shl_32_3 shr_32_4 shl_32_4 shr_32_5 shl_32_5 shr_32_6 shl_32_6 shr_32_7 shl_32_7 shr_32_8 shl_32_8 shr_32_9 shl_32_9 shr_32_10 shl_32_10 shr_32_11 shl_32_11 shr_32_12 shl_32_12 shr_32_13 shl_32_13 shr_32_14 shl_32_14 shr_32_15 shl_32_15 shr_32_16 shl_32_16 shr_32_17 shl_32_17 shr_32_18 shl_32_18 shr_32_19 shl_32_19 shr_32_20 shl_32_20 shr_32_21 shl_32_21 shr_32_22 shl_32_22 shr_32_23 shl_32_23 shr_32_24 shl_32_24 shr_32_25 shl_32_25 shr_32_26 shl_32_26 shr_32_27 shl_32_27 shr_32_28 shl_32_28 shr_32_29 shl_32_29 shr_32_30 shl_32_30 shr_32_31 shl_32_31 shr_64_3 shl_64_3 shr_64_7 shl_64_7 shr_64_8 shl_64_8 shr_64_16 shl_64_16 shr_64_24 shl_64_24 shr_64_32 shl_64_32 shr_64_40 shl_64_40 shr_64_48 shl_64_48 shr_64_56 shl_64_56
attribute [local go_sem] add_u32 add_u64 and_u8 or_u8 xor_u8 and_u32 or_u32 xor_u32 and_u64 or_u64 xor_u64 conv_32_8 conv_64_8 conv_64_32 conv_8_32 conv_8_64 conv_32_64

def saltF (i : Nat) : UInt32 := [1116352408, 1899447441, 3049323471, 3921009573, 961987163, 1508970993, 2453635748, 2870763221, 3624381080, 310598401, 607225278, 1426881987, 1925078388, 2162078206, 2614888103, 3248222580, 3835390401, 4022224774, 264347078, 604807628, 770255983, 1249150122, 1555081692, 1996064986, 2554220882, 2821834349, 2952996808, 3210313671, 3336571891, 3584528711, 113926993, 338241895, 666307205, 773529912, 1294757372, 1396182291, 1695183700, 1986661051, 2177026350, 2456956037, 2730485921, 2820302411, 3259730800, 3345764771, 3516065817, 3600352804, 4094571909, 275423344, 430227734, 506948616, 659060556, 883997877, 958139571, 1322822218, 1537002063, 1747873779, 1955562222, 2024104815, 2227730452, 2361852424, 2428436474, 2756734187, 3204031479, 3329325298].getD i 0
/-- The laid words, as the memory has them. -/
def Salts (w : World) : Prop := 0 < w.heap.size ∧ ∀ i, i < 64 → w.cell? ⟨0, i, none⟩ = some (.int .u32 (n32 (saltF i)))
theorem Salts.below {w w' : World} (h : Salts w) (hb : Below w.heap.size w w') : Salts w' := ⟨Nat.lt_of_lt_of_le h.1 hb.size, fun i hi => (hb.cell (p := ⟨0, i, none⟩) h.1).trans (h.2 i hi)⟩
def bigA (a : UInt32) : UInt32 := rotr a 2 30 ^^^ rotr a 13 19 ^^^ rotr a 22 10
def bigE (e : UInt32) : UInt32 := rotr e 6 26 ^^^ rotr e 11 21 ^^^ rotr e 25 7
def tF (f : Nat → UInt32) (k x : UInt32) : UInt32 := f 7 + bigE (f 4) + (f 4 &&& f 5 ^^^ ~~~(f 4) &&& f 6) + k + x
def uF (f : Nat → UInt32) : UInt32 := bigA (f 0) + (f 0 &&& f 1 ^^^ f 0 &&& f 2 ^^^ f 1 &&& f 2)
def row8 (a b c d e f g h : UInt32) (i : Nat) : UInt32 := [a, b, c, d, e, f, g, h].getD i 0
def roundF (f : Nat → UInt32) (k x : UInt32) : Nat → UInt32 := row8 (tF f k x + uF f) (f 0) (f 1) (f 2) (f 3 + tF f k x) (f 4) (f 5) (f 6)
theorem vw_row8 (a b c d e f g h : UInt32) : vw 8 (row8 a b c d e f g h) = #[.int .u32 (n32 a), .int .u32 (n32 b), .int .u32 (n32 c), .int .u32 (n32 d), .int .u32 (n32 e), .int .u32 (n32 f), .int .u32 (n32 g), .int .u32 (n32 h)] := by rfl
def rndF (h wd : Nat → UInt32) : Nat → Nat → UInt32
  | 0 => h
  | j + 1 => roundF (rndF h wd j) (saltF j) (wd j)
def addUp (h x : Nat → UInt32) : Nat → Nat → UInt32
  | 0 => h
  | j + 1 => upd (addUp h x j) j (addUp h x j j + x j)
/-- A sum's words behind sixty-four more bytes. -/
def withF (h : Nat → UInt32) (s : ByteArray) : Nat → UInt32 := addUp h (rndF h (sprF s 64) 64) 8
theorem not_u32 (a : UInt32) : bits .xor .u32 IntKind.u32.max (n32 a) = n32 (~~~a) := by
  have h : IntKind.u32.max = n32 0xFFFFFFFF := by rfl
  rw [h, xor_u32]
  congr 1
attribute [local go_sem] not_u32
structure WB (w : World) (h x : Nat → UInt32) (y : World) : Prop where
  b0 : Blk y w.heap.size 236 (vw 8 h)
  b1 : Blk y (w.heap.size + 1) 236 (vw 8 fun _ => 0)
  b2 : Blk y (w.heap.size + 2) 236 (vw 8 x)
  hb : Below w.heap.size w y
theorem WB.drewN {w : World} {h x : Nat → UInt32} {y : World} (H : WB w h x y) (n : Nat) : WB w h x (y.drewN n) := ⟨H.b0.drewN n, H.b1.drewN n, H.b2.drewN n, below_drewN H.hb n⟩
theorem WB.set0 {w : World} {h x : Nat → UInt32} {y : World} (H : WB w h x y) (i : Nat) (v : UInt32) : WB w (upd h i v) x (y.setCell ⟨w.heap.size, i, none⟩ (.int .u32 (n32 v))) :=
  ⟨H.b0.setw i v, H.b1.far (by show w.heap.size + 1 ≠ w.heap.size; omega) _, H.b2.far (by show w.heap.size + 2 ≠ w.heap.size; omega) _, H.hb.setCell (by show w.heap.size ≤ w.heap.size; omega) _⟩
theorem WB.row2 {w : World} {h x : Nat → UInt32} {y : World} (H : WB w h x y) (x' : Nat → UInt32) : WB w h x' (y.setRow (w.heap.size + 2) (vw 8 x')) :=
  ⟨H.b0.farRow (by omega) _, H.b1.farRow (by omega) _, H.b2.row _, below_setRow H.hb (by omega) _⟩
theorem WB.below {w : World} {h x : Nat → UInt32} {y z : World} (H : WB w h x y) (hb : Below y.heap.size y z) : WB w h x z :=
  ⟨(hb.block _ H.b0.lt).trans H.b0, (hb.block _ H.b1.lt).trans H.b1, (hb.block _ H.b2.lt).trans H.b2, H.hb.trans (hb.mono H.hb.size)⟩
set_option maxHeartbeats 4000000 in
set_option maxRecDepth 100000 in
theorem with_ok (h : Nat → UInt32) (s : ByteArray) (hs : s.size = 64) (w : World) (hT : Salts w) :
    Calls Tryz.prog 157 #[.agg (vw 8 h), .string s] w fun e w' => e = .returned (.agg (vw 8 (withF h s))) ∧ Below w.heap.size w w' := by
  have HT := Lib.hid hT
  have HSP := Lib.hid (fun w => spread_ok s hs w)
  have HW : Hid (withF h s = addUp h (rndF h (sprF s 64) 64) 8) := rfl
  clear hs hT
  generalize withF h s = RES at *
  generalize sprF s 64 = wd at *
  have e0 : (vw 8 fun _ => 0) = #[.int .u32 0, .int .u32 0, .int .u32 0, .int .u32 0, .int .u32 0, .int .u32 0, .int .u32 0, .int .u32 0] := by rfl
  have HA0 : Hid (Blk ((w.alloc (.cells (vw 8 h) 236)).alloc (.cells (vw 8 fun _ => 0) 236)) w.heap.size 236 (vw 8 h)) := Lib.hid ((Blk.new w 236 _).alloc _)
  have HA1 : Hid (Blk (((w.alloc (.cells (vw 8 h) 236)).alloc (.cells (vw 8 fun _ => 0) 236)).alloc (.cells (vw 8 fun _ => 0) 236)) (w.heap.size + 2) 236 (vw 8 fun _ => 0)) := by
    have hq := blk_new1 (w.alloc (.cells (vw 8 h) 236)) (.cells (vw 8 fun _ => 0) 236) 236 (vw 8 fun _ => 0)
    rw [show (w.alloc (.cells (vw 8 h) 236)).heap.size + 1 = w.heap.size + 2 by simp] at hq
    exact hq
  have HB0 : Hid (WB w h h ((((w.alloc (.cells (vw 8 h) 236)).alloc (.cells (vw 8 fun _ => 0) 236)).alloc (.cells (vw 8 fun _ => 0) 236)).setRow (w.heap.size + 2) (vw 8 h))) :=
    ⟨(HA0.out.alloc _).farRow (by omega) _, ((blk_new1 w _ 236 _).alloc _).farRow (by omega) _, HA1.out.row _, below_setRow (((((Below.refl _ _).alloc (Nat.le_refl _) _).alloc (by simp) _)).alloc (by simp; omega) _) (by omega) _⟩
  rw [e0] at HA0 HA1 HB0
  clear e0
  go_enter Tryz.func157, Tryz.ntmps157
  go_wp2_with (first
    | (refine wpList_load_row rfl 236 (.tmp 2) (by rfl) w.heap.size (by rfl) 236 (vw 8 h) (0, 0) _ HA0.out Tryz.underlying236 rfl (by rw [vw_size]; exact info236) ?_)
    | (refine wpList_store_row rfl 236 (.tmp 5) (.tmp 13) (by rfl) (w.heap.size + 2) (vw 8 h) (by rfl) (by rfl) 236 _ HA1.out info236 (by rw [vw_size]; rfl) (vw_one _ _) ?_)
    | (go_at_call 190; refine (HSP.out _).mono ?_; rintro e w2 ⟨rfl, hb⟩; have HBS := Lib.hid hb; clear hb))
  have HB1 := Lib.hid (HB0.out.below HBS.out)
  have HT1 : Hid (Salts w2) := HT.out.below HB1.out.hb
  clear HB0 HA0 HA1 HBS HSP HT
  go_loopg [16] (64 : Nat) (fun q i wr => ∃ (j : Nat), q + j = 64 ∧ i = .int .i64 (j : Int) ∧ WB w h (rndF h wd j) wr ∧ Salts wr)
  case atStart => exact ⟨0, rfl, rfl, HB1.out, HT1.out⟩
  case round =>
    obtain ⟨j, hj, rfl, hb, ht⟩ := hrel
    have HB := Lib.hid hb
    have HT := Lib.hid ht
    clear hb ht HB1 HT1
    by_cases hlt : j < 64
    · have hix := fun w => ix_vw 64 wd 265 Tryz.underlying265 j hlt w
      have bj : (j : Int) < 64 := by omega
      have nj : (0 : Int) ≤ j := by omega
      have wj := wrap_i64_in (j : Int) (by omega) (by omega)
      have hd : decide ((j : Int) < 64) = true := by simp; omega
      have HR : Hid (rndF h wd (j + 1) = roundF (rndF h wd j) (saltF j) (wd j)) := rfl
      have d0 := HB.out.b2.word 0 (by omega)
      have d1 := HB.out.b2.word 1 (by omega)
      have d2 := HB.out.b2.word 2 (by omega)
      have d3 := HB.out.b2.word 3 (by omega)
      have d4 := HB.out.b2.word 4 (by omega)
      have d5 := HB.out.b2.word 5 (by omega)
      have d6 := HB.out.b2.word 6 (by omega)
      have d7 := HB.out.b2.word 7 (by omega)
      have dk := HT.out.2 j hlt
      generalize wd j = xj at *
      generalize saltF j = kj at *
      generalize rndF h wd j = f at *
      have HROW := Lib.hid (fun y (H : WB w h f y) => H.row2 (roundF f kj xj))
      have HRW : Hid (vw 8 (roundF f kj xj) = #[.int .u32 (n32 (tF f kj xj + uF f)), .int .u32 (n32 (f 0)), .int .u32 (n32 (f 1)), .int .u32 (n32 (f 2)), .int .u32 (n32 (f 3 + tF f kj xj)), .int .u32 (n32 (f 4)), .int .u32 (n32 (f 5)), .int .u32 (n32 (f 6))]) := vw_row8 _ _ _ _ _ _ _ _
      have HTF : Hid (tF f kj xj = f 7 + bigE (f 4) + (f 4 &&& f 5 ^^^ ~~~(f 4) &&& f 6) + kj + xj) := rfl
      have HUF : Hid (uF f = bigA (f 0) + (f 0 &&& f 1 ^^^ f 0 &&& f 2 ^^^ f 1 &&& f 2)) := rfl
      go_wp2_with fail
      refine wp_region_plan (fun w' => w'.cell? ⟨w.heap.size + 2, 0, none⟩ = some (.int .u32 (n32 (f 0))) ∧ w'.cell? ⟨w.heap.size + 2, 4, none⟩ = some (.int .u32 (n32 (f 4)))) 5 [(true, 0), (true, 1), (true, 2), (true, 3), (true, 4)] (by kernel_rfl) (by kernel_rfl) ⟨d0, d4⟩ ?_
      simp only [List.map_cons, List.map_nil, List.getD_cons_zero, List.getD_cons_succ, List.drop_succ_cons, List.drop_zero]
      (refine plan_take (v := ?_) rfl ?_ ?_; rotate_left; (intro wS hSw; (try dsimp only at hSw); go_simp; try with_reducible rfl); simp only [Act.put, List.setIfInBounds_toArray, List.set_cons_zero, List.set_cons_succ])
      (refine plan_take (v := ?_) rfl ?_ ?_; rotate_left; (intro wS hSw; (try dsimp only at hSw); go_simp; try with_reducible rfl); simp only [Act.put, List.setIfInBounds_toArray, List.set_cons_zero, List.set_cons_succ])
      (refine plan_take (v := ?_) rfl ?_ ?_; rotate_left; (intro wS hSw; (try dsimp only at hSw); go_simp; try with_reducible rfl); simp only [Act.put, List.setIfInBounds_toArray, List.set_cons_zero, List.set_cons_succ])
      (refine plan_take (v := ?_) rfl ?_ ?_; rotate_left; (intro wS hSw; (try dsimp only at hSw); go_simp; try with_reducible rfl); simp only [Act.put, List.setIfInBounds_toArray, List.set_cons_zero, List.set_cons_succ])
      (refine plan_take (v := ?_) rfl ?_ ?_; rotate_left; (intro wS hSw; (try dsimp only at hSw); go_simp; try with_reducible rfl); simp only [Act.put, List.setIfInBounds_toArray, List.set_cons_zero, List.set_cons_succ])
      refine plan_nil ?_
      go_wp2_with fail
      refine NoPanic.normal ?_
      go_wp2_with fail
      refine wp_region_plan (fun w' => w'.cell? ⟨w.heap.size + 2, 7, none⟩ = some (.int .u32 (n32 (f 7))) ∧ w'.cell? ⟨w.heap.size + 2, 5, none⟩ = some (.int .u32 (n32 (f 5))) ∧ w'.cell? ⟨w.heap.size + 2, 6, none⟩ = some (.int .u32 (n32 (f 6))) ∧ w'.cell? ⟨0, j, none⟩ = some (.int .u32 (n32 kj))) 28 [(true, 0), (true, 1), (true, 2), (true, 4), (true, 7), (true, 11), (true, 12), (true, 13), (true, 14), (true, 15), (true, 16), (true, 17), (true, 18), (true, 19), (true, 20), (true, 22), (true, 23), (true, 24), (true, 26), (false, 3), (false, 5), (true, 6), (false, 8), (true, 9), (true, 10), (true, 21), (true, 25), (true, 27)] (by kernel_rfl) (by kernel_rfl) ⟨d7, d5, d6, dk⟩ ?_
      simp only [List.map_cons, List.map_nil, List.getD_cons_zero, List.getD_cons_succ, List.drop_succ_cons, List.drop_zero]
      (refine plan_take (v := ?_) rfl ?_ ?_; rotate_left; (intro wS hSw; (try dsimp only at hSw); go_simp; try with_reducible rfl); simp only [Act.put, List.setIfInBounds_toArray, List.set_cons_zero, List.set_cons_succ])
      (refine plan_take (v := ?_) rfl ?_ ?_; rotate_left; (intro wS hSw; (try dsimp only at hSw); go_simp; try with_reducible rfl); simp only [Act.put, List.setIfInBounds_toArray, List.set_cons_zero, List.set_cons_succ])
      (refine plan_take (v := ?_) rfl ?_ ?_; rotate_left; (intro wS hSw; (try dsimp only at hSw); go_simp; try with_reducible rfl); simp only [Act.put, List.setIfInBounds_toArray, List.set_cons_zero, List.set_cons_succ])
      (refine plan_take (v := ?_) rfl ?_ ?_; rotate_left; (intro wS hSw; (try dsimp only at hSw); go_simp; try with_reducible rfl); simp only [Act.put, List.setIfInBounds_toArray, List.set_cons_zero, List.set_cons_succ])
      (refine plan_take (v := ?_) rfl ?_ ?_; rotate_left; (intro wS hSw; (try dsimp only at hSw); go_simp; try with_reducible rfl); simp only [Act.put, List.setIfInBounds_toArray, List.set_cons_zero, List.set_cons_succ])
      (refine plan_take (v := ?_) rfl ?_ ?_; rotate_left; (intro wS hSw; (try dsimp only at hSw); go_simp; try with_reducible rfl); simp only [Act.put, List.setIfInBounds_toArray, List.set_cons_zero, List.set_cons_succ])
      (refine plan_take (v := ?_) rfl ?_ ?_; rotate_left; (intro wS hSw; (try dsimp only at hSw); go_simp; try with_reducible rfl); simp only [Act.put, List.setIfInBounds_toArray, List.set_cons_zero, List.set_cons_succ])
      (refine plan_take (v := ?_) rfl ?_ ?_; rotate_left; (intro wS hSw; (try dsimp only at hSw); go_simp; try with_reducible rfl); simp only [Act.put, List.setIfInBounds_toArray, List.set_cons_zero, List.set_cons_succ])
      (refine plan_take (v := ?_) rfl ?_ ?_; rotate_left; (intro wS hSw; (try dsimp only at hSw); go_simp; try with_reducible rfl); simp only [Act.put, List.setIfInBounds_toArray, List.set_cons_zero, List.set_cons_succ])
      (refine plan_take (v := ?_) rfl ?_ ?_; rotate_left; (intro wS hSw; (try dsimp only at hSw); go_simp; try with_reducible rfl); simp only [Act.put, List.setIfInBounds_toArray, List.set_cons_zero, List.set_cons_succ])
      (refine plan_take (v := ?_) rfl ?_ ?_; rotate_left; (intro wS hSw; (try dsimp only at hSw); go_simp; try with_reducible rfl); simp only [Act.put, List.setIfInBounds_toArray, List.set_cons_zero, List.set_cons_succ])
      (refine plan_take (v := ?_) rfl ?_ ?_; rotate_left; (intro wS hSw; (try dsimp only at hSw); go_simp; try with_reducible rfl); simp only [Act.put, List.setIfInBounds_toArray, List.set_cons_zero, List.set_cons_succ])
      (refine plan_take (v := ?_) rfl ?_ ?_; rotate_left; (intro wS hSw; (try dsimp only at hSw); go_simp; try with_reducible rfl); simp only [Act.put, List.setIfInBounds_toArray, List.set_cons_zero, List.set_cons_succ])
      (refine plan_take (v := ?_) rfl ?_ ?_; rotate_left; (intro wS hSw; (try dsimp only at hSw); go_simp; try with_reducible rfl); simp only [Act.put, List.setIfInBounds_toArray, List.set_cons_zero, List.set_cons_succ])
      (refine plan_take (v := ?_) rfl ?_ ?_; rotate_left; (intro wS hSw; (try dsimp only at hSw); go_simp; try with_reducible rfl); simp only [Act.put, List.setIfInBounds_toArray, List.set_cons_zero, List.set_cons_succ])
      (refine plan_take (v := ?_) rfl ?_ ?_; rotate_left; (intro wS hSw; (try dsimp only at hSw); go_simp; try with_reducible rfl); simp only [Act.put, List.setIfInBounds_toArray, List.set_cons_zero, List.set_cons_succ])
      (refine plan_take (v := ?_) rfl ?_ ?_; rotate_left; (intro wS hSw; (try dsimp only at hSw); go_simp; try with_reducible rfl); simp only [Act.put, List.setIfInBounds_toArray, List.set_cons_zero, List.set_cons_succ])
      (refine plan_take (v := ?_) rfl ?_ ?_; rotate_left; (intro wS hSw; (try dsimp only at hSw); go_simp; try with_reducible rfl); simp only [Act.put, List.setIfInBounds_toArray, List.set_cons_zero, List.set_cons_succ])
      (refine plan_take (v := ?_) rfl ?_ ?_; rotate_left; (intro wS hSw; (try dsimp only at hSw); go_simp; try with_reducible rfl); simp only [Act.put, List.setIfInBounds_toArray, List.set_cons_zero, List.set_cons_succ])
      refine plan_run rfl (fun K hK => ?_)
      go_simp
      refine (right_6 _ _).mono ?_
      rintro e w1 ⟨rfl, rfl⟩
      refine hK.out _ _ ⟨d7, d5, d6, dk⟩ ?_
      clear hK K
      try simp only [Act.put, List.setIfInBounds_toArray, List.set_cons_zero, List.set_cons_succ]
      refine plan_run rfl (fun K hK => ?_)
      go_simp
      refine (right_11 _ _).mono ?_
      rintro e w1 ⟨rfl, rfl⟩
      refine hK.out _ _ ⟨d7, d5, d6, dk⟩ ?_
      clear hK K
      try simp only [Act.put, List.setIfInBounds_toArray, List.set_cons_zero, List.set_cons_succ]
      (refine plan_take (v := ?_) rfl ?_ ?_; rotate_left; (intro wS hSw; (try dsimp only at hSw); go_simp; try with_reducible rfl); simp only [Act.put, List.setIfInBounds_toArray, List.set_cons_zero, List.set_cons_succ])
      refine plan_run rfl (fun K hK => ?_)
      go_simp
      refine (right_25 _ _).mono ?_
      rintro e w1 ⟨rfl, rfl⟩
      refine hK.out _ _ ⟨d7, d5, d6, dk⟩ ?_
      clear hK K
      try simp only [Act.put, List.setIfInBounds_toArray, List.set_cons_zero, List.set_cons_succ]
      (refine plan_take (v := ?_) rfl ?_ ?_; rotate_left; (intro wS hSw; (try dsimp only at hSw); go_simp; try with_reducible rfl); simp only [Act.put, List.setIfInBounds_toArray, List.set_cons_zero, List.set_cons_succ])
      (refine plan_take (v := ?_) rfl ?_ ?_; rotate_left; (intro wS hSw; (try dsimp only at hSw); go_simp; try with_reducible rfl); simp only [Act.put, List.setIfInBounds_toArray, List.set_cons_zero, List.set_cons_succ])
      (refine plan_take (v := ?_) rfl ?_ ?_; rotate_left; (intro wS hSw; (try dsimp only at hSw); go_simp; try with_reducible rfl); simp only [Act.put, List.setIfInBounds_toArray, List.set_cons_zero, List.set_cons_succ])
      (refine plan_take (v := ?_) rfl ?_ ?_; rotate_left; (intro wS hSw; (try dsimp only at hSw); go_simp; try with_reducible rfl); simp only [Act.put, List.setIfInBounds_toArray, List.set_cons_zero, List.set_cons_succ])
      (refine plan_take (v := ?_) rfl ?_ ?_; rotate_left; (intro wS hSw; (try dsimp only at hSw); go_simp; try with_reducible rfl); simp only [Act.put, List.setIfInBounds_toArray, List.set_cons_zero, List.set_cons_succ])
      refine plan_nil ?_
      go_wp2_with fail
      refine NoPanic.normal ?_
      go_wp2_with fail
      refine wp_region_plan (fun w' => w'.cell? ⟨w.heap.size + 2, 1, none⟩ = some (.int .u32 (n32 (f 1))) ∧ w'.cell? ⟨w.heap.size + 2, 2, none⟩ = some (.int .u32 (n32 (f 2)))) 24 [(true, 0), (true, 2), (true, 5), (true, 8), (true, 9), (true, 10), (true, 11), (true, 12), (true, 13), (true, 14), (true, 15), (true, 16), (true, 17), (true, 18), (true, 19), (true, 20), (true, 21), (true, 22), (false, 1), (false, 3), (true, 4), (false, 6), (true, 7), (true, 23)] (by kernel_rfl) (by kernel_rfl) ⟨d1, d2⟩ ?_
      simp only [List.map_cons, List.map_nil, List.getD_cons_zero, List.getD_cons_succ, List.drop_succ_cons, List.drop_zero]
      (refine plan_take (v := ?_) rfl ?_ ?_; rotate_left; (intro wS hSw; (try dsimp only at hSw); go_simp; try with_reducible rfl); simp only [Act.put, List.setIfInBounds_toArray, List.set_cons_zero, List.set_cons_succ])
      (refine plan_take (v := ?_) rfl ?_ ?_; rotate_left; (intro wS hSw; (try dsimp only at hSw); go_simp; try with_reducible rfl); simp only [Act.put, List.setIfInBounds_toArray, List.set_cons_zero, List.set_cons_succ])
      (refine plan_take (v := ?_) rfl ?_ ?_; rotate_left; (intro wS hSw; (try dsimp only at hSw); go_simp; try with_reducible rfl); simp only [Act.put, List.setIfInBounds_toArray, List.set_cons_zero, List.set_cons_succ])
      (refine plan_take (v := ?_) rfl ?_ ?_; rotate_left; (intro wS hSw; (try dsimp only at hSw); go_simp; try with_reducible rfl); simp only [Act.put, List.setIfInBounds_toArray, List.set_cons_zero, List.set_cons_succ])
      (refine plan_take (v := ?_) rfl ?_ ?_; rotate_left; (intro wS hSw; (try dsimp only at hSw); go_simp; try with_reducible rfl); simp only [Act.put, List.setIfInBounds_toArray, List.set_cons_zero, List.set_cons_succ])
      (refine plan_take (v := ?_) rfl ?_ ?_; rotate_left; (intro wS hSw; (try dsimp only at hSw); go_simp; try with_reducible rfl); simp only [Act.put, List.setIfInBounds_toArray, List.set_cons_zero, List.set_cons_succ])
      (refine plan_take (v := ?_) rfl ?_ ?_; rotate_left; (intro wS hSw; (try dsimp only at hSw); go_simp; try with_reducible rfl); simp only [Act.put, List.setIfInBounds_toArray, List.set_cons_zero, List.set_cons_succ])
      (refine plan_take (v := ?_) rfl ?_ ?_; rotate_left; (intro wS hSw; (try dsimp only at hSw); go_simp; try with_reducible rfl); simp only [Act.put, List.setIfInBounds_toArray, List.set_cons_zero, List.set_cons_succ])
      (refine plan_take (v := ?_) rfl ?_ ?_; rotate_left; (intro wS hSw; (try dsimp only at hSw); go_simp; try with_reducible rfl); simp only [Act.put, List.setIfInBounds_toArray, List.set_cons_zero, List.set_cons_succ])
      (refine plan_take (v := ?_) rfl ?_ ?_; rotate_left; (intro wS hSw; (try dsimp only at hSw); go_simp; try with_reducible rfl); simp only [Act.put, List.setIfInBounds_toArray, List.set_cons_zero, List.set_cons_succ])
      (refine plan_take (v := ?_) rfl ?_ ?_; rotate_left; (intro wS hSw; (try dsimp only at hSw); go_simp; try with_reducible rfl); simp only [Act.put, List.setIfInBounds_toArray, List.set_cons_zero, List.set_cons_succ])
      (refine plan_take (v := ?_) rfl ?_ ?_; rotate_left; (intro wS hSw; (try dsimp only at hSw); go_simp; try with_reducible rfl); simp only [Act.put, List.setIfInBounds_toArray, List.set_cons_zero, List.set_cons_succ])
      (refine plan_take (v := ?_) rfl ?_ ?_; rotate_left; (intro wS hSw; (try dsimp only at hSw); go_simp; try with_reducible rfl); simp only [Act.put, List.setIfInBounds_toArray, List.set_cons_zero, List.set_cons_succ])
      (refine plan_take (v := ?_) rfl ?_ ?_; rotate_left; (intro wS hSw; (try dsimp only at hSw); go_simp; try with_reducible rfl); simp only [Act.put, List.setIfInBounds_toArray, List.set_cons_zero, List.set_cons_succ])
      (refine plan_take (v := ?_) rfl ?_ ?_; rotate_left; (intro wS hSw; (try dsimp only at hSw); go_simp; try with_reducible rfl); simp only [Act.put, List.setIfInBounds_toArray, List.set_cons_zero, List.set_cons_succ])
      (refine plan_take (v := ?_) rfl ?_ ?_; rotate_left; (intro wS hSw; (try dsimp only at hSw); go_simp; try with_reducible rfl); simp only [Act.put, List.setIfInBounds_toArray, List.set_cons_zero, List.set_cons_succ])
      (refine plan_take (v := ?_) rfl ?_ ?_; rotate_left; (intro wS hSw; (try dsimp only at hSw); go_simp; try with_reducible rfl); simp only [Act.put, List.setIfInBounds_toArray, List.set_cons_zero, List.set_cons_succ])
      (refine plan_take (v := ?_) rfl ?_ ?_; rotate_left; (intro wS hSw; (try dsimp only at hSw); go_simp; try with_reducible rfl); simp only [Act.put, List.setIfInBounds_toArray, List.set_cons_zero, List.set_cons_succ])
      refine plan_run rfl (fun K hK => ?_)
      go_simp
      refine (right_2 _ _).mono ?_
      rintro e w1 ⟨rfl, rfl⟩
      refine hK.out _ _ ⟨d1, d2⟩ ?_
      clear hK K
      try simp only [Act.put, List.setIfInBounds_toArray, List.set_cons_zero, List.set_cons_succ]
      refine plan_run rfl (fun K hK => ?_)
      go_simp
      refine (right_13 _ _).mono ?_
      rintro e w1 ⟨rfl, rfl⟩
      refine hK.out _ _ ⟨d1, d2⟩ ?_
      clear hK K
      try simp only [Act.put, List.setIfInBounds_toArray, List.set_cons_zero, List.set_cons_succ]
      (refine plan_take (v := ?_) rfl ?_ ?_; rotate_left; (intro wS hSw; (try dsimp only at hSw); go_simp; try with_reducible rfl); simp only [Act.put, List.setIfInBounds_toArray, List.set_cons_zero, List.set_cons_succ])
      refine plan_run rfl (fun K hK => ?_)
      go_simp
      refine (right_22 _ _).mono ?_
      rintro e w1 ⟨rfl, rfl⟩
      refine hK.out _ _ ⟨d1, d2⟩ ?_
      clear hK K
      try simp only [Act.put, List.setIfInBounds_toArray, List.set_cons_zero, List.set_cons_succ]
      (refine plan_take (v := ?_) rfl ?_ ?_; rotate_left; (intro wS hSw; (try dsimp only at hSw); go_simp; try with_reducible rfl); simp only [Act.put, List.setIfInBounds_toArray, List.set_cons_zero, List.set_cons_succ])
      (refine plan_take (v := ?_) rfl ?_ ?_; rotate_left; (intro wS hSw; (try dsimp only at hSw); go_simp; try with_reducible rfl); simp only [Act.put, List.setIfInBounds_toArray, List.set_cons_zero, List.set_cons_succ])
      refine plan_nil ?_
      go_wp2_with fail
      refine NoPanic.normal ?_
      go_wp2_with (first
        | (refine wpList_store_row rfl 236 (.tmp 5) (.tmp 93) (by rfl) (w.heap.size + 2) (vw 8 (roundF f kj xj)) (by rfl) (by rw [HRW.out]; rfl) 236 _ (HB.out.drewN 8).b2 (by rw [vw_size]; exact info236) (by rw [vw_size, vw_size]) (vw_one _ _) ?_))
      go_roundg (gk - 1)
      case measure => omega
      case rel => exact ⟨j + 1, by omega, by go_num, by rw [HR.out]; exact HROW.out _ (HB.out.drewN 9), ⟨by simpa [World.setRow] using HT.out.1, fun i hi => by
          rw [← HT.out.2 i hi]
          unfold World.cell?
          rw [setRow_other _ _ _ _ (show 0 ≠ w.heap.size + 2 by omega)]
          rfl⟩⟩
    · obtain rfl : j = 64 := by omega
      clear HT
      generalize rndF h wd 64 = x at *
      have HB0 : Hid (WB w (addUp h x 0) x wr) := HB.out
      clear HB
      go_wp2_with fail
      go_loopg [95] (8 : Nat) (fun q i wr => ∃ (j : Nat), q + j = 8 ∧ i = .int .i64 (j : Int) ∧ WB w (addUp h x j) x wr)
      case atStart => exact ⟨0, rfl, rfl, HB0.out⟩
      case round =>
        obtain ⟨j, hj, rfl, hb⟩ := hrel
        have HB := Lib.hid hb
        clear hb HB0
        by_cases hlt : j < 8
        · have bj : (j : Int) < 8 := by omega
          have nj : (0 : Int) ≤ j := by omega
          have wj := wrap_i64_in (j : Int) (by omega) (by omega)
          have c1 := HB.out.b0.word j hlt
          have c2 := HB.out.b2.word j hlt
          have c3 := HB.out.b0.frozen j
          have HS : Hid (addUp h x (j + 1) = upd (addUp h x j) j (addUp h x j j + x j)) := rfl
          generalize hA : addUp h x j j = A at *
          clear hA
          generalize x j = B at *
          go_wp2_with fail
          refine wp_region_plan (fun w' => w'.cell? ⟨w.heap.size, j, none⟩ = some (.int .u32 (n32 A)) ∧ w'.cell? ⟨w.heap.size + 2, j, none⟩ = some (.int .u32 (n32 B))) 8 [(true, 0), (true, 1), (true, 2), (true, 3), (true, 4), (true, 5), (true, 6), (true, 7)] (by kernel_rfl) (by kernel_rfl) ⟨c1, c2⟩ ?_
          simp only [List.map_cons, List.map_nil, List.getD_cons_zero, List.getD_cons_succ, List.drop_succ_cons, List.drop_zero]
          (refine plan_take (v := ?_) rfl ?_ ?_; rotate_left; (intro wS hSw; (try dsimp only at hSw); go_simp; try with_reducible rfl); simp only [Act.put, List.setIfInBounds_toArray, List.set_cons_zero, List.set_cons_succ])
          (refine plan_take (v := ?_) rfl ?_ ?_; rotate_left; (intro wS hSw; (try dsimp only at hSw); go_simp; try with_reducible rfl); simp only [Act.put, List.setIfInBounds_toArray, List.set_cons_zero, List.set_cons_succ])
          (refine plan_take (v := ?_) rfl ?_ ?_; rotate_left; (intro wS hSw; (try dsimp only at hSw); go_simp; try with_reducible rfl); simp only [Act.put, List.setIfInBounds_toArray, List.set_cons_zero, List.set_cons_succ])
          (refine plan_take (v := ?_) rfl ?_ ?_; rotate_left; (intro wS hSw; (try dsimp only at hSw); go_simp; try with_reducible rfl); simp only [Act.put, List.setIfInBounds_toArray, List.set_cons_zero, List.set_cons_succ])
          (refine plan_take (v := ?_) rfl ?_ ?_; rotate_left; (intro wS hSw; (try dsimp only at hSw); go_simp; try with_reducible rfl); simp only [Act.put, List.setIfInBounds_toArray, List.set_cons_zero, List.set_cons_succ])
          (refine plan_take (v := ?_) rfl ?_ ?_; rotate_left; (intro wS hSw; (try dsimp only at hSw); go_simp; try with_reducible rfl); simp only [Act.put, List.setIfInBounds_toArray, List.set_cons_zero, List.set_cons_succ])
          (refine plan_take (v := ?_) rfl ?_ ?_; rotate_left; (intro wS hSw; (try dsimp only at hSw); go_simp; try with_reducible rfl); simp only [Act.put, List.setIfInBounds_toArray, List.set_cons_zero, List.set_cons_succ])
          (refine plan_take (v := ?_) rfl ?_ ?_; rotate_left; (intro wS hSw; (try dsimp only at hSw); go_simp; try with_reducible rfl); simp only [Act.put, List.setIfInBounds_toArray, List.set_cons_zero, List.set_cons_succ])
          refine plan_nil ?_
          go_wp2_with fail
          refine NoPanic.normal ?_
          go_wp2_with fail
          go_roundg (gk - 1)
          case measure => omega
          case rel => exact ⟨j + 1, by omega, by go_num, by rw [HS.out]; exact (HB.out.drewN 1).set0 j _⟩
        · obtain rfl : j = 8 := by omega
          have HB2 : Hid (Blk (wr.setRow (w.heap.size + 1) (vw 8 RES)) (w.heap.size + 1) 236 (vw 8 RES)) := HB.out.b1.row _
          rw [← HW.out] at HB
          go_wp2_with (first
            | (refine wpList_load_row rfl 236 (.tmp 2) (by rfl) w.heap.size (by rfl) 236 (vw 8 RES) (0, 0) _ HB.out.b0 Tryz.underlying236 rfl (by rw [vw_size]; exact info236) ?_)
            | (refine wpList_store_row rfl 236 (.tmp 4) (.tmp 107) (by rfl) (w.heap.size + 1) (vw 8 RES) (by rfl) (by rfl) 236 _ HB.out.b1 (by rw [vw_size]; exact info236) (by rw [vw_size, vw_size]) (vw_one _ _) ?_))
          refine bodyPost_ret (results_cell_row (fn := Tryz.f157) rfl _ _ (w.heap.size + 1) 236 (vw 8 RES) (0, 0) _ (by rfl) HB2.out Tryz.underlying236 rfl (by rw [vw_size]; exact info236)) rfl ?_
          exact ⟨rfl, below_setRow HB.out.hb (by omega) _⟩

end Go.Proofs.YtimpjlnbbdfehaaGreatDoor
namespace Go.Proofs.YtimpjlnbbdfehaaGreatDoor
open Go.RowKit Go.Shelf Go.Lib Go.Sort
set_option linter.unusedVariables false
attribute [local go_sem ↓] shr_32_1 shl_32_1 shr_32_2 shl_32_2 shr_32_3 shl_32_3 shr_32_4 shl_32_4 shr_32_5 shl_32_5 shr_32_6 shl_32_6 shr_32_7 shl_32_7 shr_32_8 shl_32_8 shr_32_9 shl_32_9 shr_32_10 shl_32_10 shr_32_11 shl_32_11 shr_32_12 shl_32_12 shr_32_13 shl_32_13 shr_32_14 shl_32_14 shr_32_15 shl_32_15 shr_32_16 shl_32_16 shr_32_17 shl_32_17 shr_32_18 shl_32_18 shr_32_19 shl_32_19 shr_32_20 shl_32_20 shr_32_21 shl_32_21 shr_32_22 shl_32_22 shr_32_23 shl_32_23 shr_32_24 shl_32_24 shr_32_25 shl_32_25 shr_32_26 shl_32_26 shr_32_27 shl_32_27 shr_32_28 shl_32_28 shr_32_29 shl_32_29 shr_32_30 shl_32_30 shr_32_31 shl_32_31 shr_64_3 shl_64_3 shr_64_7 shl_64_7 shr_64_8 shl_64_8 shr_64_16 shl_64_16 shr_64_24 shl_64_24 shr_64_32 shl_64_32 shr_64_40 shl_64_40 shr_64_48 shl_64_48 shr_64_56 shl_64_56
attribute [local go_sem] add_u32 add_u64 and_u8 or_u8 xor_u8 and_u32 or_u32 xor_u32 and_u64 or_u64 xor_u64 conv_32_8 conv_64_8 conv_64_32 conv_8_32 conv_8_64 conv_32_64

theorem fresh_bytes (w : World) (l : List UInt8) : ∀ j u, (bv l)[j]? = some u → (w.alloc (.cells (bv l).toArray 5)).cell? ((⟨w.heap.size, 0, none⟩ : Addr).add j) = some u := fun j u hj => by
  have hb : Blk (w.alloc (.cells (bv l).toArray 5)) w.heap.size 5 (bv l).toArray := Blk.new _ _ _
  rw [add_at, hb.cell, ← Array.getElem?_toList, Nat.zero_add]
  exact hj
theorem wrap_i64_small (n : Int) (h0 : -1000000 ≤ n) (h1 : n < 1000000) : IntKind.i64.wrap n = n := by
  simp [IntKind.wrap, IntKind.bits, IntKind.signed]; omega
/-- How many empty bytes fill a text up. -/
def zerosOf (n : Nat) : Nat := (120 - (n + 1) % 64) % 64
def tailB (n : UInt64) : Nat → List UInt8
  | 0 => []
  | j + 1 => tailB n j ++ [lo8 (n >>> UInt64.ofNat (56 - 8 * j))]
def filledL (l : List UInt8) : List UInt8 := l ++ [128] ++ List.replicate (zerosOf l.length) 0 ++ tailB (UInt64.ofNat (8 * l.length)) 8
theorem tailB_len (n : UInt64) : ∀ j, (tailB n j).length = j
  | 0 => rfl
  | j + 1 => by rw [tailB, List.length_append, tailB_len n j]; rfl
theorem filledL_len (l : List UInt8) : (filledL l).length % 64 = 0 ∧ l.length < (filledL l).length ∧ (filledL l).length ≤ l.length + 72 := by
  unfold filledL
  simp only [List.length_append, List.length_replicate, tailB_len, List.length_cons, List.length_nil]
  unfold zerosOf
  omega
def filledB (s : ByteArray) : ByteArray := ⟨(filledL s.data.toList).toArray⟩
set_option maxHeartbeats 2000000 in
set_option maxRecDepth 100000 in
theorem filled_ok (s : ByteArray) (hs : s.size ≤ 1000000) (w : World) :
    Calls Tryz.prog 156 #[.string s] w fun e w' => e = .returned (.string (filledB s)) ∧ Below w.heap.size w w' := by
  obtain ⟨L, hL⟩ : ∃ L, L = s.data.toList := ⟨_, rfl⟩
  have HR : Hid (filledB s = ⟨(filledL L).toArray⟩) := by rw [hL]; rfl
  have HLS : Hid (L.length = s.size) := by show _ = _; rw [hL]; simp
  go_enter Tryz.func156, Tryz.ntmps156
  go_wp2_with (first
    | (refine wpList_toBytes rfl (.tmp 6) (by rfl) s (by rfl) ?_; intro cap w2 ho hb hz; rw [← hL] at ho; have HO := Lib.hid ho; have HB := Lib.hid hb; clear ho hb hz)
    | (at_builtin; go_must (refine wpList_append_ob rfl (.tmp 7) (.tmp 8) rfl w.heap.size _ L (by rfl) (HO.out.below ((Below.refl _ _).alloc (Nat.le_refl _) _) (Nat.le_refl _)) ⟨w2.heap.size, 0, none⟩ 1 1 [128] (by rfl) rfl (by simp) (fresh_bytes w2 [128]) (by have := HLS.out; simp; omega) (Nat.le_trans HB.out.size (by simp)) ?_; intro v3 w3 ho hb; have HO3 := Lib.hid ho; have HB3 : Hid (Below w.heap.size w w3) := ((HB.out.alloc HB.out.size _).trans hb); clear ho hb)))
  clear HO HB
  obtain ⟨Z, hZ⟩ : ∃ Z, Z = zerosOf L.length := ⟨_, rfl⟩
  have HZ : Hid (Z = (120 - (s.size + 1) % 64) % 64) := by show _ = _; rw [hZ, HLS.out]; rfl
  have HFL : Hid (filledL L = L ++ [128] ++ List.replicate Z 0 ++ tailB (UInt64.ofNat (8 * s.size)) 8) := by show _ = _; rw [hZ, ← HLS.out]; rfl
  clear hZ hL
  go_loopg [3] Z (fun q v wr => ∃ (j : Nat), q + j = Z ∧ OwnB wr w.heap.size v (L ++ [128] ++ List.replicate j 0) ∧ Below w.heap.size w wr)
  case atStart => exact ⟨0, rfl, by simpa using HO3.out, HB3.out⟩
  case round =>
    obtain ⟨j, hj, ho, hb⟩ := hrel
    have HO := Lib.hid ho
    have HB := Lib.hid hb
    clear hb HO3 HB3
    obtain ⟨A, c, hv⟩ := ho.form
    clear ho
    subst hv
    have hll : (L ++ [128] ++ List.replicate j 0).length = s.size + 1 + j := by simp [HLS.out]; omega
    have HLL := Lib.hid hll
    clear hll
    by_cases hlt : j < Z
    · have ht : (((L ++ [128] ++ List.replicate j 0).length : Int) % 64 != 56) = true := by
        have := HZ.out
        rw [HLL.out]
        simp
        omega
      have HR1 : Hid (L ++ [128] ++ List.replicate (j + 1) 0 = L ++ [128] ++ List.replicate j 0 ++ [0]) := by
        show _ = _
        rw [List.replicate_succ']; simp
      generalize L ++ [128] ++ List.replicate j 0 = M at *
      go_wp2_with (at_builtin; go_must (refine wpList_append_ob rfl (.tmp 14) (.tmp 15) rfl w.heap.size _ M (by rfl) (HO.out.below ((Below.refl _ _).alloc (Nat.le_refl _) _) (Nat.le_refl _)) ⟨wr.heap.size, 0, none⟩ 1 1 [0] (by rfl) rfl (by simp) (fresh_bytes wr [0]) (by have := HLL.out; have := HZ.out; simp; omega) (Nat.le_trans HB.out.size (by simp)) ?_; intro v3 w3 ho hb; have HO3 := Lib.hid ho; have HB3 : Hid (Below w.heap.size w w3) := ((HB.out.alloc HB.out.size _).trans hb); clear ho hb))
      go_roundg (gk - 1)
      case measure => omega
      case rel => exact ⟨j + 1, by omega, by rw [HR1.out]; exact HO3.out, HB3.out⟩
    · obtain rfl : j = Z := by omega
      have ht : (((L ++ [128] ++ List.replicate j 0).length : Int) % 64 != 56) = false := by
        have := HZ.out
        rw [HLL.out]
        simp
        omega
      have hn : (s.size : Int) * 8 = n64 (UInt64.ofNat (8 * s.size)) := by
        have e : (UInt64.ofNat (8 * s.size)).toNat = 8 * s.size := UInt64.toNat_ofNat_of_lt' (by simp [UInt64.size]; omega)
        unfold n64
        rw [e]
        omega
      generalize L ++ [128] ++ List.replicate j 0 = M at *
      generalize UInt64.ofNat (8 * s.size) = n at *
      go_wp2_with fail
      go_loopg [5, 3] (8 : Nat) (fun q i v wr => ∃ (j : Nat), q + j = 8 ∧ i = .int .i64 (56 - 8 * (j : Int)) ∧ OwnB wr w.heap.size v (M ++ tailB n j) ∧ Below w.heap.size w wr)
      case atStart => exact ⟨0, rfl, rfl, by simpa [tailB] using HO.out, HB.out⟩
      case round =>
        obtain ⟨j, hj, rfl, ho, hb⟩ := hrel
        have HO1 := Lib.hid ho
        have HB1 := Lib.hid hb
        clear hb HO HB
        obtain ⟨A, c, hv⟩ := ho.form
        clear ho
        subst hv
        have HS : Hid (tailB n (j + 1) = tailB n j ++ [lo8 (n >>> UInt64.ofNat (56 - 8 * j))]) := rfl
        have HL2 : Hid ((M ++ tailB n j).length = M.length + j) := by show _ = _; rw [List.length_append, tailB_len]
        by_cases hlt : j < 8
        · obtain ⟨k, hk, hkj⟩ : ∃ k : Nat, 56 - 8 * (j : Int) = (k : Int) ∧ k = 56 - 8 * j := ⟨56 - 8 * j, by omega, rfl⟩
          have hsh := shr_64 n .i64 k (by omega)
          have wk := wrap_i64_small ((k : Int) - 8) (by omega) (by omega)
          have hd : decide (0 ≤ (k : Int)) = true := by simp
          have HK : Hid ((k : Int) - 8 = 56 - 8 * ((j + 1 : Nat) : Int)) := by show _ = _; omega
          rw [← hkj] at HS
          rw [hk]
          clear hk hkj
          generalize n >>> UInt64.ofNat k = nk at *
          generalize hM2 : M ++ tailB n j = M2 at *
          have HM2 := Lib.hid hM2
          clear hM2
          go_wp2_with (at_builtin; go_must (refine wpList_append_ob rfl (.tmp 25) (.tmp 30) rfl w.heap.size _ M2 (by rfl) (HO1.out.below ((Below.refl _ _).alloc (Nat.le_refl _) _) (Nat.le_refl _)) ⟨wr.heap.size, 0, none⟩ 1 1 [lo8 nk] (by rfl) rfl (by simp) (fresh_bytes wr [lo8 nk]) (by have := HLL.out; have := HL2.out; have := HZ.out; simp; omega) (Nat.le_trans HB1.out.size (by simp)) ?_; intro v3 w3 ho hb; have HO3 := Lib.hid ho; have HB3 : Hid (Below w.heap.size w w3) := ((HB1.out.alloc HB1.out.size _).trans hb); clear ho hb))
          go_roundg (gk - 1)
          case measure => omega
          case rel => exact ⟨j + 1, by omega, by rw [HK.out], by rw [HS.out, ← List.append_assoc, HM2.out]; exact HO3.out, HB3.out⟩
        · obtain rfl : j = 8 := by omega
          have hcv := conv_ob HO1.out
          rw [show (56 - 8 * ((8 : Nat) : Int)) = -8 by rfl]
          generalize M ++ tailB n 8 = M2 at *
          go_wp2_with fail
          go_ret
          exact ⟨by rw [HR.out, HFL.out]; rfl, HB1.out⟩

end Go.Proofs.YtimpjlnbbdfehaaGreatDoor
namespace Go.Proofs.YtimpjlnbbdfehaaGreatDoor
open Go.RowKit Go.Shelf Go.Lib Go.Sort
set_option linter.unusedVariables false
attribute [local go_sem ↓] shr_32_1 shl_32_1 shr_32_2 shl_32_2 shr_32_3 shl_32_3 shr_32_4 shl_32_4 shr_32_5 shl_32_5 shr_32_6 shl_32_6 shr_32_7 shl_32_7 shr_32_8 shl_32_8 shr_32_9 shl_32_9 shr_32_10 shl_32_10 shr_32_11 shl_32_11 shr_32_12 shl_32_12 shr_32_13 shl_32_13 shr_32_14 shl_32_14 shr_32_15 shl_32_15 shr_32_16 shl_32_16 shr_32_17 shl_32_17 shr_32_18 shl_32_18 shr_32_19 shl_32_19 shr_32_20 shl_32_20 shr_32_21 shl_32_21 shr_32_22 shl_32_22 shr_32_23 shl_32_23 shr_32_24 shl_32_24 shr_32_25 shl_32_25 shr_32_26 shl_32_26 shr_32_27 shl_32_27 shr_32_28 shl_32_28 shr_32_29 shl_32_29 shr_32_30 shl_32_30 shr_32_31 shl_32_31 shr_64_3 shl_64_3 shr_64_7 shl_64_7 shr_64_8 shl_64_8 shr_64_16 shl_64_16 shr_64_24 shl_64_24 shr_64_32 shl_64_32 shr_64_40 shl_64_40 shr_64_48 shl_64_48 shr_64_56 shl_64_56
attribute [local go_sem] add_u32 add_u64 and_u8 or_u8 xor_u8 and_u32 or_u32 xor_u32 and_u64 or_u64 xor_u64 conv_32_8 conv_64_8 conv_64_32 conv_8_32 conv_8_64 conv_32_64

/-- The words of a sum behind so many blocks of a filled text. -/
def sumW (t : ByteArray) : Nat → Nat → UInt32
  | 0 => sha0
  | j + 1 => withF (sumW t j) (t.extract (64 * j) (64 * j + 64))
def bytes4 (x : UInt32) : List UInt8 := [b8 (x >>> 24), b8 (x >>> 16), b8 (x >>> 8), b8 x]
def sumL (f : Nat → UInt32) : Nat → List UInt8
  | 0 => []
  | j + 1 => sumL f j ++ bytes4 (f j)
theorem sumL_len (f : Nat → UInt32) : ∀ j, (sumL f j).length = 4 * j
  | 0 => rfl
  | j + 1 => by rw [sumL, List.length_append, sumL_len f j]; rfl
/-- A text's sum. -/
def sumB (s : ByteArray) : ByteArray := ⟨(sumL (sumW (filledB s) ((filledB s).size / 64)) 8).toArray⟩
theorem sumB_size (s : ByteArray) : (sumB s).size = 32 := by
  show (sumL _ 8).toArray.size = 32
  rw [List.size_toArray, sumL_len]
theorem filledB_size (s : ByteArray) : (filledB s).size = (filledL s.data.toList).length := by
  show (filledL _).toArray.size = _
  rw [List.size_toArray]
theorem wrap_i64_pos (n : Int) (h0 : 0 ≤ n) (h1 : n < 1000000000000) : IntKind.i64.wrap n = n := by
  simp [IntKind.wrap, IntKind.bits, IntKind.signed]; omega
theorem exec_load_row {P : Program} {o : Oper} {ev : Operand → Value} {w : World} (ty : TypeId) (x : Operand) (ho : o.op = .load ty x)
    (g : Nat) (hx : ev x = .pointer (some ⟨g, 0, none⟩)) (t : TypeId) (cs : Array Value) (fr : Nat × Nat) (d : TypeDesc) (hg : w.heap[g]? = some (.cells cs t fr))
    (hu : P.underlying ty = some d) (hd : (match d with | .struct _ | .array _ _ => true | _ => false) = true) (hi : (P.info? ty).map (·.size) = some cs.size) :
    (execOp ev o).run P w = .ok (.value (.agg cs)) w := by
  unfold execOp
  simp only [ho, hx, Instr.loadAt, Instr.sureAddr, Sem.run_bind, Sem.run_pure, Result.andThen_ok, run_loadVar_row w g t ty cs fr d hg hu hd hi]
structure UB (w : World) (g : Nat) (f : Nat → UInt32) (y : World) : Prop where
  b0 : Blk y g 236 (vw 8 f)
  hb : Below w.heap.size w y
set_option maxHeartbeats 2000000 in
set_option maxRecDepth 100000 in
theorem Sum_ok (s : ByteArray) (hs : s.size ≤ 1000000) (w : World) (hT : Salts w) :
    Calls Tryz.prog 112 #[.string s] w fun e w' => e = .returned (.string (sumB s)) ∧ Below w.heap.size w w' := by
  obtain ⟨i5, hi5, hz0, hz1, hz2⟩ := info_parts info5
  have HT := Lib.hid hT
  have HFR := Lib.hid fresh_ok
  have HFI := Lib.hid (fun w => filled_ok s hs w)
  have HWI := Lib.hid with_ok
  have hfl := filledL_len s.data.toList
  rw [← filledB_size] at hfl
  have hss : s.data.toList.length = s.size := by simp
  rw [hss] at hfl
  have HR : Hid (sumB s = ⟨(sumL (sumW (filledB s) ((filledB s).size / 64)) 8).toArray⟩) := rfl
  clear hT hss
  generalize sumB s = RES at *
  generalize filledB s = t at *
  obtain ⟨N, hN⟩ : ∃ N, t.size = 64 * N := ⟨t.size / 64, by omega⟩
  have HN := Lib.hid hN
  rw [show t.size / 64 = N by omega] at HR
  have HNB : Hid (64 * N ≤ 1000072) := by show _ ≤ _; omega
  clear hN hfl
  go_enter Tryz.func112, Tryz.ntmps112
  go_wp2_with fail
  refine (HFR.out _).mono ?_
  rintro e w1 ⟨rfl, hb⟩
  have HB1 := Lib.hid hb
  clear hb
  go_wp2_with fail
  refine (HFI.out _).mono ?_
  rintro e w2 ⟨rfl, hb⟩
  have HB2 := Lib.hid (HB1.out.trans (hb.mono HB1.out.size))
  clear hb HB1
  have e0 : (vw 8 fun _ => 0) = #[.int .u32 0, .int .u32 0, .int .u32 0, .int .u32 0, .int .u32 0, .int .u32 0, .int .u32 0, .int .u32 0] := by rfl
  have HA0 : Hid (Blk (w2.alloc (.cells (vw 8 fun _ => 0) 236)) w2.heap.size 236 (vw 8 fun _ => 0)) := Blk.new w2 236 _
  have HU0 : Hid (UB w w2.heap.size (sumW t 0) ((w2.alloc (.cells (vw 8 fun _ => 0) 236)).setRow w2.heap.size (vw 8 sha0))) := ⟨HA0.out.row _, below_setRow (HB2.out.alloc HB2.out.size _) HB2.out.size _⟩
  have HG : Hid (w.heap.size ≤ w2.heap.size) := HB2.out.size
  rw [e0] at HA0 HU0
  go_wp2_with (first
    | (refine wpList_store_row rfl 236 (.tmp 3) (.tmp 9) (by rfl) w2.heap.size (vw 8 sha0) (by rfl) (by rfl) 236 _ HA0.out info236 (by rw [vw_size]; rfl) (vw_one _ _) ?_))
  clear HA0 e0 HB2 HFR HFI
  generalize w2.heap.size = g at *
  generalize (w2.alloc (.cells #[.int .u32 0, .int .u32 0, .int .u32 0, .int .u32 0, .int .u32 0, .int .u32 0, .int .u32 0, .int .u32 0] 236)).setRow g (vw 8 sha0) = w3 at *
  go_loopg [5] N (fun q i wr => ∃ (j : Nat), q + j = N ∧ i = .int .i64 (64 * (j : Int)) ∧ UB w g (sumW t j) wr)
  case atStart => exact ⟨0, rfl, rfl, HU0.out⟩
  case round =>
    obtain ⟨j, hj, rfl, hb⟩ := hrel
    have HU := Lib.hid hb
    clear hb HU0
    have htn : (t.size : Int) = 64 * (N : Int) := by have := HN.out; omega
    by_cases hlt : j < N
    · have hd : decide (64 * (j : Int) < 64 * (N : Int)) = true := by simp; omega
      have hsl := fun w => slice_mid t (64 * j) (64 * j + 64) (64 * (j : Int)) (64 * (j : Int) + 64) (by omega) (by omega) (by omega) (by rw [HN.out]; omega) w
      have HXS : Hid ((t.extract (64 * j) (64 * j + 64)).size = 64) := by show _ = _; rw [ByteArray.size_extract, HN.out]; omega
      have HS : Hid (sumW t (j + 1) = withF (sumW t j) (t.extract (64 * j) (64 * j + 64))) := rfl
      have wk := wrap_i64_pos (64 * (j : Int) + 64) (by omega) (by have := HNB.out; omega)
      generalize t.extract (64 * j) (64 * j + 64) = x at *
      generalize sumW t j = f at *
      go_wp2_with fail
      refine wp_region_plan (fun w' => Blk w' g 236 (vw 8 f)) 7 [(true, 0), (true, 1), (true, 2), (true, 3), (true, 4), (true, 5), (false, 6)] (by kernel_rfl) (by kernel_rfl) HU.out.b0 ?_
      simp only [List.map_cons, List.map_nil, List.getD_cons_zero, List.getD_cons_succ, List.drop_succ_cons, List.drop_zero]
      (refine plan_take (v := ?_) rfl ?_ ?_; rotate_left; (intro wS hSw; (try dsimp only at hSw); (refine exec_load_row 236 (.tmp 3) ?_ g ?_ 236 (vw 8 f) (0, 0) _ hSw Tryz.underlying236 rfl (by rw [vw_size]; exact info236) <;> rfl)); simp only [Act.put, List.setIfInBounds_toArray, List.set_cons_zero, List.set_cons_succ])
      (refine plan_take (v := ?_) rfl ?_ ?_; rotate_left; (intro wS hSw; (try dsimp only at hSw); go_simp; try with_reducible rfl); simp only [Act.put, List.setIfInBounds_toArray, List.set_cons_zero, List.set_cons_succ])
      (refine plan_take (v := ?_) rfl ?_ ?_; rotate_left; (intro wS hSw; (try dsimp only at hSw); go_simp; try with_reducible rfl); simp only [Act.put, List.setIfInBounds_toArray, List.set_cons_zero, List.set_cons_succ])
      (refine plan_take (v := ?_) rfl ?_ ?_; rotate_left; (intro wS hSw; (try dsimp only at hSw); go_simp; try with_reducible rfl); simp only [Act.put, List.setIfInBounds_toArray, List.set_cons_zero, List.set_cons_succ])
      (refine plan_take (v := ?_) rfl ?_ ?_; rotate_left; (intro wS hSw; (try dsimp only at hSw); go_simp; try with_reducible rfl); simp only [Act.put, List.setIfInBounds_toArray, List.set_cons_zero, List.set_cons_succ])
      (refine plan_take (v := ?_) rfl ?_ ?_; rotate_left; (intro wS hSw; (try dsimp only at hSw); go_simp; try with_reducible rfl); simp only [Act.put, List.setIfInBounds_toArray, List.set_cons_zero, List.set_cons_succ])
      refine plan_run rfl (fun K hK => ?_)
      go_simp
      refine (HWI.out f x HXS.out _ (HT.out.below (below_drewN HU.out.hb 1))).mono ?_
      rintro e w4 ⟨rfl, hb⟩
      have HB4 : Hid (Below wr.heap.size wr.drew w4) := hb
      clear hb
      have HB5 : Hid (Blk w4 g 236 (vw 8 f)) := (HB4.out.block _ HU.out.b0.lt).trans HU.out.b0
      refine hK.out _ _ HB5.out ?_
      clear hK K
      try simp only [Act.put, List.setIfInBounds_toArray, List.set_cons_zero, List.set_cons_succ]
      refine plan_nil ?_
      go_wp2_with (refine wpList_store_row rfl 236 (.tmp 3) (.tmp 24) (by rfl) g (vw 8 (withF f x)) (by rfl) (by rfl) 236 _ HB5.out (by rw [vw_size]; exact info236) (by rw [vw_size, vw_size]) (vw_one _ _) ?_)
      refine NoPanic.normal ?_
      go_wp2_with fail
      have HU6 : Hid (UB w g (withF f x) (w4.setRow g (vw 8 (withF f x)))) := ⟨HB5.out.row _, below_setRow ((below_drewN HU.out.hb 1).trans (HB4.out.mono HU.out.hb.size)) HG.out _⟩
      go_roundg (gk - 1)
      case measure => omega
      case rel => exact ⟨j + 1, by omega, by go_num, by rw [HS.out]; exact HU6.out⟩
    · obtain rfl : j = N := by omega
      have hd : decide (64 * (j : Int) < 64 * (j : Int)) = false := by simp
      generalize sumW t j = f at *
      go_wp2_with (first
        | (refine wpList_load_row rfl 236 (.tmp 3) (by rfl) g (by rfl) 236 (vw 8 f) (0, 0) _ HU.out.b0 Tryz.underlying236 rfl (by rw [vw_size]; exact info236) ?_))
      go_loopg [26, 6] (8 : Nat) (fun q i v wr => ∃ (k : Nat), q + k = 8 ∧ i = .int .i64 (k : Int) ∧ OwnB wr w.heap.size v (sumL f k) ∧ Below w.heap.size w wr)
      case atStart => exact ⟨0, rfl, rfl, OwnB.nil _ _, HU.out.hb⟩
      case round =>
        obtain ⟨k, hk, rfl, ho, hb⟩ := hrel
        have HO := Lib.hid ho
        have HB := Lib.hid hb
        obtain ⟨A, c, hv⟩ := ho.form
        clear ho hb HU
        subst hv
        have HSL : Hid (sumL f (k + 1) = sumL f k ++ [b8 (f k >>> 24), b8 (f k >>> 16), b8 (f k >>> 8), b8 (f k)]) := rfl
        have HLL : Hid ((sumL f k).length = 4 * k) := sumL_len f k
        by_cases hlt2 : k < 8
        · have hix := fun w => ix_vw 8 f 236 Tryz.underlying236 k hlt2 w
          generalize f k = x at *
          generalize sumL f k = M at *
          go_wp2_with (at_builtin; go_must (refine wpList_append_ob rfl (.tmp 29) (.tmp 41) rfl w.heap.size _ M (by rfl) (HO.out.below ((Below.refl _ _).alloc (Nat.le_refl _) _) (Nat.le_refl _)) ⟨wr.heap.size, 0, none⟩ 4 4 [b8 (x >>> 24), b8 (x >>> 16), b8 (x >>> 8), b8 x] (by rfl) rfl (by simp) (fresh_bytes wr _) (by have := HLL.out; simp; omega) (Nat.le_trans HB.out.size (by simp)) ?_; intro v3 w3 ho hb; have HO3 := Lib.hid ho; have HB3 : Hid (Below w.heap.size w w3) := ((HB.out.alloc HB.out.size _).trans hb); clear ho hb))
          go_roundg (gk - 1)
          case measure => omega
          case rel => exact ⟨k + 1, by omega, by go_num, by rw [HSL.out]; exact HO3.out, HB3.out⟩
        · obtain rfl : k = 8 := by omega
          have hcv := conv_ob HO.out
          generalize sumL f 8 = M at *
          go_wp2_with fail
          go_ret
          exact ⟨by rw [HR.out]; rfl, HB.out⟩

end Go.Proofs.YtimpjlnbbdfehaaGreatDoor
