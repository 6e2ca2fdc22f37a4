import Derived.Test.YtimpjlnbbdfehaaGreatDoorGH
namespace Go.Proofs.YtimpjlnbbdfehaaGreatDoor
open Go.RowKit Go.Shelf Go.Lib Go.Sort
set_option linter.unusedVariables false
attribute [local go_sem ↓] shr_32_1 shl_32_1 shr_32_2 shl_32_2 shr_32_3 shl_32_3 shr_32_4 shl_32_4 shr_32_5 shl_32_5 shr_32_6 shl_32_6 shr_32_7 shl_32_7 shr_32_8 shl_32_8 shr_32_9 shl_32_9 shr_32_10 shl_32_10 shr_32_11 shl_32_11 shr_32_12 shl_32_12 shr_32_13 shl_32_13 shr_32_14 shl_32_14 shr_32_15 shl_32_15 shr_32_16 shl_32_16 shr_32_17 shl_32_17 shr_32_18 shl_32_18 shr_32_19 shl_32_19 shr_32_20 shl_32_20 shr_32_21 shl_32_21 shr_32_22 shl_32_22 shr_32_23 shl_32_23 shr_32_24 shl_32_24 shr_32_25 shl_32_25 shr_32_26 shl_32_26 shr_32_27 shl_32_27 shr_32_28 shl_32_28 shr_32_29 shl_32_29 shr_32_30 shl_32_30 shr_32_31 shl_32_31 shr_64_3 shl_64_3 shr_64_7 shl_64_7 shr_64_8 shl_64_8 shr_64_16 shl_64_16 shr_64_24 shl_64_24 shr_64_32 shl_64_32 shr_64_40 shl_64_40 shr_64_48 shl_64_48 shr_64_56 shl_64_56
attribute [local go_sem] add_u32 add_u64 and_u8 or_u8 xor_u8 and_u32 or_u32 xor_u32 and_u64 or_u64 xor_u64 conv_32_8 conv_64_8 conv_64_32 conv_8_32 conv_8_64 conv_32_64


theorem slice_min (s : ByteArray) (k : Nat) (w : World) : (Instr.slice 9 (.string s) none (some (.int .i64 (min (s.size : Int) (k : Int)))) none).run Tryz.prog w = .ok (.string (s.extract 0 (min s.size k))) w :=
  slice_to s _ (min s.size k) (by omega) (Nat.min_le_left _ _) w
set_option maxHeartbeats 8000000 in
set_option maxRecDepth 100000 in
theorem none_walk (n : Int) (s : ByteArray) (w : World) (hT : Salts w) : Calls Tryz.prog 6 #[.int .i64 n, .string s] w fun e w' => e = .returned (.bool true) ∧ Below w.heap.size w w' := by
  have HT := Lib.hid hT
  have B0 := Lib.hid (Below.refl w.heap.size w)
  have HM : Hid (∀ w, Salts w → Calls Tryz.prog 16 #[.int .i64 5, .int .i64 1] w (Made 5 1 w)) := fun w h => made_ok 5 1 (by omega) (by omega) w h
  have HRD := Lib.hid (fun w1 i own (h1 : SysC w1 i (PS.new 5 1) own) => read_bad h1 ⟨n, s.extract 0 (min s.size 31)⟩ (by show (s.extract 0 (min s.size 31)).size ≠ 32; rw [ByteArray.size_extract]; omega))
  have hsl : ∀ w, (Instr.slice 9 (.string s) none (some (.int .i64 (min (s.size : Int) 31))) none).run Tryz.prog w = .ok (.string (s.extract 0 (min s.size 31))) w := fun w => slice_min s 31 w
  dsimp only at HRD
  generalize s.extract 0 (min s.size 31) = sh at *
  clear hT
  go_enter Tryz.func6, Tryz.ntmps6
  go_wp2_with fail
  refine (epoch_nil 1 _).mono ?_
  rintro e w1 ⟨rfl, hb⟩
  have B1 : Hid (Below w.heap.size w w1) := B0.out.trans (hb.mono B0.out.size)
  clear hb B0
  go_wp2_with fail
  refine (drop_nil n ⟨#[]⟩ _).mono ?_
  rintro e w2 ⟨rfl, hb⟩
  have B2 : Hid (Below w.heap.size w w2) := B1.out.trans (hb.mono B1.out.size)
  clear hb B1
  go_wp2_with fail
  refine (done_nil _).mono ?_
  rintro e w3 ⟨rfl, hb⟩
  have B3 : Hid (Below w.heap.size w w3) := B2.out.trans (hb.mono B2.out.size)
  clear hb B2
  go_wp2_with fail
  refine (undo_nil _).mono ?_
  rintro e w4 ⟨rfl, hb⟩
  have B4 : Hid (Below w.heap.size w w4) := B3.out.trans (hb.mono B3.out.size)
  clear hb B3
  go_wp2_with fail
  refine (lay_nil n s _).mono ?_
  rintro e w5 ⟨rfl, hb⟩
  have B5 : Hid (Below w.heap.size w w5) := B4.out.trans (hb.mono B4.out.size)
  clear hb B4
  go_wp2_with fail
  refine (fetch_nil n s _).mono ?_
  rintro e w6 ⟨rfl, hb⟩
  have B6 : Hid (Below w.heap.size w w6) := B5.out.trans (hb.mono B5.out.size)
  clear hb B5
  have HA : Hid (Blk (w6.alloc (.cells #[.int .u32 0, .int .u64 0, .int .u32 0] 36)) w6.heap.size 36 #[.int .u32 0, .int .u64 0, .int .u32 0]) := Blk.new _ 36 _
  have B7 : Hid (Below w.heap.size w ((w6.alloc (.cells #[.int .u32 0, .int .u64 0, .int .u32 0] 36)).setRow w6.heap.size #[.int .u32 0, .int .u64 0, .int .u32 0])) := below_setRow (B6.out.alloc B6.out.size _) B6.out.size _
  clear B6
  go_wp2_with (first
    | (refine wpList_store_row rfl 36 (.tmp 9) (.tmp 49) (by rfl) w6.heap.size #[.int .u32 0, .int .u64 0, .int .u32 0] (by rfl) (by rfl) 36 _ HA.out info36 (by rfl) (by simp [Value.oneCell']) ?_; generalize (w6.alloc (.cells #[.int .u32 0, .int .u64 0, .int .u32 0] 36)).setRow w6.heap.size #[.int .u32 0, .int .u64 0, .int .u32 0] = w7 at *)
    | fail)
  clear HA
  refine (read_nil 0 ⟨#[]⟩ _).mono ?_
  rintro e w8 ⟨rfl, hb⟩
  have B8 : Hid (Below w.heap.size w w8) := B7.out.trans (hb.mono B7.out.size)
  clear hb B7
  go_wp2_with fail
  refine (write_nil s _).mono ?_
  rintro e w9 ⟨rfl, hb⟩
  have B9 : Hid (Below w.heap.size w w9) := B8.out.trans (hb.mono B8.out.size)
  clear hb B8
  have HA : Hid (Blk (w9.alloc (.cells #[.int .i64 0, .string ⟨#[]⟩] 54)) w9.heap.size 54 #[.int .i64 0, .string ⟨#[]⟩]) := Blk.new _ 54 _
  have B10 : Hid (Below w.heap.size w ((w9.alloc (.cells #[.int .i64 0, .string ⟨#[]⟩] 54)).setRow w9.heap.size #[.int .i64 (-1), .string ⟨#[]⟩])) := below_setRow (B9.out.alloc B9.out.size _) B9.out.size _
  clear B9
  go_wp2_with (first
    | (refine wpList_store_row rfl 54 (.tmp 15) (.tmp 63) (by rfl) w9.heap.size #[.int .i64 (-1), .string ⟨#[]⟩] (by rfl) (by rfl) 54 _ HA.out info54 (by rfl) (by simp [Value.oneCell']) ?_; generalize (w9.alloc (.cells #[.int .i64 0, .string ⟨#[]⟩] 54)).setRow w9.heap.size #[.int .i64 (-1), .string ⟨#[]⟩] = w10 at *)
    | fail)
  clear HA
  refine (kept_nil _).mono ?_
  rintro e w11 ⟨rfl, hb⟩
  have B11 : Hid (Below w.heap.size w w11) := B10.out.trans (hb.mono B10.out.size)
  clear hb B10
  go_wp2_with fail
  refine (HM.out _ (HT.out.below B11.out)).mono ?_
  rintro e w12 ⟨i, own, rfl, hs, hb, hz⟩
  have HS := Lib.hid hs
  have B12 : Hid (Below w.heap.size w w12) := B11.out.trans (hb.mono B11.out.size)
  have HZ : Hid (∀ j, j < w.heap.size → own j = 0) := fun j hj => hz j (Nat.lt_of_lt_of_le hj B11.out.size)
  clear hs hb hz B11
  go_wp2_with fail
  refine (HRD.out _ _ _ HS.out).mono ?_
  rintro e w13 ⟨rfl, own2, h2, k2⟩
  have B13 := Lib.hid (below_keeps B12.out B12.out.size HZ.out k2)
  clear h2 k2 B12 HZ HS
  go_wp2_with fail
  refine (aw_ok _ (HT.out.below B13.out)).mono ?_
  rintro e w14 ⟨rfl, hb⟩
  have B14 : Hid (Below w.heap.size w w14) := B13.out.trans (hb.mono B13.out.size)
  clear hb B13
  go_wp2_with fail
  refine (space_nil _).mono ?_
  rintro e w15 ⟨rfl, hb⟩
  have B15 : Hid (Below w.heap.size w w15) := B14.out.trans (hb.mono B14.out.size)
  clear hb B14
  go_wp2_with fail
  go_ret
  exact ⟨rfl, B15.out⟩

theorem pagerNone_walk (n : Int) (hn : (Lit.int .i64 n).wf = true) (s : ByteArray) (hs : s.size ≤ maxLen) (w : World) (hT : Salts w) : Calls Tryz.prog 6 #[.int .i64 n, .string s] w fun e w' => e = .returned (.bool true) ∧ Below w.heap.size w w' := none_walk n s w hT

end Go.Proofs.YtimpjlnbbdfehaaGreatDoor
